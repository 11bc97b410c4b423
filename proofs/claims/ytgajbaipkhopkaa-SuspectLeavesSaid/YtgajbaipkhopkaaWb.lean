/- Contracts: a new watch. -/
import Derived.Test.YtgajbaipkhopkaaWa
namespace Go.Proofs.Ytgajbaipkhopkaa
open Go.RowKit

def newOk (c self wait : Int) : Bool := and3 (rightB c) (inB self 0 (wrap64 (c - 1))) (inB wait 1 1000000)
def St.new (c self wait : Int) (k : Nat) : St := { now := 0, c := c, self := self, wait := wait, pl := fun p => { since := 0, wait := if p < k then wait else 0, susp := false } }

theorem right_bounds {c : Int} (h : rightB c = true) : 3 ≤ c ∧ c ≤ 9 := by
  simp [rightB, and2, inH] at h; omega

set_option maxHeartbeats 400000 in
theorem new_no (c self wait : Int) (w : World) (h : newOk c self wait = false) :
    Calls Try.prog 9 #[.int .i64 c, .int .i64 self, .int .i64 wait] w fun e w' => e = .returned (.tuple #[.pointer none, .int .i64 2]) ∧ Below w.heap.size w w' := by
  have H := Lib.hid h; clear h
  go_enter Try.func9, Try.ntmps9
  go_wp2_with fail
  refine (check_any _ _).mono ?_; rintro e w1 ⟨rfl, hb⟩
  have Hr : Hid (((if rightB c then (0:Int) else 2) == 0) = rightB c) := Lib.hid (by cases rightB c <;> rfl)
  generalize (if rightB c then (0:Int) else 2) = r at Hr ⊢
  go_wp2_with fail
  refine (inI _ _ _ _).mono ?_; rintro e w' ⟨rfl, rfl⟩
  go_wp2_with fail
  refine (in64 _ _ _ _).mono ?_; rintro e w' ⟨rfl, rfl⟩
  go_wp2_with fail
  refine (all3 _ _ _ _ _ (blk0 rfl) (blk0 rfl) (blk0 rfl)).mono ?_; rintro e w' ⟨rfl, rfl⟩
  rw [Hr.out]
  have e1 : and3 (rightB c) (inB self 0 (wrap64 (c - 1))) (inB wait 1 1000000) = false := H.out
  rw [e1]
  go_wp2
  go_ret2
  exact ⟨rfl, hb.alloc hb.size _⟩

set_option maxHeartbeats 1000000 in
theorem new_ok (c self wait : Int) (w : World) (h : newOk c self wait = true) :
    Calls Try.prog 9 #[.int .i64 c, .int .i64 self, .int .i64 wait] w fun e w' => ∃ b, e = .returned (.tuple #[.pointer (some ⟨b, 0, none⟩), .int .i64 0]) ∧ w.heap.size ≤ b ∧ IsW w' b (St.new c self wait c.toNat) ∧ Below w.heap.size w w' := by
  have H := Lib.hid h
  have hrt : rightB c = true := by simp [newOk, and3] at h; exact h.1.1
  clear h
  have hc := right_bounds hrt
  obtain ⟨hc1, hc2⟩ := hc
  have Hrt := Lib.hid hrt; clear hrt
  go_enter Try.func9, Try.ntmps9
  go_wp2_with fail
  refine (check_any _ _).mono ?_; rintro e w1 ⟨rfl, hb⟩
  rw [if_pos Hrt.out]
  go_wp2_with fail
  refine (inI _ _ _ _).mono ?_; rintro e w' ⟨rfl, rfl⟩
  go_wp2_with fail
  refine (in64 _ _ _ _).mono ?_; rintro e w' ⟨rfl, rfl⟩
  go_wp2_with fail
  refine (all3 _ _ _ _ _ (blk0 rfl) (blk0 rfl) (blk0 rfl)).mono ?_; rintro e w' ⟨rfl, rfl⟩
  have e1 : and3 true (inB self 0 (c - 1)) (inB wait 1 1000000) = true := by
    have := H.out; unfold newOk at this; rw [Hrt.out, IntWalk.wrap64_in _ (by omega)] at this; exact this
  rw [e1]
  clear e1
  have hW0 : IsW ((w1.alloc (.cells #[.bool true, .bool (inB self 0 (c - 1)), .bool (inB wait 1 1000000)] 4)).alloc (.cells #[.int .i64 0, .int .i64 c, .int .i64 self, .int .i64 wait, .int .i64 0, .int .i64 0, .bool false, .int .i64 0, .int .i64 0, .bool false, .int .i64 0, .int .i64 0, .bool false, .int .i64 0, .int .i64 0, .bool false, .int .i64 0, .int .i64 0, .bool false, .int .i64 0, .int .i64 0, .bool false, .int .i64 0, .int .i64 0, .bool false, .int .i64 0, .int .i64 0, .bool false, .int .i64 0, .int .i64 0, .bool false] 58)) (w1.heap.size + 1) (St.new c self wait 0) := by
    refine ⟨_, (World.size_alloc w1 _) ▸ Blk.new _ _ _, ?_⟩
    refine ⟨rfl, rfl, rfl, rfl, rfl, ?_, ?_, ?_⟩
    all_goals
      intro p hp
      match p, hp with
      | 0, _ => rfl
      | 1, _ => rfl
      | 2, _ => rfl
      | 3, _ => rfl
      | 4, _ => rfl
      | 5, _ => rfl
      | 6, _ => rfl
      | 7, _ => rfl
      | 8, _ => rfl
  go_wp2
  have hB0 := (hb.alloc hb.size (.cells #[.bool true, .bool (inB self 0 (c - 1)), .bool (inB wait 1 1000000)] 4)).alloc (by simp; have := hb.size; omega) (.cells #[.int .i64 0, .int .i64 c, .int .i64 self, .int .i64 wait, .int .i64 0, .int .i64 0, .bool false, .int .i64 0, .int .i64 0, .bool false, .int .i64 0, .int .i64 0, .bool false, .int .i64 0, .int .i64 0, .bool false, .int .i64 0, .int .i64 0, .bool false, .int .i64 0, .int .i64 0, .bool false, .int .i64 0, .int .i64 0, .bool false, .int .i64 0, .int .i64 0, .bool false, .int .i64 0, .int .i64 0, .bool false] 58)
  generalize ((w1.alloc (.cells #[.bool true, .bool (inB self 0 (c - 1)), .bool (inB wait 1 1000000)] 4)).alloc (.cells #[.int .i64 0, .int .i64 c, .int .i64 self, .int .i64 wait, .int .i64 0, .int .i64 0, .bool false, .int .i64 0, .int .i64 0, .bool false, .int .i64 0, .int .i64 0, .bool false, .int .i64 0, .int .i64 0, .bool false, .int .i64 0, .int .i64 0, .bool false, .int .i64 0, .int .i64 0, .bool false, .int .i64 0, .int .i64 0, .bool false, .int .i64 0, .int .i64 0, .bool false, .int .i64 0, .int .i64 0, .bool false] 58)) = w2 at hW0 hB0 ⊢
  have hbb : w.heap.size ≤ w1.heap.size + 1 := by have := hb.size; omega
  clear hb
  generalize w1.heap.size + 1 = b at hW0 hbb ⊢
  go_loopw [28] (fun i wr => ∃ k : Nat, k ≤ c.toNat ∧ i = .int .i64 k ∧ IsW wr b (St.new c self wait k) ∧ Below w.heap.size w wr) (fun i _ => c.toNat - (intOf i).toNat)
  case atStart => exact ⟨0, Nat.zero_le _, rfl, hW0, hB0⟩
  case round =>
    obtain ⟨k, hk, rfl, hWr, hBr⟩ := hrel
    by_cases hlt : k < c.toNat
    · have hlt' : (k : Int) < c := by omega
      have g1 := hWr.p1 (p := k) (by omega)
      have g2 := hWr.fz (4 + k * 3 + 1)
      have hWn := hWr.setWait (p := k) (by omega) wait
      have hBn := hBr.setCell (p := ⟨b, 4 + k * 3 + 1, none⟩) hbb (.int .i64 wait)
      have e2 : (St.new c self wait k).put k { (St.new c self wait k).pl k with wait := wait } = St.new c self wait (k + 1) := by
        simp only [St.new, St.put, St.mk.injEq, true_and]
        funext q
        by_cases hq : q = k
        · subst hq; simp
        · simp only [hq, if_false, Wd.mk.injEq, true_and, and_true]
          by_cases h1 : q < k
          · rw [if_pos h1, if_pos (by omega)]
          · rw [if_neg h1, if_neg (by omega)]
      rw [e2] at hWn
      have HWn := Lib.hid hWn
      have HBn := Lib.hid hBn
      clear hWn hBn e2 hW0
      go_wp2
      go_roundw
      case rel => exact ⟨k + 1, by omega, by go_num, HWn.out, HBn.out⟩
      case measure => simp [intOf]; omega
    · have hge : ¬ (k : Int) < c := by omega
      obtain rfl : k = c.toNat := by omega
      go_wp2
      go_ret2
      exact ⟨b, rfl, hbb, hWr, hBr⟩
end Go.Proofs.Ytgajbaipkhopkaa
