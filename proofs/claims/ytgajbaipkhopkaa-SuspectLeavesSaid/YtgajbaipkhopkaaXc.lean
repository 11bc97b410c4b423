/- The reference's New. -/
import Derived.Test.YtgajbaipkhopkaaXb
namespace Go.Proofs.Ytgajbaipkhopkaa
open Go.RowKit

def rnewOk (c self wait : Int) : Bool := rightB c && (decide (0 ≤ self) && decide (self < c)) && decide (1 ≤ wait) && decide (wait ≤ 1000000)
theorem rnewOk_eq (c self wait : Int) : rnewOk c self wait = newOk c self wait := by
  unfold rnewOk newOk and3
  cases h : rightB c
  · rfl
  · have hb := right_bounds h
    rw [IntWalk.wrap64_in _ (by omega)]
    unfold inB
    rw [Bool.eq_iff_iff]
    simp
    omega
theorem und35 : (match Try.prog.underlying 35 with | some (.struct _) => true | _ => false) = true := by kernel_rfl

theorem Blk.new2 (w : World) (o : Obj) (t : TypeId) (cs : Array Value) : Blk ((w.alloc o).alloc (.cells cs t)) (w.heap.size + 1) t cs := by
  have := Blk.new (w.alloc o) t cs
  rwa [World.size_alloc] at this
theorem below_cell {B g : Nat} {w w' : World} {t : TypeId} {cs : Array Value} (hB : Below B w w) (hg : g = w.heap.size) (hO : Only g (w.alloc (.cells cs t)) w') (hb : B ≤ w.heap.size) : Below B w w' :=
  (hB.alloc hb (.cells cs t)).trans (hO.below (by simp; omega) (by omega))

set_option maxHeartbeats 800000 in
theorem rnew_no (c self wait : Int) (w : World) (h : newOk c self wait = false) :
    Calls Try.prog 10 #[.int .i64 c, .int .i64 self, .int .i64 wait] w fun e w' => (∃ cs, e = .returned (.tuple #[.agg cs, .int .i64 2])) ∧ Below w.heap.size w w' := by
  rw [← rnewOk_eq] at h
  unfold rnewOk at h
  obtain ⟨R, hR⟩ : ∃ R, R = rightB c := ⟨_, rfl⟩
  obtain ⟨S, hS⟩ : ∃ S, S = (decide (0 ≤ self) && decide (self < c)) := ⟨_, rfl⟩
  rw [← hR, ← hS] at h
  have HR := Lib.hid hR; have HS := Lib.hid hS
  clear hR hS
  have Hh := Lib.hid h; clear h
  have hcase : R = false ∨ (R = true ∧ S = false) ∨ (R = true ∧ S = true ∧ wait < 1) ∨ (R = true ∧ S = true ∧ 1 ≤ wait ∧ 1000000 < wait) := by
    have := Hh.out
    simp at this
    cases R
    · exact .inl rfl
    · cases S
      · exact .inr (.inl ⟨rfl, rfl⟩)
      · have := this rfl rfl
        by_cases h1 : 1 ≤ wait
        · exact .inr (.inr (.inr ⟨rfl, rfl, h1, this h1⟩))
        · exact .inr (.inr (.inl ⟨rfl, rfl, by omega⟩))
  clear Hh
  rcases hcase with rfl | ⟨rfl, rfl⟩ | ⟨rfl, rfl, h1⟩ | ⟨rfl, rfl, h1, h2⟩
  · go_enter Try.func10, Try.ntmps10
    go_wp2_with fail
    refine (rright_c _ _).mono ?_; rintro e w' ⟨rfl, rfl⟩
    rw [← HR.out]
    go_wp2_with (refine wpl_store_blk rfl 35 _ _ rfl w.heap.size 35 _ _ rfl rfl (Blk.new w 35 _) rfl (by kernel_rfl) (by kernel_rfl) ?_; intro w3 hB3 hO3 hz3)
    exact bodyPost_ret (results_cell2 rfl _ _ w.heap.size 35 _ _ rfl hB3 Try.underlying35 rfl (by kernel_rfl)) rfl ⟨⟨_, rfl⟩, below_cell (Below.refl _ _) rfl hO3 (Nat.le_refl _)⟩
  all_goals
    go_enter Try.func10, Try.ntmps10
    go_wp2_with fail
    refine (rright_c _ _).mono ?_; rintro e w' ⟨rfl, rfl⟩
    rw [← HR.out]
    go_wp2_with fail
    refine (rplace_c _ _ _).mono ?_; rintro e w' ⟨rfl, rfl⟩
    rw [← HS.out]
    go_wp2_with (refine wpl_store_blk rfl 35 _ _ rfl w.heap.size 35 _ _ rfl rfl (Blk.new w 35 _) rfl (by kernel_rfl) (by kernel_rfl) ?_; intro w3 hB3 hO3 hz3)
    exact bodyPost_ret (results_cell2 rfl _ _ w.heap.size 35 _ _ rfl hB3 Try.underlying35 rfl (by kernel_rfl)) rfl ⟨⟨_, rfl⟩, below_cell (Below.refl _ _) rfl hO3 (Nat.le_refl _)⟩

set_option maxHeartbeats 800000 in
theorem rnew_ok (c self wait : Int) (w : World) (h : newOk c self wait = true) :
    Calls Try.prog 10 #[.int .i64 c, .int .i64 self, .int .i64 wait] w fun e w' => (∃ cs, e = .returned (.tuple #[.agg cs, .int .i64 0]) ∧ RC cs (St.new c self wait c.toNat)) ∧ Below w.heap.size w w' := by
  rw [← rnewOk_eq] at h
  unfold rnewOk at h
  have h' := h
  simp only [Bool.and_eq_true, decide_eq_true_eq] at h'
  obtain ⟨⟨⟨hr, hs1, hs2⟩, h1⟩, h2⟩ := h'
  clear h
  have hrb := right_bounds hr
  obtain ⟨hc1, hc2⟩ := hrb
  have HR := Lib.hid hr; clear hr
  have HS : Hid ((decide (0 ≤ self) && decide (self < c)) = true) := Lib.hid (by simp [hs1, hs2])
  go_enter Try.func10, Try.ntmps10
  go_wp2_with fail
  refine (rright_c _ _).mono ?_; rintro e w' ⟨rfl, rfl⟩
  rw [HR.out]
  go_wp2_with fail
  refine (rplace_c _ _ _).mono ?_; rintro e w' ⟨rfl, rfl⟩
  rw [HS.out]
  have hw1 : ¬ wait < 1 := by omega
  have hw2 : ¬ 1000000 < wait := by omega
  go_wp2_with (refine wpl_store_blk rfl 35 _ _ rfl (w.heap.size + 1) 35 _ _ rfl rfl (Blk.new2 w _ 35 _) rfl (by kernel_rfl) (by kernel_rfl) ?_; intro w3 hB3 hO3 hz3)
  have hR3 : IsR w3 (w.heap.size + 1) (St.new c self wait 0) := by
    refine ⟨_, hB3, ?_⟩
    refine ⟨rfl, rfl, rfl, rfl, rfl, ?_, ?_, ?_⟩
    all_goals
      intro p hp
      rcases (by omega : p = 0 ∨ p = 1 ∨ p = 2 ∨ p = 3 ∨ p = 4 ∨ p = 5 ∨ p = 6 ∨ p = 7 ∨ p = 8) with rfl | rfl | rfl | rfl | rfl | rfl | rfl | rfl | rfl
    all_goals rfl
  have hZ3 := hO3.blk ((Blk.new w 35 _).alloc _) (by omega)
  have hB3' : Below w.heap.size w w3 := (((Below.refl w.heap.size w).alloc (Nat.le_refl _) _).alloc (by simp) _).trans (hO3.below (by simp; omega) (by omega))
  clear hO3 hB3 hz3
  have HR3 := Lib.hid hR3; have HZ3 := Lib.hid hZ3; have HB3 := Lib.hid hB3'
  clear hR3 hZ3 hB3'
  generalize (Value.agg #[.int .i64 c, .int .i64 self, .int .i64 wait, .int .i64 0, .int .i64 0, .int .i64 0, .bool false, .int .i64 0, .int .i64 0, .bool false, .int .i64 0, .int .i64 0, .bool false, .int .i64 0, .int .i64 0, .bool false, .int .i64 0, .int .i64 0, .bool false, .int .i64 0, .int .i64 0, .bool false, .int .i64 0, .int .i64 0, .bool false, .int .i64 0, .int .i64 0, .bool false, .int .i64 0, .int .i64 0, .bool false]) = ag
  go_loopw [9] (fun i wr => ∃ k : Nat, k ≤ c.toNat ∧ i = .int .i64 k ∧ IsR wr (w.heap.size + 1) (St.new c self wait k) ∧ Only (w.heap.size + 1) w3 wr) (fun i _ => c.toNat - (intOf i).toNat)
  case atStart => exact ⟨0, Nat.zero_le _, rfl, HR3.out, Only.refl _ _⟩
  case round =>
    obtain ⟨k, hk, rfl, hWr, hOr⟩ := hrel
    have HOr := Lib.hid hOr; clear hOr
    by_cases hlt : k < c.toNat
    · have hlt' : (k : Int) < c := by omega
      have g1 := hWr.p1 (p := k) (by omega)
      have g2 := hWr.fz (4 + k * 3 + 1)
      have hWn := hWr.setWait (p := k) (by omega) wait
      have HOn := Lib.hid (HOr.out.setCell (p := ⟨w.heap.size + 1, 4 + k * 3 + 1, none⟩) (.inl rfl) (.int .i64 wait))
      have e2 : (St.new c self wait k).put k { (St.new c self wait k).pl k with wait := wait } = St.new c self wait (k + 1) := by
        simp only [St.new, St.put, St.mk.injEq, true_and]
        funext q
        by_cases hq : q = k
        · subst hq; simp
        · simp only [hq, if_false, Wd.mk.injEq, true_and, and_true]
          by_cases h1 : q < k
          · rw [if_pos h1, if_pos (by omega)]
          · rw [if_neg h1, if_neg (by omega)]
      rw [e2] at hWn
      have HWn := Lib.hid hWn
      clear hWn e2
      go_wp2_with fail
      go_roundw
      case rel => exact ⟨k + 1, by omega, by go_num, HWn.out, HOn.out⟩
      case measure => simp [intOf]; omega
    · have hge : ¬ (k : Int) < c := by omega
      obtain rfl : k = c.toNat := by omega
      obtain ⟨cs, hb, hc⟩ := hWr
      have HC := Lib.hid hc; clear hc
      have HBl := Lib.hid hb; clear hb
      have HZr := Lib.hid (HOr.out.blk HZ3.out (by omega))
      go_wp2_with (first | (refine wpl_load_blk rfl 35 _ rfl (w.heap.size + 1) rfl 35 cs _ HBl.out Try.underlying35 rfl HC.out.info ?_) | (refine wpl_store_blk rfl 35 _ _ rfl w.heap.size 35 _ cs rfl rfl HZr.out (by rw [HC.out.size]; rfl) HC.out.info HC.out.one ?_; intro w5 hB5 hO5 hz5))
      have hB : Below w.heap.size w w5 := (HB3.out.trans (HOr.out.below HB3.out.size (by omega))).trans (hO5.below ((HB3.out.trans (HOr.out.below HB3.out.size (by omega)))).size (by omega))
      exact bodyPost_ret (results_cell2 rfl _ _ w.heap.size 35 _ _ rfl hB5 Try.underlying35 rfl HC.out.info) rfl ⟨⟨cs, rfl, HC.out⟩, hB⟩
end Go.Proofs.Ytgajbaipkhopkaa
