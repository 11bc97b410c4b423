/- Contracts: the document's reader, the rest. -/
import Derived.Test.YtnecoapbpicloaaWr
namespace Go.Proofs.Ytnecoapbpicloaa
open Go.RowKit
set_option linter.unusedSimpArgs false
set_option linter.unusedVariables false
set_option maxRecDepth 100000

def REnd (w : World) (s : RS) (e : Ending) (w' : World) : Prop := (∃ v, e = .returned (.tuple #[v, .int .i64 (rend s).2]) ∧ RV w' v (rend s).1) ∧ Below w.heap.size w w'
set_option maxHeartbeats 2000000 in
theorem rr_end (v : Value) (s : RS) (w : World) (h : RV w v s) :
    Calls Try.prog 52 #[v] w (REnd w s) := by
  obtain ⟨a, c, rfl, h2, h3⟩ := h
  have H2 := Lib.hid h2
  obtain ⟨m, hm⟩ : ∃ m, m = s.l.length := ⟨_, rfl⟩
  rw [← hm] at h3 ⊢
  have HM := Lib.hid hm
  clear h2
  by_cases he : s.e = 0
  case neg =>
    have HR := Lib.hid (rend_err he)
    have q : (s.e == 0) = false := by simpa using he
    clear he hm
    go_enter Try.func52, Try.ntmps52
    go_wp2_with fail
    go_region
    go_wp2_with fail
    refine bodyPost_ret (v := .tuple #[.agg #[.slice a m c, .int .i64 s.e], .int .i64 s.e]) (by simp [results, Try.results52, go_sem]) rfl ?_
    have hB : Below w.heap.size w ((w.alloc (.cells #[.slice a m c, .int .i64 s.e] 40)).alloc (.cells #[.slice a m c, .int .i64 s.e] 40)).drew := (((Below.refl _ _).alloc (Nat.le_refl _) _).alloc (by simp) _).drew
    refine ⟨⟨_, by rw [HR.out], ?_⟩, hB⟩
    rw [HR.out]
    exact ⟨a, c, by rw [HM.out], H2.out.below hB, by rw [← HM.out]; exact h3⟩
  case pos =>
    rw [he]
    have HE := Lib.hid he; clear he
    rcases Nat.eq_zero_or_pos m with h0 | h0
    · have HR := Lib.hid (rend_ok HE.out (hm ▸ h0))
      subst h0
      clear hm
      go_enter Try.func52, Try.ntmps52
      go_wp2_with fail
      go_region
      go_wp2_with fail
      refine bodyPost_ret (v := .tuple #[.agg #[.slice a 0 c, .int .i64 0], .int .i64 0]) (by simp [results, Try.results52, go_sem]) rfl ?_
      have hB : Below w.heap.size w ((w.alloc (.cells #[.slice a 0 c, .int .i64 0] 40)).alloc (.cells #[.slice a 0 c, .int .i64 0] 40)).drew := (((Below.refl _ _).alloc (Nat.le_refl _) _).alloc (by simp) _).drew
      refine ⟨⟨_, by rw [HR.out], ?_⟩, hB⟩
      rw [HR.out]
      exact ⟨a, c, by rw [← HM.out, HE.out], H2.out.below hB, by rw [← HM.out]; exact h3⟩
    · have HR := Lib.hid (rend_no HE.out (hm ▸ h0))
      have HB2 := Lib.hid (blk2 w 40 40 #[.slice a m c, .int .i64 0] #[.slice none 0 0, .int .i64 0])
      clear hm
      go_enter Try.func52, Try.ntmps52
      go_wp2_with fail
      generalize (World.alloc _ _) = W0 at HB2 ⊢
      obtain ⟨b1, b3, b5, b6⟩ := HB2.out
      refine (rfail_c a m c 0 _).mono ?_
      rintro e w3 ⟨rfl, hb⟩
      have HB := Lib.hid (b5.trans (hb.mono (by omega)))
      have B3 := Lib.hid (b3.below hb b3.lt)
      have d0 : w3.cell? ⟨w.heap.size + 1, 0, none⟩ = some (.slice none 0 0) := B3.out.cell (i := 0) rfl
      have d1 : w3.cell? ⟨w.heap.size + 1, 1, none⟩ = some (.int .i64 0) := B3.out.cell (i := 1) rfl
      have g0 := B3.out.frozen 0
      have g1 := B3.out.frozen 1
      clear b1 b3 b5 b6 hb HB2
      go_wp2_with fail
      have k5 := (B3.out.set 0 (.slice none 0 0)).set 1 (.int .i64 120)
      have HBB := Lib.hid ((HB.out.setCell (p := ⟨w.heap.size + 1, 0, none⟩) (by simp) (.slice none 0 0)).setCell (p := ⟨w.heap.size + 1, 1, none⟩) (by simp) (.int .i64 120))
      generalize (World.setCell _ _ _) = w5 at k5 HBB ⊢
      have c5 : w5.cell? ⟨w.heap.size + 1, 0, none⟩ = some (.slice none 0 0) := k5.cell (i := 0) rfl
      have c6 : w5.cell? ⟨w.heap.size + 1, 1, none⟩ = some (.int .i64 120) := k5.cell (i := 1) rfl
      refine bodyPost_ret (v := .tuple #[.agg #[.slice none 0 0, .int .i64 120], .int .i64 120]) (by simp [results, Try.results52, go_sem, c5, c6]) rfl ?_
      refine ⟨⟨_, by rw [HR.out], ?_⟩, HBB.out⟩
      rw [HR.out]
      exact RV.fail _
end Go.Proofs.Ytnecoapbpicloaa
