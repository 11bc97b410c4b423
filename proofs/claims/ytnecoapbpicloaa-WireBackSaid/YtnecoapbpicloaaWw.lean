/- Contracts: a frame is made. -/
import Derived.Test.YtnecoapbpicloaaWv
namespace Go.Proofs.Ytnecoapbpicloaa
open Go.RowKit
set_option linter.unusedSimpArgs false
set_option linter.unusedVariables false
set_option maxRecDepth 100000

theorem seal_len (l : List By) : (sealB l).length = l.length + 4 := by simp [sealB, low_len]
theorem frame_len {l : List By} (h : l.length ≤ 1000000) : (frameB l).length ≤ l.length + 13 := by
  unfold frameB
  rw [List.length_append, seal_len]
  have := numB_nine (n := l.length + 4) (by omega)
  omega
theorem frame_long (a : Option Addr) (n c : Nat) (w : World) (h : 4096 < n) :
    Calls Try.prog 34 #[.slice a n c] w fun e w' => e = .returned (.tuple #[.slice none 0 0, .int .i64 3]) ∧ w = w' := by
  have r1 : (4096 : Int) < (n : Int) := by omega
  go_enter Try.func34, Try.ntmps34
  go_wp2_with fail
  go_ret2
  exact ⟨rfl, rfl⟩
set_option maxHeartbeats 1000000 in
theorem frame_c (a : Option Addr) (n c : Nat) (l : List By) (w : World) (h : Bys w a n l) (hn : n ≤ 4096) :
    Calls Try.prog 34 #[.slice a n c] w fun e w' => ∃ v, e = .returned (.tuple #[v, .int .i64 0]) ∧ OwnB w' w.heap.size v (frameB l) ∧ Below w.heap.size w w' := by
  have H := Lib.hid h
  have r1 : ¬ (4096 : Int) < (n : Int) := by omega
  clear h
  go_enter Try.func34, Try.ntmps34
  go_wp2_with fail
  refine (seal_c a n c l _ H.out (by omega)).mono ?_
  rintro e w1 ⟨v, rfl, ho, hb⟩
  obtain ⟨a1, c1, rfl, hc1, hy⟩ := ho.bys
  obtain ⟨m, hm⟩ : ∃ m, m = (sealB l).length := ⟨_, rfl⟩
  have hm2 : m = n + 4 := by rw [hm, seal_len, H.out.1]
  rw [← hm] at hy hc1 ho ⊢
  have HM := Lib.hid hm; have HY := Lib.hid hy; have HB := Lib.hid hb
  have hz := hb.size
  have hm3 : m ≤ 5000 := by omega
  clear hm hm2 hy hb ho
  go_wp2_with fail
  refine (number_c m (.slice none 0 0) [] w1.heap.size _ (own_nil _ _) (by simp) (by omega) (Nat.le_refl _)).mono ?_
  rintro e w2 ⟨v2, rfl, ho2, ht2, -⟩
  rw [List.nil_append] at ho2
  have HT := Lib.hid (ht2.below (B := w1.heap.size) (Nat.le_refl _) (fun i e => by cases e))
  have HO := Lib.hid ho2
  have hn9 : (numB m).length ≤ 9 := numB_nine (by omega)
  have hz2 := ht2.size
  clear ho2 ht2
  go_wp2_with (at_builtin; refine wpl_append_bys rfl _ _ rfl w1.heap.size _ _ rfl HO.out a1 m c1 (sealB l) rfl (HY.out.below HT.out) ?c1 ?c2 ?_)
  case c1 => omega
  case c2 => omega
  intro v3 w3 ho3 hg3 _
  have HB3 := Lib.hid (HB.out.trans (HT.out.mono hz |>.trans (own_grown HO.out hg3 hz (by omega))))
  have HO3 : Hid (OwnB w3 w1.heap.size v3 (frameB l)) := Lib.hid (by unfold frameB; rw [← HM.out]; exact ho3)
  clear ho3 hg3
  go_wp2_with fail
  go_ret2
  exact ⟨v3, rfl, own_low HO3.out hz, HB3.out⟩
set_option maxHeartbeats 1000000 in
theorem rframe_c (a : Option Addr) (n c : Nat) (l : List By) (w : World) (h : Bys w a n l) (hn : n ≤ 100000) :
    Calls Try.prog 31 #[.slice a n c] w fun e w' => ∃ v, e = .returned v ∧ OwnB w' w.heap.size v (frameB l) ∧ Below w.heap.size w w' := by
  have H := Lib.hid h
  clear h
  go_enter Try.func31, Try.ntmps31
  go_wp2_with fail
  refine (rseal_c a n c l _ H.out (by omega)).mono ?_
  rintro e w1 ⟨v, rfl, ho, hb, -⟩
  obtain ⟨a1, c1, rfl, hc1, hy⟩ := ho.bys
  obtain ⟨m, hm⟩ : ∃ m, m = (sealB l).length := ⟨_, rfl⟩
  have hm2 : m = n + 4 := by rw [hm, seal_len, H.out.1]
  rw [← hm] at hy hc1 ho ⊢
  have HM := Lib.hid hm; have HY := Lib.hid hy; have HB := Lib.hid hb
  have hz := hb.size
  have hm3 : m ≤ 200000 := by omega
  clear hm hm2 hy hb ho
  go_wp2_with fail
  refine (rnumber_c m _ (by omega)).mono ?_
  rintro e w2 ⟨v2, rfl, ho2, hb2⟩
  have HT := Lib.hid hb2
  have HO := Lib.hid ho2
  have hn9 : (numB m).length ≤ 9 := numB_nine (by omega)
  have hz2 := hb2.size
  clear ho2 hb2
  go_wp2_with (at_builtin; refine wpl_append_bys rfl _ _ rfl w1.heap.size _ _ rfl HO.out a1 m c1 (sealB l) rfl (HY.out.below HT.out) ?c1 ?c2 ?_)
  case c1 => omega
  case c2 => omega
  intro v3 w3 ho3 hg3 _
  have HB3 := Lib.hid (HB.out.trans (HT.out.mono hz |>.trans (own_grown HO.out hg3 hz (by omega))))
  have HO3 : Hid (OwnB w3 w1.heap.size v3 (frameB l)) := Lib.hid (by unfold frameB; rw [← HM.out]; exact ho3)
  clear ho3 hg3
  go_wp2_with fail
  go_ret
  exact ⟨v3, rfl, own_low HO3.out hz, HB3.out⟩
end Go.Proofs.Ytnecoapbpicloaa
