/- Copy, Same. -/
import Derived.Test.YtgajbaipkhopkaaXo
import Derived.Deep.RegionHeld3
namespace Go.Proofs.Ytgajbaipkhopkaa
open Go.RowKit
set_option linter.unusedSimpArgs false
set_option linter.unusedVariables false

theorem WCells.one {cs : Array Value} {s : St} (h : WCells cs s) : cs.all (·.oneCell') = true := by
  rw [Array.all_eq_true]
  intro i hi
  have hs := h.size
  have k : ∀ v, cs[i]? = some v → v.oneCell' = true → cs[i].oneCell' = true := fun v hv ho => by
    rw [Array.getElem?_eq_getElem hi] at hv
    injection hv with hv
    rw [hv]; exact ho
  rcases Nat.lt_or_ge i 4 with h4 | h4
  · rcases (by omega : i = 0 ∨ i = 1 ∨ i = 2 ∨ i = 3) with rfl | rfl | rfl | rfl
    · exact k _ h.now rfl
    · exact k _ h.c rfl
    · exact k _ h.self rfl
    · exact k _ h.wait rfl
  · obtain ⟨p, hp⟩ : ∃ p, i = 4 + p * 3 ∨ i = 4 + p * 3 + 1 ∨ i = 4 + p * 3 + 2 := ⟨(i - 4) / 3, by omega⟩
    rcases hp with rfl | rfl | rfl
    · exact k _ (h.since p (by omega)) rfl
    · exact k _ (h.waits p (by omega)) rfl
    · exact k _ (h.susp p (by omega)) rfl
theorem info58 : (Try.prog.info? 58).map (·.size) = some 31 := by kernel_rfl
theorem WCells.info {cs : Array Value} {s : St} (h : WCells cs s) : (Try.prog.info? 58).map (·.size) = some cs.size := by rw [h.size]; exact info58

set_option maxHeartbeats 800000 in
theorem copy_c (b : Nat) (s : St) (w : World) (hW : IsW w b s) (hs : Sane s) :
    Calls Try.prog 22 #[.pointer (some ⟨b, 0, none⟩)] w fun e w' => (∃ b', e = .returned (.pointer (some ⟨b', 0, none⟩)) ∧ w.heap.size ≤ b' ∧ IsW w' b' s) ∧ Below w.heap.size w w' := by
  have h1 := hW.c1
  have c1 := hs.c1
  obtain ⟨cs, hb, hc⟩ := hW
  have HB := Lib.hid hb; have HC := Lib.hid hc
  clear hb hc
  have Hc0 : Hid ((s.c == 0) = false) := Lib.hid (by rw [beq_eq_false_iff_ne]; omega)
  go_enter Try.func22, Try.ntmps22
  go_wp2_with fail
  refine (none_no _ _ _ h1).mono ?_; rintro e w' ⟨rfl, rfl⟩
  rw [Hc0.out]
  go_wp2_with (first | (refine wpl_load_blk rfl 58 _ rfl b rfl 58 cs _ HB.out Try.underlying58 rfl HC.out.info ?_) | (refine wpl_store_blk rfl 58 _ _ rfl w.heap.size 58 _ cs rfl rfl (Blk.new w 58 _) (by rw [HC.out.size]; rfl) HC.out.info HC.out.one ?_; intro w5 hB5 hO5 hz5))
  go_ret
  exact ⟨⟨_, rfl, Nat.le_refl _, cs, hB5, HC.out⟩, ((Below.refl w.heap.size w).alloc (Nat.le_refl _) _).trans (hO5.below (B := w.heap.size) (by simp) (Nat.le_refl _))⟩

theorem eql_op {t : TypeId} {x y : Operand} {a : Act} {xs ys : Array Value} {u : Bool} {dst : Option Tmp} {ty : TypeId} {pos : String} {after : Array Edge} {guard : Option (Nat × Bool)} {W : World}
    (h : (binOp .eql t (.agg xs) (.agg ys)).run Try.prog W = .ok (.bool u) W) (hx : a.eval x = .agg xs) (hy : a.eval y = .agg ys) (hm : Try.prog.eqGuardType Try.prog.depth t = false) :
    (execOp a.eval { dst, op := .binOp .eql t x y t, type := ty, pos, after, guard }).run Try.prog W = .ok (.value (.bool u)) W := by
  unfold execOp
  simp only [hx, hy]
  simp only [Sem.run_bind, run_eqGuard_agg _ _ _ _ _ _ _ hm, Result.andThen_ok, h, Sem.run_pure]

set_option maxHeartbeats 800000 in
theorem same_c (b b' : Nat) (s s' : St) (w : World) (hW : IsW w b s) (hW' : IsW w b' s') (hs : Good s) (hs' : Good s') :
    Calls Try.prog 23 #[.pointer (some ⟨b, 0, none⟩), .pointer (some ⟨b', 0, none⟩)] w fun e w' => e = .returned (.bool (sameB s s')) ∧ ∃ n, w' = w.drewN n := by
  have h1 := hW.c1
  have h2 := hW'.c1
  have c1 := hs.fair.sane.c1
  have c2 := hs'.fair.sane.c1
  obtain ⟨cs, hb, hc⟩ := hW
  obtain ⟨cs', hb', hc'⟩ := hW'
  have HB := Lib.hid hb; have H1 := Lib.hid hc; have HB' := Lib.hid hb'; have H2 := Lib.hid hc'
  have HG := Lib.hid hs; have HG' := Lib.hid hs'
  clear hb hc hb' hc'
  have Hc0 : Hid ((s.c == 0) = false) := Lib.hid (by rw [beq_eq_false_iff_ne]; omega)
  have Hc1 : Hid ((s'.c == 0) = false) := Lib.hid (by rw [beq_eq_false_iff_ne]; omega)
  go_enter Try.func23, Try.ntmps23
  go_wp2_with fail
  refine (none_no _ _ _ h1).mono ?_; rintro e w' ⟨rfl, rfl⟩
  rw [Hc0.out]
  go_wp2_with fail
  refine (none_no _ _ _ h2).mono ?_; rintro e w' ⟨rfl, rfl⟩
  rw [Hc1.out]
  go_wp2_with fail
  have hS0 : Blk w.drew b 58 cs ∧ Blk w.drew b' 58 cs' := ⟨HB.out.drew, HB'.out.drew⟩
  refine wp_region_held_drew (S := (fun W => Blk W b 58 cs ∧ Blk W b' 58 cs')) (by kernel_rfl) hS0 ?_
  intro hS0'
  refine wpAnyH_take (i := 0) (v := .pointer (some ⟨b, 0, none⟩)) rfl (by kernel_rfl) (by kernel_rfl) (by kernel_rfl) (fun _ _ _ h => h) (Or.inl ⟨by kernel_rfl, fun w hSw => ?_⟩) hS0' ?_
  · go_simp
  try simp only [Act.put, List.getElem_toArray, List.getElem_cons_succ, List.getElem_cons_zero, List.setIfInBounds_toArray, List.set_cons_zero, List.set_cons_succ]
  refine wpAnyH_take (i := 1) (v := .pointer (some ⟨b, 0, none⟩)) rfl (by kernel_rfl) (by kernel_rfl) (by kernel_rfl) (fun _ _ _ h => h) (Or.inl ⟨by kernel_rfl, fun w hSw => ?_⟩) hS0' ?_
  · go_simp
  try simp only [Act.put, List.getElem_toArray, List.getElem_cons_succ, List.getElem_cons_zero, List.setIfInBounds_toArray, List.set_cons_zero, List.set_cons_succ]
  refine wpAnyH_take (i := 2) (v := .agg cs) rfl (by kernel_rfl) (by kernel_rfl) (by kernel_rfl) (fun _ _ _ h => h) ?_ hS0' ?_
  · exact yieldsIf_load_blk (by kernel_rfl) 58 (.tmp 18) (by kernel_rfl) b (by kernel_rfl) 58 cs _ (fun _ h => h.1) Try.underlying58 rfl H1.out.info
  try simp only [Act.put, List.getElem_toArray, List.getElem_cons_succ, List.getElem_cons_zero, List.setIfInBounds_toArray, List.set_cons_zero, List.set_cons_succ]
  refine wpAnyH_take (i := 3) (v := (.pointer (some ⟨b', 0, none⟩))) rfl (by kernel_rfl) (by kernel_rfl) (by kernel_rfl) (fun _ _ _ h => h) (Or.inl ⟨by kernel_rfl, fun w hSw => ?_⟩) hS0' ?_
  · go_simp
  try simp only [Act.put, List.getElem_toArray, List.getElem_cons_succ, List.getElem_cons_zero, List.setIfInBounds_toArray, List.set_cons_zero, List.set_cons_succ]
  refine wpAnyH_take (i := 4) (v := (.pointer (some ⟨b', 0, none⟩))) rfl (by kernel_rfl) (by kernel_rfl) (by kernel_rfl) (fun _ _ _ h => h) (Or.inl ⟨by kernel_rfl, fun w hSw => ?_⟩) hS0' ?_
  · go_simp
  try simp only [Act.put, List.getElem_toArray, List.getElem_cons_succ, List.getElem_cons_zero, List.setIfInBounds_toArray, List.set_cons_zero, List.set_cons_succ]
  refine wpAnyH_take (i := 5) (v := .agg cs') rfl (by kernel_rfl) (by kernel_rfl) (by kernel_rfl) (fun _ _ _ h => h) ?_ hS0' ?_
  · exact yieldsIf_load_blk (by kernel_rfl) 58 (.tmp 21) (by kernel_rfl) b' (by kernel_rfl) 58 cs' _ (fun _ h => h.2) Try.underlying58 rfl H2.out.info
  try simp only [Act.put, List.getElem_toArray, List.getElem_cons_succ, List.getElem_cons_zero, List.setIfInBounds_toArray, List.set_cons_zero, List.set_cons_succ]
  refine wpAnyH_take (i := 6) (v := .bool (sameB s s')) rfl (by kernel_rfl) (by kernel_rfl) (by kernel_rfl) (fun _ _ _ h => h) ?_ hS0' ?_
  · have q := fun W => run_eql58 H1.out H2.out HG.out.wf HG'.out.wf W
    exact .inl ⟨by kernel_rfl, fun W _ => eql_op (q W) (by kernel_rfl) (by kernel_rfl) (by kernel_rfl)⟩
  try simp only [Act.put, List.getElem_toArray, List.getElem_cons_succ, List.getElem_cons_zero, List.setIfInBounds_toArray, List.set_cons_zero, List.set_cons_succ]
  refine wpAnyH_take (i := 7) (v := .bool (sameB s s')) rfl (by kernel_rfl) (by kernel_rfl) (by kernel_rfl) (fun _ _ _ h => h) (Or.inl ⟨by kernel_rfl, fun w hSw => ?_⟩) hS0' ?_
  · go_simp
  try simp only [Act.put, List.getElem_toArray, List.getElem_cons_succ, List.getElem_cons_zero, List.setIfInBounds_toArray, List.set_cons_zero, List.set_cons_succ]
  refine wpAnyH_done (by kernel_rfl) ?_ _
  go_wp2_with fail
  go_ret
  exact ⟨rfl, 1, rfl⟩
end Go.Proofs.Ytgajbaipkhopkaa
