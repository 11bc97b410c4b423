/- Contracts: a reader's door. -/
import Derived.Test.YtlgpoaapmgcloaaWh
import Derived.Deep.Cut
namespace Go.Proofs.Ytlgpoaapmgcloaa
open Go.RowKit
set_option linter.unusedSimpArgs false
set_option linter.unusedVariables false
set_option maxRecDepth 100000

theorem catch_idle (b1 b2 : Nat) (w : World) :
    CallsD Try.prog 58 #[.pointer (some ⟨b1, 0, none⟩), .pointer (some ⟨b2, 0, none⟩)] .returning w fun e u' w' => e = .returned (.tuple #[]) ∧ u' = .returning ∧ w' = w := by
  refine callsD_of_wpS Try.func58 rfl fun c₀ cs hu => ?_
  simp only [Try.ntmps58, List.size_toArray, List.length_cons, List.length_nil, Nat.reduceAdd, Nat.reduceSub, Array.replicate_succ, Array.replicate_zero, List.push_toArray, List.append_toArray, List.nil_append, List.cons_append]
  apply wpS_seq
  apply wpS_region
  simp [wpOpsS, go_sem, recoverD, hu, Exit.thenS]
  refine wpS_of_wp ?_
  go_wp2
  cases c₀
  simp_all [bodyPostS, results, Try.results58]
theorem catch_caught (p b1 b2 : Nat) (s : RS) (x : Int) (older : List PanicEntry) (w : World) (h : IsRd w p s) (hb : w.cell? ⟨b1, 0, none⟩ = some (.pointer (some ⟨p, 0, none⟩))) (hx : Blk w b2 26 #[.int .i64 x]) :
    CallsD Try.prog 58 #[.pointer (some ⟨b1, 0, none⟩), .pointer (some ⟨b2, 0, none⟩)] (.panicking ({ v := .iface 85 (.agg #[]), recovered := false } :: older)) w fun e u' w' =>
      e = .returned (.tuple #[]) ∧ u' = .panicking ({ v := .iface 85 (.agg #[]), recovered := true } :: older) ∧ IsRd w' p RS.fail ∧ Blk w' b2 26 #[.int .i64 120] ∧ Tch (fun i => i = p ∨ i = b2) w w' := by
  obtain ⟨a, c, h1, h2, h3⟩ := h
  have hta : ∀ W, (Instr.typeAssert (.iface 85 (.agg #[])) 20 85 true).run Try.prog W = .ok (.tuple #[.agg #[], .bool true]) W := fun _ => by kernel_rfl
  have f0 := h1.frozen 0
  have f1 := h1.frozen 1
  have c0 : w.cell? ⟨p, 0, none⟩ = some (.slice a s.l.length c) := h1.cell (i := 0) rfl
  have c1 : w.cell? ⟨p, 1, none⟩ = some (.int .i64 s.e) := h1.cell (i := 1) rfl
  have g0 : w.cell? ⟨b2, 0, none⟩ = some (.int .i64 x) := hx.cell (i := 0) rfl
  have g1 := hx.frozen 0
  have l1 : b1 < w.heap.size := cell_lt hb
  have l2 : b2 < w.heap.size := hx.lt
  have l3 : p < w.heap.size := h1.lt
  refine callsD_of_wpS Try.func58 rfl fun c₀ cs hu => ?_
  simp only [Try.ntmps58, List.size_toArray, List.length_cons, List.length_nil, Nat.reduceAdd, Nat.reduceSub, Array.replicate_succ, Array.replicate_zero, List.push_toArray, List.append_toArray, List.nil_append, List.cons_append]
  apply wpS_seq
  apply wpS_region
  simp [wpOpsS, go_sem, recoverD, hu, Exit.thenS]
  refine wpS_of_wp ?_
  have HA := Lib.hid ((Below.refl w.heap.size w).alloc (Nat.le_refl _) (.cells #[] 85))
  have hb' := cell_al hb (.cells #[] 85)
  have H1 := Lib.hid (h1.alloc (.cells #[] 85))
  have HX := Lib.hid (hx.alloc (.cells #[] 85))
  have H2 := Lib.hid (h2.below HA.out)
  have n1 : p ≠ b2 := by
    rintro rfl
    unfold Blk at h1 hx
    rw [h1] at hx
    cases hx
  have n2 : b2 ≠ p := n1.symm
  have H3 := Lib.hid h3
  clear h1 h2 hx h3
  have N := Lib.hid n1
  go_upto_region 7 with (fail)
  generalize (w.alloc (.cells #[] 85)) = w1 at hb' H1 HX H2 HA ⊢
  have f0' := H1.out.frozen 0
  have f1' := H1.out.frozen 1
  have c0' : w1.cell? ⟨p, 0, none⟩ = some (.slice a s.l.length c) := H1.out.cell (i := 0) rfl
  have c1' : w1.cell? ⟨p, 1, none⟩ = some (.int .i64 s.e) := H1.out.cell (i := 1) rfl
  have g0' : w1.cell? ⟨b2, 0, none⟩ = some (.int .i64 x) := HX.out.cell (i := 0) rfl
  have g1' := HX.out.frozen 0
  clear l1 l2 l3 hta
  go_wp2
  cases c₀
  refine ⟨rfl, _, rfl, _, results_none rfl _ _ _, rfl, rfl, ⟨none, 0, ?_, Bys.nil, Nat.le_refl _, fun X e => by cases e⟩, ?_, ?_⟩
  · exact ((H1.out.set 0 (.slice none 0 0)).set 1 (.int .i64 120)).far N.out _
  · exact ((HX.out.far (p := ⟨p, 0, none⟩) N.out.symm _).far (p := ⟨p, 1, none⟩) N.out.symm _).set 0 _
  · exact (((Tch.of_below HA.out (Nat.le_refl _) _).setCell (.inl (.inl rfl)) _).setCell (.inl (.inl rfl)) _).setCell (.inl (.inr rfl)) _
end Go.Proofs.Ytlgpoaapmgcloaa

