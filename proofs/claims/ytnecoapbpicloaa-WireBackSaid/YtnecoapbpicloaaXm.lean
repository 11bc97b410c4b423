/- The document's frames of bytes. -/
import Derived.Test.YtnecoapbpicloaaXl
namespace Go.Proofs.Ytnecoapbpicloaa
open Go.RowKit
set_option linter.unusedSimpArgs false
set_option linter.unusedVariables false
set_option maxRecDepth 100000

theorem infoPart : (Try.prog.info? 73).map (fun i => (i.zero, i.size, i.bytes)) = some (some (.agg #[.int .i64 0, .slice none 0 0]), 2, 32) := by kernel_rfl
theorem run_append_part (w : World) (base : Nat) (v : Value) (fs : List (Nat × Value)) (hown : OwnF w base v fs) (ty : TypeId) (g : Nat) (f : Nat × Value) (h0 : w.cell? ⟨g, 0, none⟩ = some (.int .i64 (f.1 : Int))) (h1 : w.cell? ⟨g, 1, none⟩ = some f.2) (h9 : f.2.oneCell' = true)
    (hsz : fs.length ≤ 1000000) (hbase : base ≤ w.heap.size) :
    ∃ v' w', (Builtin.append_ #[67, 67] ty #[v, .slice (some ⟨g, 0, none⟩) 1 1]).run Try.prog w = .ok v' w' ∧ OwnF w' base v' (fs ++ [f]) ∧ Tch (fun i => v.ownBlock = some i) w w' ∧ Mv w v v' := by
  obtain ⟨i0, hi, hz0, hz1, hz2⟩ := info_parts infoPart
  obtain ⟨v', w', hrun, h2, h3, h4, h5⟩ := run_append_own_at (P := Try.prog) w base 67 ty 73 i0 _ 2 32 Try.underlying67 hi hz0 hz1 hz2 rfl (by decide) v fs.length (fcells fs) hown ⟨g, 0, none⟩ 1 1 (fcells [f]) rfl
    (by
      intro j u hu
      rw [add_plain]
      match j with
      | 0 => simp [fcells] at hu; subst hu; exact h0
      | 1 => simp [fcells] at hu; subst hu; exact h1
      | k + 2 => simp [fcells] at hu)
    (by
      intro u hu
      simp [fcells] at hu
      rcases hu with rfl | rfl
      · rfl
      · exact h9) (by unfold maxLen; omega) (by omega) hbase
  refine ⟨v', w', hrun, ?_, Tch.of_grown h3, ?_⟩
  · unfold OwnF
    rw [List.length_append, fcells_append]
    exact h2
  · rcases h5 with h5 | h5
    · exact .inl h5
    · exact .inr ⟨_, h5, Nat.le_refl _⟩
theorem wpl_append_part {ops : Array Oper} {rest : List Oper} {o : Oper} {a : Act} {w : World} {Q : Exit → Act → World → Prop} (hgd : o.guard = none) (s x : Operand)
    (ho : o.op = .call { callee := .builtin .append, args := #[s, x], argTypes := #[67, 67] })
    (base : Nat) (v : Value) (fs : List (Nat × Value)) (hs : a.eval s = v) (hown : OwnF w base v fs) (g : Nat) (f : Nat × Value) (hx : a.eval x = .slice (some ⟨g, 0, none⟩) 1 1) (h0 : w.cell? ⟨g, 0, none⟩ = some (.int .i64 (f.1 : Int))) (h1 : w.cell? ⟨g, 1, none⟩ = some f.2) (h9 : f.2.oneCell' = true)
    (hsz : fs.length ≤ 1000000) (hbase : base ≤ w.heap.size)
    (h : ∀ v' w', OwnF w' base v' (fs ++ [f]) → Tch (fun i => v.ownBlock = some i) w w' → Mv w v v' → wpList Try.prog ops Q rest (a.put o.dst v') w') : wpList Try.prog ops Q (o :: rest) a w := by
  refine wpList_plain hgd fun K hK => ?_
  obtain ⟨v', w', hrun, h2, h3, h4⟩ := run_append_part w base v fs hown o.type g f h0 h1 h9 hsz hbase
  unfold Oper.wp execOp
  simp only [ho, resolve, invoke, builtin, Sem.run_bind, Sem.run_pure, Result.andThen_ok, List.map_toArray, List.map_cons, List.map_nil, hs, hx, hrun]
  exact hK _ _ (h v' w' h2 h3 h4)

/-- The parts' bodies are these, and lie apart from the row. -/
def Bodies (w : World) (u : Value) (fs : List (Nat × Value)) (ps : List (Nat × List By)) : Prop :=
  fs.length = ps.length ∧ ∀ (i : Nat) (f : Nat × Value) (q : Nat × List By), fs[i]? = some f → ps[i]? = some q → f.1 = q.1 ∧ ∃ a c, f.2 = .slice a q.2.length c ∧ Bys w a q.2.length q.2 ∧ ∀ g off, a = some ⟨g, off, none⟩ → 0 < q.2.length → u.ownBlock ≠ some g
theorem Bodies.nil (w : World) (u : Value) : Bodies w u [] [] := ⟨rfl, fun i f q h => by simp at h⟩
theorem Bodies.below {w w' : World} {u : Value} {fs : List (Nat × Value)} {ps : List (Nat × List By)} (h : Bodies w u fs ps) (hb : Below w.heap.size w w') : Bodies w' u fs ps :=
  ⟨h.1, fun i f q h1 h2 => by obtain ⟨e, a, c, h3, h4, h5⟩ := h.2 i f q h1 h2; exact ⟨e, a, c, h3, h4.below hb, h5⟩⟩
theorem Bodies.snoc {w : World} {u : Value} {fs : List (Nat × Value)} {ps : List (Nat × List By)} (h : Bodies w u fs ps) {a : Option Addr} {c : Nat} {q : Nat × List By} (hy : Bys w a q.2.length q.2) (hu : ∀ g off, a = some ⟨g, off, none⟩ → 0 < q.2.length → u.ownBlock ≠ some g) :
    Bodies w u (fs ++ [(q.1, .slice a q.2.length c)]) (ps ++ [q]) := by
  refine ⟨by simp [h.1], fun i f r h1 h2 => ?_⟩
  rcases Nat.lt_or_ge i fs.length with hi | hi
  · rw [List.getElem?_append_left hi] at h1
    rw [List.getElem?_append_left (by rw [← h.1]; exact hi)] at h2
    exact h.2 i f r h1 h2
  · have hlt := (List.getElem?_eq_some_iff.1 h1).1
    simp at hlt
    obtain rfl : i = fs.length := by omega
    rw [List.getElem?_append_right (Nat.le_refl _)] at h1
    rw [h.1, List.getElem?_append_right (Nat.le_refl _)] at h2
    simp at h1 h2
    subst h1; subst h2
    exact ⟨rfl, a, c, rfl, hy, hu⟩
theorem Bodies.grown {w w' : World} {u u' : Value} {fs : List (Nat × Value)} {ps : List (Nat × List By)} (h : Bodies w u fs ps) (ht : Tch (fun i => u.ownBlock = some i) w w') (hm : Mv w u u') : Bodies w' u' fs ps := by
  refine ⟨h.1, fun i f q h1 h2 => ?_⟩
  obtain ⟨e, a, c, h3, h4, h5⟩ := h.2 i f q h1 h2
  refine ⟨e, a, c, h3, ht.bys h4 h5, fun g off e1 hn e2 => ?_⟩
  rcases hm with hm | ⟨x, hm, hx⟩
  · exact h5 g off e1 hn (hm ▸ e2)
  · rw [hm] at e2
    injection e2 with e2
    subst e2
    obtain ⟨g', off', e', hg', _⟩ := h4.cells hn
    rw [e1] at e'
    injection e' with e'
    injection e' with e3 _ _
    omega
end Go.Proofs.Ytnecoapbpicloaa
