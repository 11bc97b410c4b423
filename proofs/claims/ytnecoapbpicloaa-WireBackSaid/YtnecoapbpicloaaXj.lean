/- What stays in the turns of WireLays. -/
import Derived.Test.YtnecoapbpicloaaXi
namespace Go.Proofs.Ytnecoapbpicloaa
open Go.RowKit
set_option linter.unusedSimpArgs false
set_option linter.unusedVariables false
set_option maxRecDepth 100000

structure LSt (w0 W : World) (p : Nat) (v u : Value) (l k : List By) : Prop where
  wr : IsWr W p v l
  ow : OwnB W (p + 1) u k
  ap : ∀ i, v.ownBlock = some i → u.ownBlock ≠ some i
  bel : Below w0.heap.size w0 W
  hp : w0.heap.size ≤ p
theorem LSt.below {w0 W W' : World} {p : Nat} {v u : Value} {l k : List By} (h : LSt w0 W p v u l k) (hb : Below W.heap.size W W') : LSt w0 W' p v u l k :=
  ⟨h.wr.below hb, h.ow.below hb, h.ap, h.bel.trans (hb.mono h.bel.size), h.hp⟩
theorem LSt.new {w0 W : World} {p : Nat} (h : IsWr W p (.slice none 0 0) []) (hb : Below w0.heap.size w0 W) (hp : w0.heap.size ≤ p) : LSt w0 W p (.slice none 0 0) (.slice none 0 0) [] [] :=
  ⟨h, h.2, fun i e => by simp [Value.ownBlock] at e, hb, hp⟩
theorem WS.ge {w0 W : World} {p : Nat} {v u : Value} {l k : List By} (h : LSt w0 W p v u l k) : ∀ i, WS p v i → w0.heap.size ≤ i := by
  rintro i (rfl | e)
  · exact h.hp
  · have := (own_lt h.wr.2 i e).1; have := h.hp; omega
theorem LSt.lay {w0 W W' : World} {p : Nat} {v v' u : Value} {l l' k : List By} (h : LSt w0 W p v u l k) (hw : IsWr W' p v' l') (ht : Tch (WS p v) W W') (hm : Mv W v v') : LSt w0 W' p v' u l' k := by
  refine ⟨hw, ht.own h.ow ?_, ?_, h.bel.trans (ht.below h.bel.size (WS.ge h)), h.hp⟩
  · rintro i e (rfl | e')
    · have := (own_lt h.ow i e).1; omega
    · exact h.ap i e' e
  · intro i e e'
    rcases hm with hm | ⟨x, hm, hx⟩
    · exact h.ap i (hm ▸ e) e'
    · rw [hm] at e; injection e with e; subst e
      have := (own_lt h.ow _ e').2; omega
theorem LSt.want {w0 W W' : World} {p : Nat} {v u u' : Value} {l k k' : List By} (h : LSt w0 W p v u l k) (ho : OwnB W' (p + 1) u' k') (ht : Tch (fun i => u.ownBlock = some i) W W') (hm : Mv W u u') : LSt w0 W' p v u' l k' := by
  refine ⟨h.wr.tch ht ?_ ?_, ho, ?_, h.bel.trans (ht.below h.bel.size ?_), h.hp⟩
  · intro e; have := (own_lt h.ow _ e).1; omega
  · intro i e e'; exact h.ap i e e'
  · intro i e e'
    rcases hm with hm | ⟨x, hm, hx⟩
    · exact h.ap i e (hm ▸ e')
    · rw [hm] at e'; injection e' with e'; subst e'
      have := (own_lt h.wr.2 _ e).2; omega
  · intro i e; have := (own_lt h.ow i e).1; have := h.hp; omega
theorem LSt.far {w0 W : World} {p : Nat} {v u : Value} {l k : List By} (h : LSt w0 W p v u l k) {a : Option Addr} {n : Nat} {zs : List Int} (hi : I64s w0 a n zs) : ∀ g off, a = some ⟨g, off, none⟩ → 0 < n → ¬ WS p v g := by
  intro g off e hn hg
  have h1 := WS.ge h g hg
  obtain ⟨x, hx⟩ : ∃ x, zs[0]? = some x := ⟨zs[0]'(by rw [hi.1]; exact hn), List.getElem?_eq_getElem _⟩
  obtain ⟨g', off', e', hg', _⟩ := hi.2 0 x hx
  rw [e] at e'
  injection e' with e'
  injection e' with e1 _ _
  omega
theorem fewL_ok {xs : List WAct} (h : fewL xs = true) : xs.length ≤ 40 ∧ ∀ (i : Nat) (x : WAct), xs[i]? = some x → x.n ≤ 20 ∧ x.text.size ≤ 200 := by
  unfold fewL at h
  rw [Bool.and_eq_true, decide_eq_true_eq] at h
  refine ⟨h.2, fun i x hx => ?_⟩
  have := List.all_eq_true.1 h.1 x (List.mem_of_getElem? hx)
  simpa [fewA] using this
end Go.Proofs.Ytnecoapbpicloaa
