/- Structs by value: rows that are loaded, stored, handed back. No condition. -/
import Derived.Test.YtgajbaipkhopkaaWo
import Derived.Deep.MidRow
namespace Go.Proofs.Ytgajbaipkhopkaa
open Go.RowKit

section
variable {P : Program}

theorem blk_there {w : World} {g : Nat} {t : TypeId} {cs : Array Value} (h : Blk w g t cs) : w.there g 0 cs.size := fun j hj => by
  rw [Nat.zero_add]
  exact ⟨by rw [h.cell (Array.getElem?_eq_getElem hj)]; rfl, h.frozen j⟩

theorem setCells_blk (g : Nat) (t : TypeId) : ∀ (vs : List Value) (o : Nat) (w : World) (cs : Array Value), Blk w g t cs →
    ∃ cs', Blk (w.setCells g o vs) g t cs' ∧ cs'.size = cs.size ∧ (∀ i, cs'[i]? = if o ≤ i ∧ i < o + vs.length ∧ i < cs.size then vs[i - o]? else cs[i]?) ∧ Only g w (w.setCells g o vs) ∧ (w.setCells g o vs).heap.size = w.heap.size := by
  intro vs
  induction vs with
  | nil => intro o w cs h; exact ⟨cs, h, rfl, fun i => by rw [if_neg (by simp; omega)], Only.refl _ _, rfl⟩
  | cons v r ih =>
    intro o w cs h
    obtain ⟨cs', h1, h2, h3, h4, h5⟩ := ih (o + 1) _ _ (h.set o v)
    rw [World.setCells]
    refine ⟨cs', h1, by rw [h2]; simp, fun i => ?_, ((Only.refl g w).setCell (p := ⟨g, o, none⟩) (.inl rfl) v).trans h4, by rw [h5]; simp⟩
    rw [h3 i, Array.getElem?_setIfInBounds, Array.size_setIfInBounds]
    by_cases e : o = i
    · subst e
      rw [if_neg (by omega), if_pos rfl]
      by_cases hs : o < cs.size
      · rw [if_pos hs, if_pos ⟨Nat.le_refl _, by simp, hs⟩]; simp
      · rw [if_neg hs, if_neg (by omega), Array.getElem?_eq_none (by omega)]
    · rw [if_neg e]
      by_cases hc : o + 1 ≤ i ∧ i < o + 1 + r.length ∧ i < cs.size
      · rw [if_pos hc, if_pos ⟨by omega, by simp; omega, hc.2.2⟩]
        obtain ⟨k, rfl⟩ : ∃ k, i = o + 1 + k := ⟨i - (o + 1), by omega⟩
        rw [Nat.add_sub_cancel_left, show o + 1 + k - o = k + 1 by omega]
        rfl
      · rw [if_neg hc, if_neg (by simp; omega)]
theorem setCells_row {w : World} {g : Nat} {t : TypeId} {cs0 cs : Array Value} (h : Blk w g t cs0) (hs : cs.size = cs0.size) :
    Blk (w.setCells g 0 cs.toList) g t cs ∧ Only g w (w.setCells g 0 cs.toList) ∧ (w.setCells g 0 cs.toList).heap.size = w.heap.size := by
  obtain ⟨cs', h1, h2, h3, h4, h5⟩ := setCells_blk g t cs.toList 0 w cs0 h
  have e : cs' = cs := by
    apply Array.ext_getElem?
    intro i
    rw [h3 i]
    by_cases hi : i < cs.size
    · rw [if_pos ⟨Nat.zero_le _, by simpa using hi, by omega⟩]; simp
    · rw [if_neg (by simp; omega), Array.getElem?_eq_none (by omega), Array.getElem?_eq_none (by omega)]
  subst e
  exact ⟨h1, h4, h5⟩

theorem wpl_store_blk {ops : Array Oper} {rest : List Oper} {op : Oper} {a : Act} {w : World} {Q : Exit → Act → World → Prop} (hgd : op.guard = none) (ty : TypeId) (x y : Operand) (ho : op.op = .store ty x y)
    (g : Nat) (t : TypeId) (cs0 cells : Array Value) (hx : a.eval x = .pointer (some ⟨g, 0, none⟩)) (hy : a.eval y = .agg cells)
    (hb : Blk w g t cs0) (hs : cells.size = cs0.size) (hi : (P.info? ty).map (·.size) = some cells.size) (h1 : cells.all (·.oneCell') = true)
    (h : ∀ w', Blk w' g t cells → Only g w w' → w'.heap.size = w.heap.size → wpList P ops Q rest (a.put op.dst undef) w') : wpList P ops Q (op :: rest) a w := by
  obtain ⟨k1, k2, k3⟩ := setCells_row hb hs
  exact wpList_store_mid hgd ty x y ho g 0 cells hx hy (by rw [hs]; exact blk_there hb) hi h1 (h _ k1 k2 k3)
theorem wpl_load_blk {ops : Array Oper} {rest : List Oper} {o : Oper} {a : Act} {w : World} {Q : Exit → Act → World → Prop} (hgd : o.guard = none) (ty : TypeId) (x : Operand) (ho : o.op = .load ty x)
    (g : Nat) (hx : a.eval x = .pointer (some ⟨g, 0, none⟩)) (t : TypeId) (cs : Array Value) (d : TypeDesc) (hg : Blk w g t cs)
    (hu : P.underlying ty = some d) (hd : (match d with | .struct _ | .array _ _ => true | _ => false) = true) (hi : (P.info? ty).map (·.size) = some cs.size)
    (h : wpList P ops Q rest (a.put o.dst (.agg cs)) w) : wpList P ops Q (o :: rest) a w :=
  wpList_load_row hgd ty x ho g hx t cs (0, 0) d hg hu hd hi h
theorem results_cell3 {fn : Func} {p q r : Tmp} {ty : TypeId} (h : fn.results = #[.cell p ty, .tmp q, .tmp r]) (tmps : Array Value) (w : World) (g : Nat) (t : TypeId) (cs : Array Value) (d : TypeDesc)
    (hp : tmps.getD p undef = .pointer (some ⟨g, 0, none⟩)) (hg : Blk w g t cs)
    (hu : P.underlying ty = some d) (hd : (match d with | .struct _ | .array _ _ => true | _ => false) = true) (hi : (P.info? ty).map (·.size) = some cs.size) :
    (results fn tmps).run P w = .ok (.tuple #[.agg cs, tmps.getD q undef, tmps.getD r undef]) w := by
  have hp' : tmps[p]?.getD undef = .pointer (some ⟨g, 0, none⟩) := by simpa using hp
  simp [results, h, hp', asAddr, run_loadVar_row w g t ty cs (0, 0) d hg hu hd hi]
theorem results_cell2 {fn : Func} {p q : Tmp} {ty : TypeId} (h : fn.results = #[.cell p ty, .tmp q]) (tmps : Array Value) (w : World) (g : Nat) (t : TypeId) (cs : Array Value) (d : TypeDesc)
    (hp : tmps.getD p undef = .pointer (some ⟨g, 0, none⟩)) (hg : Blk w g t cs)
    (hu : P.underlying ty = some d) (hd : (match d with | .struct _ | .array _ _ => true | _ => false) = true) (hi : (P.info? ty).map (·.size) = some cs.size) :
    (results fn tmps).run P w = .ok (.tuple #[.agg cs, tmps.getD q undef]) w := by
  have hp' : tmps[p]?.getD undef = .pointer (some ⟨g, 0, none⟩) := by simpa using hp
  simp [results, h, hp', asAddr, run_loadVar_row w g t ty cs (0, 0) d hg hu hd hi]
end
end Go.Proofs.Ytgajbaipkhopkaa
