/- Byte rows that a call made: read and written cell by cell. -/
import Derived.Test.YticgknjjhkgggaaXb
import Derived.Test.YticgknjjhkgggaaXc
namespace Go.Proofs.Yticgknjjhkgggaa
open Go.RowKit
set_option linter.unusedSimpArgs false
set_option linter.unusedVariables false

theorem OwnB.at_ {w : World} {base g n c : Nat} {l : List By} (h : OwnB w base (.slice (some ⟨g, 0, none⟩) n c) l) {k : Nat} {x : By} (hx : l[k]? = some x) : w.cell? ⟨g, k, none⟩ = some (.int .u8 (x.toNat : Int)) ∧ w.frozen? ⟨g, k, none⟩ = false := by
  obtain ⟨a, c', e, _, _⟩ := h.bys
  injection e with e1 e2 e3
  subst e2
  have hlt := (List.getElem?_eq_some_iff.1 hx).1
  refine ⟨?_, World.ownsRow.frozenAt (h : w.ownsRow _ _ _ _ _ _) k⟩
  rw [World.ownsRow.cellAt (h : w.ownsRow _ _ _ _ _ _) k (by omega)]
  simp [bl, hx]
theorem OwnB.put {w : World} {base g n c : Nat} {l : List By} (h : OwnB w base (.slice (some ⟨g, 0, none⟩) n c) l) (k : Nat) (x : By) : OwnB (w.setCell ⟨g, k, none⟩ (.int .u8 (x.toNat : Int))) base (.slice (some ⟨g, 0, none⟩) n c) (l.set k x) := by
  obtain ⟨a, c', e, _, _⟩ := h.bys
  injection e with e1 e2 e3
  subst e2
  have := (World.ownsRow.stored (h : w.ownsRow _ _ _ _ _ _) k (.int .u8 (x.toNat : Int))).1
  unfold OwnB
  rw [List.length_set]
  have hb : bl (l.set k x) = (bl l).set k (.int .u8 (x.toNat : Int)) := by simp [bl, List.map_set]
  rw [hb]
  exact this
theorem OwnB.only {w w' : World} {base g : Nat} {v : Value} {l : List By} (h : OwnB w base v l) (hg : Only g w w') (hlt : g < base) : OwnB w' base v l := by
  refine World.ownsRow.kept (h : w.ownsRow _ _ _ _ _ _) hg ?_
  cases hv : v.ownBlock with
  | none => exact .inl rfl
  | some k =>
    have := (World.ownsRow.lt (h : w.ownsRow _ _ _ _ _ _) k hv).1
    exact .inr (fun e => by injection e with e; omega)
theorem OwnB.base {w : World} {base g n c : Nat} {l : List By} (h : OwnB w base (.slice (some ⟨g, 0, none⟩) n c) l) : base ≤ g ∧ g < w.heap.size := World.ownsRow.lt (h : w.ownsRow _ _ _ _ _ _) g rfl
theorem OwnB.here {w : World} {base : Nat} {v : Value} {l : List By} (h : OwnB w base v l) (hn : v ≠ .slice none 0 0) : ∃ g c, v = .slice (some ⟨g, 0, none⟩) l.length c ∧ l.length ≤ c := by
  obtain ⟨a, c, hv, hc, hy⟩ := h.bys
  rcases h.2 with ⟨e, _⟩ | ⟨g, cap, cur, e, _⟩
  · exact absurd e hn
  · rw [e] at hv
    injection hv with h1 h2 h3
    subst h1
    exact ⟨g, cap, e, by rw [h3]; exact hc⟩

theorem NoHash.below {w w' : World} {p : Option Addr} (h : NoHash w p) (hb : Below w.heap.size w w') : NoHash w' p := by
  rcases h with h | ⟨b, e, h⟩
  · exact .inl h
  · exact .inr ⟨b, e, (hb.cell (p := ⟨b, 10, none⟩) (cell_lt h)).trans h⟩
end Go.Proofs.Yticgknjjhkgggaa
