/- What the walk of SuspectCopies keeps. -/
import Derived.Test.YtgajbaipkhopkaaXp
namespace Go.Proofs.Ytgajbaipkhopkaa
open Go.RowKit

def Ac.cells (x : Ac) : Array Value := #[.bool x.hear, .int .i64 x.place, .int .i64 x.n]
/-- Blocks of the walk, in the order in which they were made: two calls, the watch, the reference's. -/
structure CP (w W : World) (b G : Nat) (s : St) (cs : Array Value) (x y : Ac) : Prop where
  isw : IsW W b s
  blk : Blk W G 35 cs
  bel : Below w.heap.size w W
  bx : Blk W w.heap.size 24 x.cells
  by' : Blk W (w.heap.size + 1) 24 y.cells
  o1 : w.heap.size + 1 < b
  o2 : b < G
section
variable {w W W' : World} {b G : Nat} {s : St} {cs : Array Value} {x y : Ac}
theorem CP.below (h : CP w W b G s cs x y) (hb : Below W.heap.size W W') : CP w W' b G s cs x y :=
  ⟨h.isw.below hb h.isw.lt, h.blk.below hb h.blk.lt, h.bel.trans (hb.mono h.bel.size), h.bx.below hb h.bx.lt, h.by'.below hb h.by'.lt, h.o1, h.o2⟩
theorem CP.act (h : CP w W b G s cs x y) {s' : St} (hW : IsW W' b s') (hO : Only b W W') : CP w W' b G s' cs x y := by
  have o1 := h.o1; have o2 := h.o2
  exact ⟨hW, hO.blk h.blk (by omega), h.bel.trans (hO.below h.bel.size (by omega)), hO.blk h.bx (by omega), hO.blk h.by' (by omega), h.o1, h.o2⟩
theorem CP.put (h : CP w W b G s cs x y) {cs2 : Array Value} (hB : Blk W' G 35 cs2) (hO : Only G W W') : CP w W' b G s cs2 x y := by
  have o1 := h.o1; have o2 := h.o2
  exact ⟨h.isw.far2 hO (by omega), hB, h.bel.trans (hO.below h.bel.size (by omega)), hO.blk h.bx (by omega), hO.blk h.by' (by omega), h.o1, h.o2⟩
theorem CP.far (h : CP w W b G s cs x y) {k : Nat} (hO : Only k W W') (hk : G < k) : CP w W' b G s cs x y := by
  have o1 := h.o1; have o2 := h.o2
  exact ⟨h.isw.far2 hO (by omega), hO.blk h.blk (by omega), h.bel.trans (hO.below h.bel.size (by omega)), hO.blk h.bx (by omega), hO.blk h.by' (by omega), h.o1, h.o2⟩
theorem CP.cx (h : CP w W b G s cs x y) : W.cell? ⟨w.heap.size, 0, none⟩ = some (.bool x.hear) ∧ W.cell? ⟨w.heap.size, 1, none⟩ = some (.int .i64 x.place) ∧ W.cell? ⟨w.heap.size, 2, none⟩ = some (.int .i64 x.n) :=
  ⟨h.bx.cell rfl, h.bx.cell rfl, h.bx.cell rfl⟩
theorem CP.cy (h : CP w W b G s cs x y) : W.cell? ⟨w.heap.size + 1, 0, none⟩ = some (.bool y.hear) ∧ W.cell? ⟨w.heap.size + 1, 1, none⟩ = some (.int .i64 y.place) ∧ W.cell? ⟨w.heap.size + 1, 2, none⟩ = some (.int .i64 y.n) :=
  ⟨h.by'.cell rfl, h.by'.cell rfl, h.by'.cell rfl⟩
end
theorem new513 : newOk 5 1 3 = true := by decide +kernel
theorem new523 : newOk 5 2 3 = true := by decide +kernel
theorem act_self (s : St) (x : Ac) : (actS s x).self = s.self := by
  unfold actS; split
  · unfold hearS; split <;> rfl
  · unfold tickS; split <;> rfl
theorem after_self (s : St) (xs : List Ac) : ∀ k, (after s xs k).self = s.self := by
  intro k
  unfold after
  generalize xs.take k = ys
  induction ys generalizing s with
  | nil => rfl
  | cons y ys ih => rw [List.foldl_cons, ih, act_self]
theorem same_other {s s' : St} (h : s.self ≠ s'.self) : sameB s s' = false := by
  unfold sameB
  rw [decide_eq_false h]
  simp
theorem sameB_comm (s s' : St) : sameB s s' = sameB s' s := by
  rw [Bool.eq_iff_iff, sameB_iff, sameB_iff]
  exact ⟨Eq.symm, Eq.symm⟩
end Go.Proofs.Ytgajbaipkhopkaa
