/- What the loop of SuspectPlays keeps. -/
import Derived.Test.YtgajbaipkhopkaaXk
namespace Go.Proofs.Ytgajbaipkhopkaa
open Go.RowKit

/-- What stands: the watch, the reference's watch in its cell, none. -/
structure PL (w W : World) (b G : Nat) (st : St) (cs : Array Value) (v : Option Addr) : Prop where
  isw : IsW W b st
  blk : Blk W G 35 cs
  bel : Below w.heap.size w W
  no : NoW W v
  bb : w.heap.size ≤ b
  gg : w.heap.size ≤ G
  ne : b ≠ G
  far : ∀ g, v = some ⟨g, 0, none⟩ → g ≠ b ∧ g ≠ G

theorem NoW.lt {W : World} {v : Option Addr} (h : NoW W v) : ∀ g, v = some ⟨g, 0, none⟩ → g < W.heap.size := by
  intro g e
  rcases h with rfl | ⟨b, rfl, hc⟩
  · cases e
  · injection e with e; injection e with e; subst e; exact cell_lt hc
theorem NoW.only {W W' : World} {v : Option Addr} {k : Nat} (h : NoW W v) (hO : Only k W W') (hk : ∀ g, v = some ⟨g, 0, none⟩ → g ≠ k) : NoW W' v := by
  rcases h with rfl | ⟨b, rfl, hc⟩
  · exact .inl rfl
  · exact .inr ⟨b, rfl, (World.cell?_of_block (a := ⟨b, 1, none⟩) (hO.block b (cell_lt hc) (fun e => hk b rfl (by injection e)))).trans hc⟩
section
variable {w W W' : World} {b G : Nat} {st : St} {cs : Array Value} {v : Option Addr}
theorem PL.below (h : PL w W b G st cs v) (hb : Below W.heap.size W W') : PL w W' b G st cs v :=
  ⟨h.isw.below hb h.isw.lt, h.blk.below hb h.blk.lt, h.bel.trans (hb.mono h.bel.size), h.no.below hb, h.bb, h.gg, h.ne, h.far⟩
theorem PL.act (h : PL w W b G st cs v) {st' : St} (hW : IsW W' b st') (hO : Only b W W') : PL w W' b G st' cs v :=
  ⟨hW, hO.blk h.blk h.ne.symm, h.bel.trans (hO.below h.bel.size h.bb), h.no.only hO (fun g e => (h.far g e).1), h.bb, h.gg, h.ne, h.far⟩
theorem PL.put (h : PL w W b G st cs v) {cs2 : Array Value} (hB : Blk W' G 35 cs2) (hO : Only G W W') : PL w W' b G st cs2 v :=
  ⟨h.isw.far2 hO h.ne, hB, h.bel.trans (hO.below h.bel.size h.gg), h.no.only hO (fun g e => (h.far g e).2), h.bb, h.gg, h.ne, h.far⟩
theorem PL.side (h : PL w W b G st cs v) {p : Nat} (hO : Only p W W') (hp : w.heap.size ≤ p) (hb : b ≠ p) (hg : G ≠ p) (hv : ∀ g, v = some ⟨g, 0, none⟩ → g ≠ p) : PL w W' b G st cs v :=
  ⟨h.isw.far2 hO hb, hO.blk h.blk hg, h.bel.trans (hO.below h.bel.size hp), h.no.only hO hv, h.bb, h.gg, h.ne, h.far⟩
/-- A new cell for a reference's watch. -/
theorem PL.cell (h : PL w W b G st cs v) : PL w (W.alloc (.cells Z35 35)) b G st cs v ∧ Blk (W.alloc (.cells Z35 35)) W.heap.size 35 Z35 ∧ w.heap.size ≤ W.heap.size ∧ b ≠ W.heap.size ∧ G ≠ W.heap.size ∧ (∀ g, v = some ⟨g, 0, none⟩ → g ≠ W.heap.size) ∧ Below W.heap.size W (W.alloc (.cells Z35 35)) :=
  ⟨h.below ((Below.refl _ _).alloc (Nat.le_refl _) _), Blk.new _ _ _, h.bel.size, Nat.ne_of_lt h.isw.lt, Nat.ne_of_lt h.blk.lt, fun g e => Nat.ne_of_lt (h.no.lt g e), (Below.refl _ _).alloc (Nat.le_refl _) _⟩
end
/-- The state behind k calls. -/
def after (s : St) (xs : List Ac) (k : Nat) : St := (xs.take k).foldl actS s
theorem after_zero (s : St) (xs : List Ac) : after s xs 0 = s := rfl
theorem after_succ {s : St} {xs : List Ac} {k : Nat} {x : Ac} (h : xs[k]? = some x) : after s xs (k + 1) = actS (after s xs k) x := by
  unfold after
  rw [List.take_add_one, h, Option.toList_some, List.foldl_append]
  rfl
theorem good_after {s : St} (h : Good s) (xs : List Ac) : ∀ k, Good (after s xs k) := by
  intro k
  unfold after
  generalize xs.take k = ys
  induction ys generalizing s with
  | nil => exact h
  | cons y ys ih => exact ih (good_act h y)
end Go.Proofs.Ytgajbaipkhopkaa
