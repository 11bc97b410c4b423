/- Contracts: the iterator over those that are suspected. -/
import Derived.Test.YtgajbaipkhopkaaWe
import Derived.RangeFuncNested
import Derived.RangeFuncBound
import Derived.RangeFuncCalls
import Derived.RangeFuncLeaves
import Derived.RangeFuncBox
import Derived.Shelf.Abstract
import Derived.Shelf.RegionOpen
import Derived.OwnWalkIn
import Derived.TacticsInMore
import Derived.LoopNIn
import Derived.LoopIn
namespace Go.Proofs.Ytgajbaipkhopkaa
open Go.RowKit Go.Shelf
attribute [local go_sem] Oper.semAt_some

/-- Who of the first k is suspected. -/
def sus (xs : List Wd) (k : Nat) : List Nat := (List.range k).filter fun i => (xs[i]?.map Wd.susp).getD false
theorem sus_yes {xs : List Wd} {k : Nat} {x : Wd} (h : xs[k]? = some x) (hs : x.susp = true) : sus xs (k + 1) = sus xs k ++ [k] := by
  simp [sus, List.range_succ, List.filter_append, h, hs]
theorem sus_no {xs : List Wd} {k : Nat} {x : Wd} (h : xs[k]? = some x) (hs : x.susp = false) : sus xs (k + 1) = sus xs k := by
  simp [sus, List.range_succ, List.filter_append, h, hs]
theorem sus_len (xs : List Wd) (k : Nat) : (sus xs k).length ≤ k := Nat.le_trans (List.length_filter_le _ _) (by simp)
theorem sus_pre (xs : List Wd) {k n : Nat} (h : k ≤ n) : sus xs k <+: sus xs n := by
  obtain ⟨m, rfl⟩ := Nat.exists_eq_add_of_le h
  simp [sus, List.range_add, List.filter_append]

/-- The cells of a list of places at a block. -/
def At (w : World) (g : Nat) (xs : List Wd) : Prop := ∀ (k : Nat) (x : Wd), xs[k]? = some x → w.cell? ⟨g, k * 3, none⟩ = some (.int .i64 x.since) ∧ w.cell? ⟨g, k * 3 + 1, none⟩ = some (.int .i64 x.wait) ∧ w.cell? ⟨g, k * 3 + 2, none⟩ = some (.bool x.susp)
theorem At.below {w w' : World} {g B : Nat} {xs : List Wd} (h : At w g xs) (hb : Below B w w') (hg : g < B) : At w' g xs := fun k x hx => by
  obtain ⟨a, b, c⟩ := h k x hx
  exact ⟨(hb.cell (p := ⟨g, _, none⟩) hg).trans a, (hb.cell (p := ⟨g, _, none⟩) hg).trans b, (hb.cell (p := ⟨g, _, none⟩) hg).trans c⟩

/-- Block g has not turned. -/
def Hold (g : Nat) (W W' : World) : Prop := W'.heap[g]? = W.heap[g]?
theorem Hold.refl (g : Nat) (W : World) : Hold g W W := rfl
theorem Hold.trans {g : Nat} {A B C : World} (h : Hold g A B) (k : Hold g B C) : Hold g A C := Eq.trans k h
theorem Hold.alloc {g : Nat} {A B : World} (h : Hold g A B) (hg : g < B.heap.size) (o : Obj) : Hold g A (B.alloc o) := Eq.trans (Below.heap_alloc B o g hg) h
theorem Hold.below {g N : Nat} {A B : World} (h : Below N A B) (hg : g < N) : Hold g A B := h.block g hg
theorem Hold.set {g : Nat} (W : World) {p : Addr} (hp : g ≠ p.block) (u : Value) : Hold g W (W.setCell p u) := Below.heap_setCell W p u g hp
theorem hold_b {g : Nat} {w : World} (hg : g < w.heap.size) (W : World) (l : Nat) (o o' : Obj) (hl : w.heap.size ≤ l) (_ : W.heap[l]? = some o) (_ : o.isCells = false) (_ : o.isWalk = false) : Hold g W (W.putObj l o') :=
  World.putObj_heap_other (by omega)
theorem At.hold {w w' : World} {g : Nat} {xs : List Wd} (h : At w g xs) (hb : Hold g w w') : At w' g xs := fun k x hx => by
  obtain ⟨a, b, c⟩ := h k x hx
  exact ⟨(World.cell?_of_block (a := ⟨g, _, none⟩) hb).trans a, (World.cell?_of_block (a := ⟨g, _, none⟩) hb).trans b, (World.cell?_of_block (a := ⟨g, _, none⟩) hb).trans c⟩

set_option maxRecDepth 100000 in
set_option maxHeartbeats 2000000 in
theorem seq1_in (n : Nat) (l Bs g cap : Nat) (xs : List Wd) (hlen : xs.length ≤ 9) (J Jx : List Nat → World → Prop)
    (hY : ∀ pre x W, J pre W → pre.length < xs.length → YieldAt Fence.wide (n - 1) Try.prog l #[.int .i64 (x : Nat)] W fun e W' =>
      (e = .returned (.bool true) ∧ J (pre ++ [x]) W' ∧ Hold g W W') ∨ (e = .returned (.bool false) ∧ Jx (pre ++ [x]) W'))
    (W : World) (hg : g < W.heap.size) (hJ : AbidesFrom W.heap.size J) (hBs : W.cell? ⟨Bs, 0, none⟩ = some (.slice (some ⟨g, 0, none⟩) xs.length cap)) (hc : At W g xs) (h0 : J [] W) :
    CallsIn Fence.wide n Try.prog 34 #[.func (.yield l) #[] #[], .pointer (some ⟨Bs, 0, none⟩)] W fun e W' => (∃ v, e = .returned v) ∧
      ((∃ ys, ys = sus xs xs.length ∧ J ys W') ∨ (∃ pre, pre <+: sus xs xs.length ∧ Jx pre W')) := by
  refine callsIn_of_wp Try.func34 rfl trivial ?_ rfl
  simp only [Try.ntmps34, List.size_toArray, List.length_cons, List.length_nil, Nat.reduceAdd, Nat.reduceSub, Array.replicate_succ, Array.replicate_zero, List.push_toArray, List.append_toArray, List.nil_append, List.cons_append]
  refine wpIn_wide.2 (wp_scope_straight ((wpIn_wide (n := n)).1 ?_))
  gi_wp2
  refine wpIn_label ?_
  gi_wp2
  gi_loopw [7] (fun i wr => ∃ k : Nat, k ≤ xs.length ∧ i = .int .i64 k ∧ J (sus xs k) wr ∧ Hold g W wr)
    (fun i _ => xs.length - (intOf i).toNat)
  case atStart => exact ⟨0, Nat.zero_le _, rfl, h0, Hold.refl _ _⟩
  case round =>
    obtain ⟨k, hk, rfl, hJs, hnx⟩ := hrel
    have hgr : g < wr.heap.size := by
      obtain ⟨o, ho⟩ : ∃ o, W.heap[g]? = some o := ⟨_, Array.getElem?_eq_getElem hg⟩
      exact (Array.getElem?_eq_some_iff.1 (Eq.trans hnx ho)).1
    by_cases hlt : k < xs.length
    · obtain ⟨x, hx⟩ : ∃ x, xs[k]? = some x := ⟨xs[k], List.getElem?_eq_getElem hlt⟩
      obtain ⟨a0, a1, a2⟩ := (hc.hold hnx) k x hx
      cases hs : x.susp
      · rw [hs] at a2
        have Hs := Lib.hid hs; clear hs
        have hJ1 := Lib.hid (hJ _ _ _ none hJs (World.grownBy_alloc wr (.cells #[.int .i64 x.since, .int .i64 x.wait, .bool false] 32) none) (fun r e => by cases e))
        have hB1 := Lib.hid (hnx.alloc hgr (.cells #[.int .i64 x.since, .int .i64 x.wait, .bool false] 32))
        gi_wp2
        all_goals
          refine ⟨fun _ h => (by cases h), ?_⟩
          gi_wp2
          go_roundw
          case rel => exact ⟨k + 1, by omega, by go_num, by rw [sus_no hx Hs.out]; exact hJ1.out, hB1.out⟩
          case measure => simp [intOf]; omega
      · rw [hs] at a2
        have Hs := Lib.hid hs; clear hs
        have hB1 := hnx.alloc hgr (.cells #[.int .i64 x.since, .int .i64 x.wait, .bool true] 32)
        obtain ⟨fn, tmps, assign, body, hy, hR⟩ := hY _ k (wr.alloc (.cells #[.int .i64 x.since, .int .i64 x.wait, .bool true] 32)) (hJ _ _ _ none hJs (World.grownBy_alloc _ _ _) (fun r e => by cases e)) (by have := sus_len xs k; omega)
        gi_wp2
        refine ⟨fun h => (by simp [Fence.wide] at h), hR.mono ?_⟩
        rw [← sus_yes hx Hs.out]
        rintro e W3 (⟨rfl, hJ3, hk3⟩ | ⟨rfl, hJx3⟩)
        · have hJ3' := Lib.hid hJ3
          have hB3 := Lib.hid (hB1.trans hk3)
          clear hJ3 hk3 hB1 hy hR hJs
          gi_wp2
          go_roundw
          case rel => exact ⟨k + 1, by omega, by go_num, hJ3'.out, hB3.out⟩
          case measure => simp [intOf]; omega
        · have hJ3' := Lib.hid hJx3
          clear hJx3 hB1 hy hR hJs
          gi_wp2
          rw [Exit.noGoto_normal]
          go_end0
          exact ⟨⟨_, rfl⟩, .inr ⟨_, sus_pre xs (by omega), hJ3'.out⟩⟩
    · obtain rfl : k = xs.length := by omega
      gi_wp2
      rw [Exit.noGoto_normal]
      go_end0
      exact ⟨⟨_, rfl⟩, .inl ⟨_, rfl, hJs⟩⟩
end Go.Proofs.Ytgajbaipkhopkaa
