/- Contracts: bytes, block by block. Contracts: bytes are put into a hash. Contracts: the sum of a hash. Contracts: the sum of parts, with a key or without. -/
import Derived.Test.YtomnjhhpeglcnaaGreatZp
import Derived.RangeFuncNested
import Derived.RangeFuncBound
import Derived.RangeFuncCalls
import Derived.RangeFuncLeaves
import Derived.RangeFuncBox
import Derived.Shelf.Abstract
import Derived.Shelf.RegionOpen
import Derived.OwnWalkIn
import Derived.TacticsInMore
import Derived.LoopNIn
import Derived.LoopIn
import Derived.IntWalk
namespace Go.Proofs.YtomnjhhpeglcnaaGreat
open Go.RowKit Go.Shelf
set_option maxRecDepth 100000
attribute [local go_sem] Oper.semAt_some
set_option linter.unusedSimpArgs false
set_option linter.unusedVariables false

def fl (m : Nat) : Nat := (m - 1) / 64
theorem full_fl (d : List By) : full d = fl d.length := rfl
/-- What is told of block k. -/
def blkEnc (ad : Option Nat) (m cap : Nat) (k : Nat) : Array Value := #[.slice (ad.map fun g => ⟨g, 64 * k, none⟩) (min 64 (m - 64 * k)) (cap - 64 * k), .bool (decide (m - 64 * k ≤ 64))]
def sliceLen : Value → Nat
  | .slice _ n _ => n
  | _ => 0

set_option maxRecDepth 100000 in
set_option maxHeartbeats 2000000 in
theorem blk_in (n l Bs g cap m : Nat) (hm : m ≤ cap) (J Jx : List Nat → World → Prop)
    (hY : ∀ pre x W, J pre W → pre.length < fl m + 1 → YieldAt Fence.wide (n - 1) Tryz.prog l (blkEnc (some g) m cap x) W fun e W' =>
      (e = .returned (.bool true) ∧ J (pre ++ [x]) W' ∧ True) ∨ (e = .returned (.bool false) ∧ Jx (pre ++ [x]) W'))
    (W : World) (hBs : W.cell? ⟨Bs, 0, none⟩ = some (.slice (some ⟨g, 0, none⟩) m cap)) (h0 : J [] W) :
    CallsIn Fence.wide n Tryz.prog 108 #[.func (.yield l) #[] #[], .pointer (some ⟨Bs, 0, none⟩)] W fun e W' => (∃ v, e = .returned v) ∧
      ((∃ ys, ys = List.range (fl m + 1) ∧ J ys W') ∨ (∃ pre, (∃ k, k ≤ fl m ∧ pre = List.range (k + 1)) ∧ Jx pre W')) := by
  refine callsIn_of_wp Tryz.func108 rfl trivial ?_ rfl
  simp only [Tryz.ntmps108, List.size_toArray, List.length_cons, List.length_nil, Nat.reduceAdd, Nat.reduceSub, Array.replicate_succ, Array.replicate_zero, List.push_toArray, List.append_toArray, List.nil_append, List.cons_append]
  refine wpIn_wide.2 (wp_scope_straight ((wpIn_wide (n := n)).1 ?_))
  gi_wp2
  refine wpIn_label ?_
  gi_wp2
  gi_loopw [3] (fun v wr => ∃ k : Nat, k ≤ fl m ∧ v = .slice (some ⟨g, 64 * k, none⟩) (m - 64 * k) (cap - 64 * k) ∧ J (List.range k) wr)
    (fun v _ => sliceLen v)
  case atStart => exact ⟨0, Nat.zero_le _, rfl, h0⟩
  case round =>
    obtain ⟨k, hk, rfl, hJs⟩ := hrel
    by_cases hlt : k < fl m
    · have hl : 64 < m - 64 * k := by unfold fl at hlt; omega
      obtain ⟨q, hq⟩ : ∃ q, q = m - 64 * k := ⟨_, rfl⟩
      obtain ⟨cq, hcq⟩ : ∃ q, q = cap - 64 * k := ⟨_, rfl⟩
      have hy := hY _ k wr hJs (by simp; omega)
      have e1 : blkEnc (some g) m cap k = #[.slice (some ⟨g, 64 * k, none⟩) 64 cq, .bool false] := by
        unfold blkEnc
        rw [← hq, ← hcq, Nat.min_eq_left (by omega), decide_eq_false (by omega)]
        rfl
      rw [e1] at hy
      have hqc : q ≤ cq := by omega

      have l1 : ¬ (q : Int) ≤ 64 := by omega
      have l2 : ¬ q ≤ 64 := by omega
      have Hq := Lib.hid hq; have Hcq := Lib.hid hcq
      rw [← hq] at hl
      rw [← hq, ← hcq]
      clear e1 hq hcq
      obtain ⟨fn, tmps, assign, body, hy, hR⟩ := hy
      gi_wp2
      refine ⟨fun h => (by simp [Fence.wide] at h), hR.mono ?_⟩
      rintro e W3 (⟨rfl, hJ3, -⟩ | ⟨rfl, hJx3⟩)
      · have hJ3' := Lib.hid hJ3
        have k1 : cq ≠ 64 := by omega
        have k2 : ¬ (cq : Int) < 64 := by omega
        have k3 : ¬ (q : Int) < 64 := by omega
        have k4 : (64 : Int) ≤ q := by omega
        clear hJ3 hy hR hJs
        gi_wp2
        go_roundw
        case rel =>
          refine ⟨k + 1, by omega, ?_, by rw [List.range_succ]; exact hJ3'.out⟩
          have a1 := Hq.out
          have a2 := Hcq.out
          rw [show m - 64 * (k + 1) = q - 64 by omega, show cap - 64 * (k + 1) = cq - 64 by omega]
          rfl
        case measure => simp [sliceLen]; omega
      · have hJ3' := Lib.hid hJx3
        clear hJx3 hy hR hJs
        gi_wp2
        rw [Exit.noGoto_normal]
        go_end0
        exact ⟨⟨_, rfl⟩, .inr ⟨_, ⟨k, hk, rfl⟩, by rw [List.range_succ]; exact hJ3'.out⟩⟩
    · obtain rfl : k = fl m := by omega
      have hl : m - 64 * fl m ≤ 64 := by unfold fl; omega
      have hb : 64 * fl m ≤ m := by unfold fl; omega
      obtain ⟨q, hq⟩ : ∃ q, q = m - 64 * fl m := ⟨_, rfl⟩
      obtain ⟨cq, hcq⟩ : ∃ q, q = cap - 64 * fl m := ⟨_, rfl⟩
      have hy := hY _ (fl m) wr hJs (by simp)
      have e1 : blkEnc (some g) m cap (fl m) = #[.slice (some ⟨g, 64 * fl m, none⟩) q cq, .bool true] := by
        unfold blkEnc
        rw [← hq, ← hcq, Nat.min_eq_right (by omega), decide_eq_true (by omega)]
        rfl
      rw [e1] at hy
      have hqc : q ≤ cq := by omega

      have l1 : (q : Int) ≤ 64 := by omega
      have l2 : q ≤ 64 := by omega
      have Hq := Lib.hid hq; have Hcq := Lib.hid hcq
      rw [← hq, ← hcq]
      clear e1 hq hcq hl
      obtain ⟨fn, tmps, assign, body, hy, hR⟩ := hy
      have h64 : q < 64 ∨ q = 64 := by omega
      rcases h64 with h64 | rfl
      all_goals
        gi_wp2
        refine ⟨fun h => (by simp [Fence.wide] at h), hR.mono ?_⟩
        rintro e W3 (⟨rfl, hJ3, -⟩ | ⟨rfl, hJx3⟩)
        · have hJ3' := Lib.hid hJ3
          clear hJ3 hy hR hJs
          gi_wp2
          rw [Exit.noGoto_normal]
          go_end0
          exact ⟨⟨_, rfl⟩, .inl ⟨_, rfl, by rw [List.range_succ]; exact hJ3'.out⟩⟩
        · have hJ3' := Lib.hid hJx3
          clear hJx3 hy hR hJs
          gi_wp2
          rw [Exit.noGoto_normal]
          go_end0
          exact ⟨⟨_, rfl⟩, .inr ⟨_, ⟨fl m, hk, rfl⟩, by rw [List.range_succ]; exact hJ3'.out⟩⟩

set_option maxRecDepth 100000 in
set_option maxHeartbeats 2000000 in
theorem blk_nil (n l Bs : Nat) (J Jx : List Nat → World → Prop)
    (hY : ∀ pre x W, J pre W → pre.length < fl 0 + 1 → YieldAt Fence.wide (n - 1) Tryz.prog l (blkEnc none 0 0 x) W fun e W' =>
      (e = .returned (.bool true) ∧ J (pre ++ [x]) W' ∧ True) ∨ (e = .returned (.bool false) ∧ Jx (pre ++ [x]) W'))
    (W : World) (hBs : W.cell? ⟨Bs, 0, none⟩ = some (.slice none 0 0)) (h0 : J [] W) :
    CallsIn Fence.wide n Tryz.prog 108 #[.func (.yield l) #[] #[], .pointer (some ⟨Bs, 0, none⟩)] W fun e W' => (∃ v, e = .returned v) ∧
      ((∃ ys, ys = List.range (fl 0 + 1) ∧ J ys W') ∨ (∃ pre, (∃ k, k ≤ fl 0 ∧ pre = List.range (k + 1)) ∧ Jx pre W')) := by
  refine callsIn_of_wp Tryz.func108 rfl trivial ?_ rfl
  simp only [Tryz.ntmps108, List.size_toArray, List.length_cons, List.length_nil, Nat.reduceAdd, Nat.reduceSub, Array.replicate_succ, Array.replicate_zero, List.push_toArray, List.append_toArray, List.nil_append, List.cons_append]
  refine wpIn_wide.2 (wp_scope_straight ((wpIn_wide (n := n)).1 ?_))
  gi_wp2
  refine wpIn_label ?_
  gi_wp2
  gi_loopw [3] (fun v wr => v = .slice none 0 0 ∧ J [] wr) (fun v _ => 0)
  case atStart => exact ⟨rfl, h0⟩
  case round =>
    obtain ⟨rfl, hJs⟩ := hrel
    have hy := hY _ 0 wr hJs (by simp)
    have e1 : blkEnc none 0 0 0 = #[.slice none 0 0, .bool true] := rfl
    rw [e1] at hy
    obtain ⟨fn, tmps, assign, body, hy, hR⟩ := hy
    gi_wp2
    refine ⟨fun h => (by simp [Fence.wide] at h), hR.mono ?_⟩
    rintro e W3 (⟨rfl, hJ3, -⟩ | ⟨rfl, hJx3⟩)
    · have hJ3' := Lib.hid hJ3
      clear hJ3 hy hR hJs
      gi_wp2
      rw [Exit.noGoto_normal]
      go_end0
      exact ⟨⟨_, rfl⟩, .inl ⟨_, rfl, hJ3'.out⟩⟩
    · have hJ3' := Lib.hid hJx3
      clear hJx3 hy hR hJs
      gi_wp2
      rw [Exit.noGoto_normal]
      go_end0
      exact ⟨⟨_, rfl⟩, .inr ⟨_, ⟨0, Nat.zero_le _, rfl⟩, hJ3'.out⟩⟩

theorem blocks_stops (n Bs : Nat) (ad : Option Nat) (m cap : Nat) (w : World) (hlt : Bs < w.heap.size) (hBs : w.cell? ⟨Bs, 0, none⟩ = some (.slice (ad.map fun g => ⟨g, 0, none⟩) m cap)) (hm : m ≤ cap) (hnil : ad = none → cap = 0) :
    SeqStopsK Fence.wide n Tryz.prog 108 #[.pointer (some ⟨Bs, 0, none⟩)] (blkEnc ad m cap) (fun _ _ => True) (fun ys => ys = List.range (fl m + 1)) (fun pre => ∃ k, k ≤ fl m ∧ pre = List.range (k + 1)) (fl m + 1) w := fun l J Jx W hW hJ _ hY h0 => by
  have hc : W.cell? ⟨Bs, 0, none⟩ = some (.slice (ad.map fun g => ⟨g, 0, none⟩) m cap) := (hW.cell (p := ⟨Bs, 0, none⟩) hlt).trans hBs
  cases ad with
  | none =>
    have h1 := hnil rfl
    subst h1
    obtain rfl : m = 0 := by omega
    exact blk_nil n l Bs J Jx hY W hc h0
  | some g => exact blk_in n l Bs g cap m hm J Jx hY W hc h0
theorem blocks_c (a : Option Addr) (m cap : Nat) (w : World) :
    Calls Tryz.prog 101 #[.slice a m cap] w fun e w' => e = .returned (.func (.func 108) #[] #[.pointer (some ⟨w.heap.size, 0, none⟩)]) ∧ w' = w.alloc (.cells #[.slice a m cap] 40) := by
  have hmf : ∀ (fn : Fn) (first cap : Array Value) (w : World), (Instr.makeFunc fn first cap).run Tryz.prog w = .ok (.func fn first cap) w := fun _ _ _ _ => rfl
  go_enter Tryz.func101, Tryz.ntmps101
  go_wp2
  go_ret
  exact ⟨rfl, rfl⟩
end Go.Proofs.YtomnjhhpeglcnaaGreat

namespace Go.Proofs.YtomnjhhpeglcnaaGreat
open Go.RowKit Go.Shelf
set_option maxRecDepth 100000
attribute [local go_sem] Oper.semAt_some
set_option linter.unusedSimpArgs false
set_option linter.unusedVariables false

/-- A row that is no cells' is not a block of cells. -/
def NoCells (B : Nat) (W : World) (row : Option Nat) : Prop := ∀ r, row = some r → B ≤ r ∧ ∃ o : Obj, W.heap[r]? = some o ∧ o.isCells = false
theorem Blk.keep {W W' : World} {g : Nat} {t : TypeId} {cs : Array Value} {B : Nat} {row : Option Nat} (h : Blk W g t cs) (hg : W.grownBy W' row) (hr : NoCells B W row) : Blk W' g t cs :=
  h.grown hg (fun e => by
    obtain ⟨_, o, ho, hc⟩ := hr g e.symm
    have : W.heap[g]? = some (.cells cs t (0, 0)) := h
    rw [this] at ho
    injection ho with ho
    subst ho
    cases hc)
theorem Bys.keep {W W' : World} {a : Option Addr} {n B : Nat} {l : List By} {row : Option Nat} (h : Bys W a n l) (hg : W.grownBy W' row) (hr : NoCells B W row) : Bys W' a n l := by
  refine ⟨h.1, fun i c hi => ?_⟩
  obtain ⟨x, off, e, hx, hc⟩ := h.2 i c hi
  refine ⟨x, off, e, Nat.lt_of_lt_of_le hx hg.size, (World.cell?_of_block (a := ⟨x, off + i, none⟩) (hg.block x hx (fun e' => ?_))).trans hc⟩
  obtain ⟨_, o, ho, hco⟩ := hr x e'.symm
  obtain ⟨o', ho', hc'⟩ := cells_of_cell hc
  rw [ho] at ho'
  injection ho' with ho'
  subst ho'
  rw [hco] at hc'
  cases hc'
/-- What a hash's Write holds, block by block. -/
structure WI (w0 : World) (b box rc : Nat) (cells res : Array Value) (xa : Option Addr) (m : Nat) (D : List By) (W : World) : Prop where
  blk : Blk W b 167 cells
  box : Blk W box 146 #[.pointer (some ⟨b, 0, none⟩)]
  res : Blk W rc 32 res
  dat : Bys W xa m D
  only : Only b w0 W
theorem WI.keep {w0 W W' : World} {b box rc m B : Nat} {cells res : Array Value} {xa : Option Addr} {D : List By} {row : Option Nat} (h : WI w0 b box rc cells res xa m D W) (hB : w0.heap.size ≤ B) (hg : W.grownBy W' row) (hr : NoCells B W row) : WI w0 b box rc cells res xa m D W' :=
  ⟨h.blk.keep hg hr, h.box.keep hg hr, h.res.keep hg hr, h.dat.keep hg hr, h.only.grown hg (fun k e => .inr (Nat.le_trans hB (hr k e).1))⟩
theorem WI.below {w0 W W' : World} {b box rc m : Nat} {cells res : Array Value} {xa : Option Addr} {D : List By} (h : WI w0 b box rc cells res xa m D W) (hb : Below W.heap.size W W') : WI w0 b box rc cells res xa m D W' :=
  ⟨h.blk.below hb h.blk.lt, h.box.below hb h.box.lt, h.res.below hb h.res.lt, h.dat.below hb, h.only.trans (Only.of_below hb b)⟩
theorem own_form {w : World} {base : Nat} {v : Value} {l : List By} (h : OwnB w base v l) : ∃ ad cap, v = .slice (Option.map (fun g => (⟨g, 0, none⟩ : Addr)) ad) l.length cap ∧ l.length ≤ cap ∧ (ad = none → cap = 0) ∧ (∀ g, ad = some g → base ≤ g) ∧ Bys w (Option.map (fun g => (⟨g, 0, none⟩ : Addr)) ad) l.length l := by
  obtain ⟨a, c, rfl, hc, hb⟩ := h.bys
  rcases h.2 with ⟨e, _⟩ | ⟨g, cap, cur, e, hg, _⟩
  · injection e with e1 e2 e3
    subst e1; subst e3
    exact ⟨none, 0, rfl, hc, (fun _ => rfl), (fun g e => by cases e), hb⟩
  · injection e with e1 e2 e3
    subst e1
    exact ⟨some g, c, rfl, hc, (fun e => by cases e), (fun g' e => by injection e with e; omega), hb⟩
/-- Bytes do not lie in a hash's own block. -/
theorem bys_apart {w : World} {b : Nat} {t : TypeId} {h : List Wo} {k : Nat} {v0 : Value} {x y : Int} {a : Option Addr} {n : Nat} {l : List By} (hb : Blk w b t (scells h k [v0, .int .i64 x, .int .i64 y])) (hh : h.length = 8) (hv : ∀ c, v0 ≠ .int .u8 c) (hl : Bys w a n l) :
    ∀ g off, a = some ⟨g, off, none⟩ → 0 < n → g ≠ b := by
  intro g off e h0 hg
  subst hg
  obtain ⟨g', off', e', _, hc⟩ := hl.cells h0
  rw [e] at e'
  injection e' with e'
  injection e' with e1 e2
  subst e1; subst e2
  obtain ⟨c, hc0⟩ : ∃ c, l[0]? = some c := ⟨l[0]'(by rw [hl.1]; exact h0), List.getElem?_eq_getElem _⟩
  have h1 := hc 0 c hc0
  rw [Nat.add_zero] at h1
  have hcell : w.cell? ⟨g, off, none⟩ = (scells h k [v0, .int .i64 x, .int .i64 y])[off]? := by
    unfold Blk at hb; simp [World.cell?, hb]
  rw [hcell] at h1
  rcases Nat.lt_or_ge off 8 with h8 | h8
  · rw [scells_word hh h8] at h1; cases h1
  · rcases (show off = 8 ∨ off = 9 + 0 ∨ off = 9 + 1 ∨ off = 9 + 2 ∨ ∃ j, off = 9 + (j + 3) from by
      by_cases q : off < 12
      · omega
      · exact .inr (.inr (.inr (.inr ⟨off - 12, by omega⟩)))) with e | e | e | e | ⟨j, e⟩
    · rw [e, scells_n hh] at h1; cases h1
    · rw [e, scells_rest hh] at h1; exact hv _ (by simpa using h1)
    · rw [e, scells_rest hh] at h1; cases h1
    · rw [e, scells_rest hh] at h1; cases h1
    · rw [e, scells_rest hh] at h1; simp at h1
theorem keepsFrom_below {W W' : World} (B : Nat) (hb : Below W.heap.size W W') : KeepsFrom B W W' := ⟨hb.size, fun k o _ hk _ => (hb.block k (Array.getElem?_eq_some_iff.1 hk).1).trans hk⟩
/-- Behind some blocks: none of them was the last. -/
def WJ (w0 : World) (b s : Nat) (P : List Wo) (n0 : Nat) (D : List By) (m : Nat) (va : Option Addr) (rest : List Value) (pre : List Nat) (W : World) : Prop :=
  (∀ x ∈ pre, 64 < m - 64 * x) ∧ WI w0 b s (s + 1) (scells (pressL P n0 D pre).1 (n0 + 64 * pre.length) rest) #[.int .i64 0] va m D W
theorem WJ.own {w0 W4 : World} {b s n0 m : Nat} {P : List Wo} {D : List By} {va : Option Addr} {rest : List Value} (hB : w0.heap.size ≤ W4.heap.size) : OwnFrom W4.heap.size (WJ w0 b s P n0 D m va rest) :=
  fun pre W W' row h hg hr => ⟨h.1, h.2.keep hB hg hr⟩
/-- The last block was met. -/
def WX (w0 : World) (b s : Nat) (P : List Wo) (n0 : Nat) (D : List By) (m : Nat) (wide len : Nat) (c : Code) (pre : List Nat) (W : World) : Prop :=
  c = .ret ∧ ∃ pre' x, pre = pre' ++ [x] ∧ m - 64 * x ≤ 64 ∧ (∀ y ∈ pre', 64 < m - 64 * y) ∧ ∃ a c, Blk W b 167 (scells (pressL P n0 D pre').1 (n0 + 64 * pre'.length) [.slice a (blockAt D x).length c, .int .i64 (wide : Int), .int .i64 (len : Int)]) ∧
    Bys W a (blockAt D x).length (blockAt D x) ∧ (∀ g off, a = some ⟨g, off, none⟩ → 0 < (blockAt D x).length → g ≠ b) ∧ Only b w0 W ∧ Blk W (s + 1) 32 #[.int .i64 0]
theorem WX.own {w0 W4 : World} {b s n0 m wide len : Nat} {P : List Wo} {D : List By} (c : Code) (hB : w0.heap.size ≤ W4.heap.size) : OwnFrom W4.heap.size (WX w0 b s P n0 D m wide len c) := by
  intro pre W W' row h hg hr
  obtain ⟨hc, pre', x, h1, h2, h3, a, cc, h4, h5, h6, h7, h8⟩ := h
  exact ⟨hc, pre', x, h1, h2, h3, a, cc, h4.keep hg hr, h5.keep hg hr, h6, h7.grown hg (fun k e => .inr (Nat.le_trans hB (hr k e).1)), h8.keep hg hr⟩
/-- A block's bytes. -/
theorem bys_block {W : World} {ad : Option Nat} {D : List By} {m : Nat} (h : Bys W (Option.map (fun g => (⟨g, 0, none⟩ : Addr)) ad) m D) (x : Nat) : (blockAt D x).length = min 64 (m - 64 * x) ∧ Bys W (Option.map (fun g => (⟨g, 64 * x, none⟩ : Addr)) ad) (min 64 (m - 64 * x)) (blockAt D x) := by
  have hl : (blockAt D x).length = min 64 (m - 64 * x) := by unfold blockAt; rw [List.length_take, List.length_drop, h.1]
  refine ⟨hl, hl, fun i c hi => ?_⟩
  have hlt := (List.getElem?_eq_some_iff.1 hi).1
  unfold blockAt at hi
  rw [List.getElem?_take, if_pos (by rw [hl] at hlt; omega), List.getElem?_drop] at hi
  obtain ⟨g, off, e, hg, hc⟩ := h.2 (64 * x + i) c hi
  cases ad with
  | none => cases e
  | some g' =>
    injection e with e
    injection e with e1 e2
    subst e1; subst e2
    exact ⟨g', 64 * x, rfl, hg, by rw [Nat.zero_add] at hc; exact hc⟩
set_option maxRecDepth 100000 in
set_option maxHeartbeats 4000000 in
theorem write_in (b : Nat) (h0 : List Wo) (d : List By) (wide len : Nat) (a : Option Addr) (n c : Nat) (l : List By) (w : World) (hH : IsHash w b h0 d wide len) (hl : Bys w a n l) (hn : n ≤ 100000000) (hd : d.length + n ≤ 100000000000) (hlen : len ≤ 1000000000000) :
    CallsIn Fence.wide 5 Tryz.prog 92 #[.pointer (some ⟨b, 0, none⟩), .slice a n c] w fun e w' => e = .returned (.int .i64 0) ∧ IsHash w' b h0 (d ++ l) wide (len + n) ∧ Only b w w' := by
  have HH := Lib.hid hH
  have HL := Lib.hid hl
  clear hH hl
  refine callsIn_of_wp_marks Tryz.func92 rfl trivial ?_ rfl
  simp only [Tryz.ntmps92, List.size_toArray, List.length_cons, List.length_nil, Nat.reduceAdd, Nat.reduceSub, Array.replicate_succ, Array.replicate_zero, List.push_toArray, List.append_toArray, List.nil_append, List.cons_append]
  gi_wp2_with fail
  refine ⟨trivial, ?_⟩
  have HH2 := Lib.hid (HH.out.below (((Below.refl w.heap.size w).alloc (Nat.le_refl _) (.cells #[.pointer (some ⟨b, 0, none⟩)] 146)).alloc (by simp) (.cells #[.int .i64 0] 32)))
  refine (callsIn_wide.2 (none_no b _ _ _ _ _ HH2.out)).mono ?_
  rintro e w' ⟨rfl, rfl⟩
  obtain ⟨hh0, hw1, hw2, hdl, la, lc, hblk, hlb, hsep⟩ := HH2.out
  have hO2 := ((Only.refl b w).alloc (.cells #[.pointer (some ⟨b, 0, none⟩)] 146)).alloc (.cells #[.int .i64 0] 32)
  have hbx := (Blk.new w 146 #[.pointer (some ⟨b, 0, none⟩)]).alloc (.cells #[.int .i64 0] 32)
  have hrc := Blk.new2 w (.cells #[.pointer (some ⟨b, 0, none⟩)] 146) 32 #[.int .i64 0]
  have hL2 := HL.out.below (((Below.refl w.heap.size w).alloc (Nat.le_refl _) (.cells #[.pointer (some ⟨b, 0, none⟩)] 146)).alloc (by simp) (.cells #[.int .i64 0] 32))
  have hbs : b < w.heap.size := HH.out.lt
  obtain ⟨P, hP⟩ : ∃ P, P = pressN h0 0 d (full d) := ⟨_, rfl⟩
  have hPl : P.length = 8 := by rw [hP, pressN_len]; exact hh0
  rw [← hP] at hblk
  obtain ⟨s, hs⟩ : ∃ s, s = w.heap.size := ⟨_, rfl⟩
  rw [← hs] at hbx hrc hbs ⊢
  have Hs := Lib.hid hs
  obtain ⟨q, hq⟩ : ∃ q, q = (leftOf d).length := ⟨_, rfl⟩
  have hq64 : q ≤ 64 := by rw [hq]; exact left_le d
  rw [← hq] at hblk hlb hsep
  have Hq := Lib.hid hq; have HP := Lib.hid hP; have HPL := Lib.hid hPl
  clear hs hq hP hPl HH2
  generalize (World.alloc _ _) = W1 at hblk hlb hO2 hbx hrc hL2 ⊢
  have c11 := cell11 hblk HPL.out
  have c9 := cell9 hblk HPL.out
  have f11 := hblk.frozen 11
  have cbx : W1.cell? ⟨s, 0, none⟩ = some (.pointer (some ⟨b, 0, none⟩)) := hbx.cell rfl
  have hlw : IntKind.i64.wrap ((len : Int) + (n : Int)) = (len : Int) + (n : Int) := IntWalk.i64_in _ (by omega)
  have Hblk := Lib.hid (set11 hblk HPL.out (.int .i64 ((len : Int) + (n : Int))))
  have Hlb := Lib.hid (hlb.only ((Only.refl b W1).setCell (p := ⟨b, 11, none⟩) (.inl rfl) (.int .i64 ((len : Int) + (n : Int)))) hsep)
  have HO := Lib.hid (hO2.setCell (p := ⟨b, 11, none⟩) (.inl rfl) (.int .i64 ((len : Int) + (n : Int))))
  have Hbx := Lib.hid (hbx.far (p := ⟨b, 11, none⟩) (Nat.ne_of_gt hbs) (.int .i64 ((len : Int) + (n : Int))))
  have Hrc := Lib.hid (hrc.far (p := ⟨b, 11, none⟩) (show s + 1 ≠ b by omega) (.int .i64 ((len : Int) + (n : Int))))
  have HLn := Lib.hid (hL2.only ((Only.refl b W1).setCell (p := ⟨b, 11, none⟩) (.inl rfl) (.int .i64 ((len : Int) + (n : Int)))) (bys_apart hblk HPL.out (fun c e => by cases e) hL2))
  have hz : (W1.setCell ⟨b, 11, none⟩ (.int .i64 ((len : Int) + (n : Int)))).heap.size = W1.heap.size := by simp
  have HZ := Lib.hid hz
  clear hblk hlb hO2 hbx hrc hL2 hz
  gi_wp2_with fail
  refine ⟨trivial, ?_⟩
  clear c9 c11 f11 cbx hlw
  rw [← HZ.out]
  clear HZ
  generalize (World.setCell _ _ _) = W2 at Hblk Hlb HO Hbx Hrc HLn ⊢
  have hp := Prs.two lc c 40 Hlb.out HLn.out (by omega) (by omega)
  have HP2 := Lib.hid hp
  have HWI := Lib.hid (show WI w b s (s + 1) _ _ a n l (W2.alloc (.cells #[.slice la q lc, .slice a n c] 40)) from ⟨Hblk.out.alloc _, Hbx.out.alloc _, Hrc.out.alloc _, HLn.out.below ((Below.refl _ _).alloc (Nat.le_refl _) _), HO.out.alloc _⟩)
  have HLa := Lib.hid (Hlb.out.below ((Below.refl _ _).alloc (Nat.le_refl _) (.cells #[.slice la q lc, .slice a n c] 40)))
  clear hp Hblk Hlb HO Hbx Hrc HLn
  refine (callsIn_wide.2 (concat_c _ 2 2 _ _ HP2.out (by decide) (by have := HL.out.1; have := Hq.out; simp; omega))).mono ?_
  rintro e W3 ⟨v, rfl, hv, hb3⟩
  obtain ⟨D, hD⟩ : ∃ D, D = leftOf d ++ l := ⟨_, rfl⟩
  have hDl : D.length = q + n := by rw [hD, List.length_append, ← Hq.out, HL.out.1]
  have hv2 : OwnB W3 (W2.alloc (.cells #[.slice la q lc, .slice a n c] 40)).heap.size v D := by
    have e : [leftOf d, l].flatten = D := by simp [hD]
    rw [e] at hv; exact hv
  clear hv
  have HWI := Lib.hid (HWI.out.below hb3)
  have HLa := Lib.hid (HLa.out.below hb3)
  clear hb3
  have HD := Lib.hid hD
  have HDL := Lib.hid hDl
  clear hD
  generalize (World.alloc _ _).heap.size = base at hv2 ⊢
  obtain ⟨ad, vc, rfl, hvc, hnil, hbase, hvb⟩ := own_form hv2
  have HVB := Lib.hid hvb
  have Hnil := Lib.hid hnil
  clear hv2 hvb hnil hbase base
  obtain ⟨m, hm⟩ : ∃ m, m = D.length := ⟨_, rfl⟩
  rw [← hm] at HDL HVB hvc ⊢
  have Hm := Lib.hid hm
  clear hm
  obtain ⟨va, hva⟩ : ∃ va, va = Option.map (fun g => (⟨g, 0, none⟩ : Addr)) ad := ⟨_, rfl⟩
  rw [← hva] at HVB ⊢
  have Hva := Lib.hid hva
  clear hva
  gi_wp2_with fail
  refine ⟨trivial, ?_⟩
  refine (callsIn_wide.2 (blocks_c _ _ _ _)).mono ?_
  rintro e W4 ⟨rfl, rfl⟩
  have HWI := Lib.hid (HWI.out.below ((Below.refl W3.heap.size W3).alloc (Nat.le_refl _) (.cells #[.slice va m vc] 40)))
  have HVB := Lib.hid (HVB.out.below ((Below.refl W3.heap.size W3).alloc (Nat.le_refl _) (.cells #[.slice va m vc] 40)))
  have HBs : Hid ((W3.alloc (.cells #[.slice va m vc] 40)).cell? ⟨W3.heap.size, 0, none⟩ = some (.slice va m vc)) := Lib.hid (blk0 rfl)
  have HBl : Hid (W3.heap.size < (W3.alloc (.cells #[.slice va m vc] 40)).heap.size) := Lib.hid (by simp)
  generalize W3.heap.size = Bs at HBs HBl ⊢
  generalize (World.alloc _ _) = W4 at HWI HVB HBs HBl ⊢
  gi_wp2_with fail
  have HB4b : Hid (b < W4.heap.size) := Lib.hid HWI.out.blk.lt
  have hB4 : w.heap.size ≤ W4.heap.size := HWI.out.only.size
  have hrest : Hid (((len : Int) + (n : Int)) = ((len + n : Nat) : Int)) := Lib.hid (by omega)
  rw [hrest.out] at HWI
  obtain ⟨n0, hn0⟩ : ∃ n0, n0 = 64 * full d := ⟨_, rfl⟩
  rw [← hn0] at HWI
  have hn0b : n0 ≤ 100000000000 := by have := full_le d; omega
  have Hn0 := Lib.hid hn0
  clear hn0
  refine wpIn_rangeFunc_ownG rfl (by omega) (gf := 108) (lb := #[.pointer (some ⟨Bs, 0, none⟩)]) rfl trivial (enters_of Tryz.func108 (by kernel_rfl) rfl)
    (blocks_stops 4 Bs ad m vc W4 HBl.out (by rw [← Hva.out]; exact HBs.out) hvc Hnil.out) (fun _ _ => trivial) (fun _ _ _ _ _ _ _ _ => trivial) (Below.refl _ _) (fun _ => rfl)
    (WJ w b s P n0 D m va [.slice la q lc, .int .i64 (wide : Int), .int .i64 ((len + n : Nat) : Int)])
    (WX w b s P n0 D m wide (len + n))
    (WJ.own hB4) (fun c => WX.own c hB4) ⟨fun x hx => by simp at hx, ⟨HWI.out.blk, HWI.out.box, HWI.out.res, HVB.out, HWI.out.only⟩⟩
    (fun x => { tmps := #[.pointer (some ⟨b, 0, none⟩), .slice a n c, .pointer (some ⟨s, 0, none⟩), undef, .pointer (some ⟨s + 1, 0, none⟩), .slice (Option.map (fun g => (⟨g, 64 * x, none⟩ : Addr)) ad) (min 64 (m - 64 * x)) (vc - 64 * x), .bool (decide (m - 64 * x ≤ 64)), .pointer (some ⟨b, 0, none⟩), .bool false, .pointer (some ⟨b, 0, none⟩), .pointer (some ⟨b, 0, none⟩), .pointer (some ⟨b, 11, none⟩), .int .i64 (len : Int), .slice a n c, .int .i64 (n : Int), .int .i64 ((len : Int) + (n : Int)), .pointer (some ⟨b, 0, none⟩), .pointer (some ⟨b, 11, none⟩), .pointer (some ⟨b, 0, none⟩), .pointer (some ⟨b, 0, none⟩), .pointer (some ⟨b, 9, none⟩), .slice la q lc, .slice a n c, .slice (some ⟨W2.heap.size, 0, none⟩) 2 2, .slice va m vc, .func (.func 108) #[] #[.pointer (some ⟨Bs, 0, none⟩)], .slice (Option.map (fun g => (⟨g, 64 * x, none⟩ : Addr)) ad) (min 64 (m - 64 * x)) (vc - 64 * x), .bool (decide (m - 64 * x ≤ 64)), undef, undef, undef, undef, undef, undef, undef, undef, undef, undef, undef], defers := [] }) ?assign ?body ?done ?stop
  case assign =>
    intro l x W K hK
    simp only [blkEnc]
    generalize (decide (m - 64 * x ≤ 64)) = bb at hK ⊢
    gi_wp2
    exact hK
  case body =>
    rintro l' pre x W ⟨hpre, hI⟩ hlt
    have HI := Lib.hid hI
    obtain ⟨hbl, hbb⟩ := bys_block (by rw [← Hva.out]; exact hI.dat) x
    have HBB := Lib.hid hbb
    have HBl2 := Lib.hid hbl
    have Hpre := Lib.hid hpre
    have cbox : W.cell? ⟨s, 0, none⟩ = some (.pointer (some ⟨b, 0, none⟩)) := hI.box.cell rfl
    clear hI hbb hbl hpre
    obtain ⟨xa, hxa⟩ : ∃ xa, xa = Option.map (fun g => (⟨g, 64 * x, none⟩ : Addr)) ad := ⟨_, rfl⟩
    obtain ⟨xl, hxl⟩ : ∃ xl, xl = min 64 (m - 64 * x) := ⟨_, rfl⟩
    rw [← hxa, ← hxl] at HBB
    rw [← hxl] at HBl2
    rw [← hxa, ← hxl]
    have hxl64 : xl ≤ 64 := by rw [hxl]; omega
    have Hxl := Lib.hid hxl
    clear hxa hxl
    by_cases hr : m - 64 * x ≤ 64
    · rw [decide_eq_true hr]
      have Hr := Lib.hid hr
      clear hr
      gi_wp2_with fail
      refine wpIn_region_any (by kernel_rfl) ?_
      change wpAnyIn _ _ _ _ _ _ _ _ _ (World.drew _)
      have HI := Lib.hid (show WI w b s (s + 1) _ _ va m D W.drew from ⟨HI.out.blk, HI.out.box, HI.out.res, HI.out.dat, HI.out.only.drew⟩)
      have HBB := Lib.hid (HBB.out.below (Below.refl W.heap.size W).drew)
      have HKF := Lib.hid ((KeepsOthers.drew W).from W4.heap.size)
      have cbox : W.drew.cell? ⟨s, 0, none⟩ = some (.pointer (some ⟨b, 0, none⟩)) := HI.out.box.cell rfl
      generalize W.drew = Wd at HI HBB HKF cbox ⊢
      refine wpAnyIn_ready (rs := [0, 1]) (by kernel_rfl) (by simp) ?_
      refine AllReadyIn.cons (by rfl) ?_ ?_
      · intro K hK
        go_simp
        refine hK _ _ ?_
        clear hK K
        refine wpAnyIn_ready (rs := [1]) (by kernel_rfl) (by simp) ?_
        refine AllReadyIn.cons (by rfl) ?_ AllReadyIn.nil
        intro K hK
        go_simp
        refine hK _ _ ?_
        clear hK K
        refine wpAnyIn_ready (rs := [2]) (by kernel_rfl) (by simp) ?_
        refine AllReadyIn.cons (by rfl) ?_ AllReadyIn.nil
        intro K hK
        go_simp
        refine ⟨trivial, ?_⟩
        refine (CallsIn.inRound l' (callsIn_wide.2 (clone_c xa xl _ (blockAt D x) _ HBB.out (by omega)))).mono ?_
        rintro e We ⟨v, rfl, hv, hbe⟩
        obtain ⟨ad', cv, rfl, hcv, -, hbase, hvb⟩ := own_form hv
        have hsep' : ∀ g off, Option.map (fun g => (⟨g, 0, none⟩ : Addr)) ad' = some ⟨g, off, none⟩ → 0 < (blockAt D x).length → g ≠ b := fun g off e _ => by
          cases ad' with
          | none => cases e
          | some g' =>
            injection e with e
            injection e with e1 e2
            have := hbase g' rfl
            have := HI.out.blk.lt
            omega
        have HSEP2 : Hid (∀ g', ad' = some g' → s + 1 < g') := Lib.hid (fun g' e => by have := hbase g' e; have := HI.out.res.lt; omega)
        have HSEP := Lib.hid hsep'
        have HVN := Lib.hid hvb
        have HI := Lib.hid (HI.out.below hbe)
        have HKF := Lib.hid (HKF.out.trans (keepsFrom_below W4.heap.size hbe))
        have cbox : We.cell? ⟨s, 0, none⟩ = some (.pointer (some ⟨b, 0, none⟩)) := HI.out.box.cell rfl
        clear hv hbe hbase hvb hsep'
        refine hK _ _ ?_
        clear hK K
        refine wpAnyIn_ready (rs := [3]) (by kernel_rfl) (by simp) ?_
        refine AllReadyIn.cons (by rfl) ?_ AllReadyIn.nil
        intro K hK
        go_simp
        refine hK _ _ ?_
        clear hK K
        refine wpAnyIn_ready (rs := [4]) (by kernel_rfl) (by simp) ?_
        refine AllReadyIn.cons (by rfl) ?_ AllReadyIn.nil
        intro K hK
        go_simp
        refine hK _ _ ?_
        clear hK K
        refine wpAnyIn_ready (rs := [5]) (by kernel_rfl) (by simp) ?_
        refine AllReadyIn.cons (by rfl) ?_ AllReadyIn.nil
        intro K hK
        have c9 := cell9 HI.out.blk (by rw [pressL_len]; exact HPL.out)
        have f9 := HI.out.blk.frozen 9
        go_simp
        have hs9 := set9 HI.out.blk (by rw [pressL_len]; exact HPL.out) (.slice (Option.map (fun g => (⟨g, 0, none⟩ : Addr)) ad') (blockAt D x).length cv)
        have hOs := (Only.refl b We).setCell (p := ⟨b, 9, none⟩) (.inl rfl) (.slice (Option.map (fun g => (⟨g, 0, none⟩ : Addr)) ad') (blockAt D x).length cv)
        have HS9 := Lib.hid hs9
        have HRS := Lib.hid (hOs.blk HI.out.res (by omega))
        have HVN2 := Lib.hid (HVN.out.only hOs HSEP.out)
        have HON := Lib.hid (HI.out.only.trans hOs)
        have HKG := Lib.hid (HKF.out.trans (KeepsFrom.of_grownBy hOs (fun j e => by injection e with e; have := HB4b.out; omega)))
        generalize (World.setCell _ _ _) = Ws at HS9 HRS HVN2 HON HKG ⊢
        clear hs9 hOs c9 f9
        refine hK _ _ ?_
        clear hK K
        refine wpAnyIn_done (by kernel_rfl) ?_ _
        have hfr := HRS.out.frozen 0
        have hcr : Ws.cell? ⟨s + 1, 0, none⟩ = some (.int .i64 0) := HRS.out.cell rfl
        gi_wp2
        have hOt := (Only.refl (s + 1) Ws).setCell (p := ⟨s + 1, 0, none⟩) (.inl rfl) (.int .i64 0)
        refine ⟨HKG.out.trans ((KeepsOthers.setCell _ _ _).from _), rfl, pre, x, rfl, Hr.out, Hpre.out, _, cv, hOt.blk HS9.out (by omega), HVN2.out.only hOt ?_, HSEP.out, HON.out.grown hOt (fun k e => .inr (by injection e with e; have := Hs.out; omega)), ?_⟩
        · intro g off e h0
          cases ad' with
          | none => cases e
          | some g' =>
            injection e with e
            injection e with e1 e2
            have := HSEP2.out g' rfl
            omega
        · have := HRS.out.set 0 (.int .i64 0)
          exact this
      refine AllReadyIn.cons (by rfl) ?_ AllReadyIn.nil
      intro K hK
      go_simp
      refine hK _ _ ?_
      clear hK K
      refine wpAnyIn_ready (rs := [0, 2]) (by kernel_rfl) (by simp) ?_
      refine AllReadyIn.cons (by rfl) ?_ ?_
      · intro K hK
        go_simp
        refine hK _ _ ?_
        clear hK K
        refine wpAnyIn_ready (rs := [2]) (by kernel_rfl) (by simp) ?_
        refine AllReadyIn.cons (by rfl) ?_ AllReadyIn.nil
        intro K hK
        go_simp
        refine ⟨trivial, ?_⟩
        refine (CallsIn.inRound l' (callsIn_wide.2 (clone_c xa xl _ (blockAt D x) _ HBB.out (by omega)))).mono ?_
        rintro e We ⟨v, rfl, hv, hbe⟩
        obtain ⟨ad', cv, rfl, hcv, -, hbase, hvb⟩ := own_form hv
        have hsep' : ∀ g off, Option.map (fun g => (⟨g, 0, none⟩ : Addr)) ad' = some ⟨g, off, none⟩ → 0 < (blockAt D x).length → g ≠ b := fun g off e _ => by
          cases ad' with
          | none => cases e
          | some g' =>
            injection e with e
            injection e with e1 e2
            have := hbase g' rfl
            have := HI.out.blk.lt
            omega
        have HSEP2 : Hid (∀ g', ad' = some g' → s + 1 < g') := Lib.hid (fun g' e => by have := hbase g' e; have := HI.out.res.lt; omega)
        have HSEP := Lib.hid hsep'
        have HVN := Lib.hid hvb
        have HI := Lib.hid (HI.out.below hbe)
        have HKF := Lib.hid (HKF.out.trans (keepsFrom_below W4.heap.size hbe))
        have cbox : We.cell? ⟨s, 0, none⟩ = some (.pointer (some ⟨b, 0, none⟩)) := HI.out.box.cell rfl
        clear hv hbe hbase hvb hsep'
        refine hK _ _ ?_
        clear hK K
        refine wpAnyIn_ready (rs := [3]) (by kernel_rfl) (by simp) ?_
        refine AllReadyIn.cons (by rfl) ?_ AllReadyIn.nil
        intro K hK
        go_simp
        refine hK _ _ ?_
        clear hK K
        refine wpAnyIn_ready (rs := [4]) (by kernel_rfl) (by simp) ?_
        refine AllReadyIn.cons (by rfl) ?_ AllReadyIn.nil
        intro K hK
        go_simp
        refine hK _ _ ?_
        clear hK K
        refine wpAnyIn_ready (rs := [5]) (by kernel_rfl) (by simp) ?_
        refine AllReadyIn.cons (by rfl) ?_ AllReadyIn.nil
        intro K hK
        have c9 := cell9 HI.out.blk (by rw [pressL_len]; exact HPL.out)
        have f9 := HI.out.blk.frozen 9
        go_simp
        have hs9 := set9 HI.out.blk (by rw [pressL_len]; exact HPL.out) (.slice (Option.map (fun g => (⟨g, 0, none⟩ : Addr)) ad') (blockAt D x).length cv)
        have hOs := (Only.refl b We).setCell (p := ⟨b, 9, none⟩) (.inl rfl) (.slice (Option.map (fun g => (⟨g, 0, none⟩ : Addr)) ad') (blockAt D x).length cv)
        have HS9 := Lib.hid hs9
        have HRS := Lib.hid (hOs.blk HI.out.res (by omega))
        have HVN2 := Lib.hid (HVN.out.only hOs HSEP.out)
        have HON := Lib.hid (HI.out.only.trans hOs)
        have HKG := Lib.hid (HKF.out.trans (KeepsFrom.of_grownBy hOs (fun j e => by injection e with e; have := HB4b.out; omega)))
        generalize (World.setCell _ _ _) = Ws at HS9 HRS HVN2 HON HKG ⊢
        clear hs9 hOs c9 f9
        refine hK _ _ ?_
        clear hK K
        refine wpAnyIn_done (by kernel_rfl) ?_ _
        have hfr := HRS.out.frozen 0
        have hcr : Ws.cell? ⟨s + 1, 0, none⟩ = some (.int .i64 0) := HRS.out.cell rfl
        gi_wp2
        have hOt := (Only.refl (s + 1) Ws).setCell (p := ⟨s + 1, 0, none⟩) (.inl rfl) (.int .i64 0)
        refine ⟨HKG.out.trans ((KeepsOthers.setCell _ _ _).from _), rfl, pre, x, rfl, Hr.out, Hpre.out, _, cv, hOt.blk HS9.out (by omega), HVN2.out.only hOt ?_, HSEP.out, HON.out.grown hOt (fun k e => .inr (by injection e with e; have := Hs.out; omega)), ?_⟩
        · intro g off e h0
          cases ad' with
          | none => cases e
          | some g' =>
            injection e with e
            injection e with e1 e2
            have := HSEP2.out g' rfl
            omega
        · have := HRS.out.set 0 (.int .i64 0)
          exact this
      refine AllReadyIn.cons (by rfl) ?_ AllReadyIn.nil
      intro K hK
      go_simp
      refine ⟨trivial, ?_⟩
      refine (CallsIn.inRound l' (callsIn_wide.2 (clone_c xa xl _ (blockAt D x) _ HBB.out (by omega)))).mono ?_
      rintro e We ⟨v, rfl, hv, hbe⟩
      obtain ⟨ad', cv, rfl, hcv, -, hbase, hvb⟩ := own_form hv
      have hsep' : ∀ g off, Option.map (fun g => (⟨g, 0, none⟩ : Addr)) ad' = some ⟨g, off, none⟩ → 0 < (blockAt D x).length → g ≠ b := fun g off e _ => by
        cases ad' with
        | none => cases e
        | some g' =>
          injection e with e
          injection e with e1 e2
          have := hbase g' rfl
          have := HI.out.blk.lt
          omega
      have HSEP2 : Hid (∀ g', ad' = some g' → s + 1 < g') := Lib.hid (fun g' e => by have := hbase g' e; have := HI.out.res.lt; omega)
      have HSEP := Lib.hid hsep'
      have HVN := Lib.hid hvb
      have HI := Lib.hid (HI.out.below hbe)
      have HKF := Lib.hid (HKF.out.trans (keepsFrom_below W4.heap.size hbe))
      have cbox : We.cell? ⟨s, 0, none⟩ = some (.pointer (some ⟨b, 0, none⟩)) := HI.out.box.cell rfl
      clear hv hbe hbase hvb hsep'
      refine hK _ _ ?_
      clear hK K
      refine wpAnyIn_ready (rs := [0]) (by kernel_rfl) (by simp) ?_
      refine AllReadyIn.cons (by rfl) ?_ AllReadyIn.nil
      intro K hK
      go_simp
      refine hK _ _ ?_
      clear hK K
      refine wpAnyIn_ready (rs := [3]) (by kernel_rfl) (by simp) ?_
      refine AllReadyIn.cons (by rfl) ?_ AllReadyIn.nil
      intro K hK
      go_simp
      refine hK _ _ ?_
      clear hK K
      refine wpAnyIn_ready (rs := [4]) (by kernel_rfl) (by simp) ?_
      refine AllReadyIn.cons (by rfl) ?_ AllReadyIn.nil
      intro K hK
      go_simp
      refine hK _ _ ?_
      clear hK K
      refine wpAnyIn_ready (rs := [5]) (by kernel_rfl) (by simp) ?_
      refine AllReadyIn.cons (by rfl) ?_ AllReadyIn.nil
      intro K hK
      have c9 := cell9 HI.out.blk (by rw [pressL_len]; exact HPL.out)
      have f9 := HI.out.blk.frozen 9
      go_simp
      have hs9 := set9 HI.out.blk (by rw [pressL_len]; exact HPL.out) (.slice (Option.map (fun g => (⟨g, 0, none⟩ : Addr)) ad') (blockAt D x).length cv)
      have hOs := (Only.refl b We).setCell (p := ⟨b, 9, none⟩) (.inl rfl) (.slice (Option.map (fun g => (⟨g, 0, none⟩ : Addr)) ad') (blockAt D x).length cv)
      have HS9 := Lib.hid hs9
      have HRS := Lib.hid (hOs.blk HI.out.res (by omega))
      have HVN2 := Lib.hid (HVN.out.only hOs HSEP.out)
      have HON := Lib.hid (HI.out.only.trans hOs)
      have HKG := Lib.hid (HKF.out.trans (KeepsFrom.of_grownBy hOs (fun j e => by injection e with e; have := HB4b.out; omega)))
      generalize (World.setCell _ _ _) = Ws at HS9 HRS HVN2 HON HKG ⊢
      clear hs9 hOs c9 f9
      refine hK _ _ ?_
      clear hK K
      refine wpAnyIn_done (by kernel_rfl) ?_ _
      have hfr := HRS.out.frozen 0
      have hcr : Ws.cell? ⟨s + 1, 0, none⟩ = some (.int .i64 0) := HRS.out.cell rfl
      gi_wp2
      have hOt := (Only.refl (s + 1) Ws).setCell (p := ⟨s + 1, 0, none⟩) (.inl rfl) (.int .i64 0)
      refine ⟨HKG.out.trans ((KeepsOthers.setCell _ _ _).from _), rfl, pre, x, rfl, Hr.out, Hpre.out, _, cv, hOt.blk HS9.out (by omega), HVN2.out.only hOt ?_, HSEP.out, HON.out.grown hOt (fun k e => .inr (by injection e with e; have := Hs.out; omega)), ?_⟩
      · intro g off e h0
        cases ad' with
        | none => cases e
        | some g' =>
          injection e with e
          injection e with e1 e2
          have := HSEP2.out g' rfl
          omega
      · have := HRS.out.set 0 (.int .i64 0)
        exact this
    · rw [decide_eq_false hr]
      have Hr := Lib.hid hr
      have hx64 : xl = 64 := by rw [Hxl.out]; omega
      subst hx64
      clear hr
      have hlt2 := hlt
      have hfl : fl m ≤ 17000000 := by have := HDL.out; unfold fl; omega
      gi_wp2_with fail
      refine ⟨trivial, ?_⟩
      refine (CallsIn.inRound l' (callsIn_wide.2 (spress_c b 167 _ _ _ xa 64 (vc - 64 * x) (blockAt D x) false W (by rw [pressL_len]; exact HPL.out) HI.out.blk HBB.out (by decide) (by omega)))).mono ?_
      rintro e W' ⟨rfl, hb, hO⟩
      have Hb := Lib.hid hb
      have HO' := Lib.hid hO
      clear hb hO
      gi_wp2
      refine ⟨KeepsFrom.of_grownBy HO'.out (fun j e => by injection e with e; have := HB4b.out; omega), trivial, fun y hy => ?_, ?_⟩
      · rcases List.mem_append.1 hy with hy | hy
        · exact Hpre.out y hy
        · have : y = x := by simpa using hy
          subst this
          have := Hr.out
          omega
      · refine ⟨?_, HO'.out.blk HI.out.box (by omega), HO'.out.blk HI.out.res (by omega), HI.out.dat.only HO'.out (bys_apart HI.out.blk (by rw [pressL_len]; exact HPL.out) (fun c e => by cases e) HI.out.dat), HI.out.only.trans HO'.out⟩
        have := Hb.out
        rw [pressL_snoc, stepL, List.length_append, List.length_singleton]
        have e := pressL_n P n0 D pre
        rw [e, show n0 + 64 * (pre.length + 1) = n0 + 64 * pre.length + 64 by omega]
        exact this
  case done =>
    rintro Dd ys W hD rfl ⟨hpre, hI⟩ hK
    have := hpre (fl m) (by simp)
    have : m - 64 * fl m ≤ 64 := by unfold fl; omega
    omega
  case stop =>
    rintro Dd c pre W hD ⟨k, hk, rfl⟩ ⟨rfl, pre', x, he, hx, hpre, xa, xc, hx1, hx2, hx3, hx4, hx5⟩ hK
    rw [List.range_succ] at he
    obtain ⟨rfl, he2⟩ := List.append_inj' he rfl
    obtain rfl : k = x := by simpa using he2
    have hkf : k = fl m := by
      rcases Nat.lt_or_ge k (fl m) with h | h
      · unfold fl at h; omega
      · omega
    subst hkf
    gi_wp2
    have hnc : NoCells W4.heap.size W (some Dd) := fun r e => by injection e with e; subst e; exact ⟨hD, _, hK, rfl⟩
    have hgr := grownBy_putObj' W Dd (.deferred none)
    have hx1 := hx1.keep hgr hnc
    have hx2 := hx2.keep hgr hnc
    have hx5 := hx5.keep hgr hnc
    have hx4 := hx4.grown hgr (fun k e => .inr (by injection e with e; omega))
    refine ⟨by simp, .inl ⟨_, _, rfl, run_takeDeferred hK, ?_⟩⟩
    generalize World.putObj W Dd (.deferred none) = Wf at hx1 hx2 hx4 hx5 ⊢
    have hc0 : Wf.cell? ⟨s + 1, 0, none⟩ = some (.int .i64 0) := hx5.cell rfl
    refine ⟨.int .i64 0, by simp [results, Tryz.results92, go_sem, hc0], rfl, ?_, hx4⟩
    have eD : leftOf d ++ l = D := HD.out.symm
    have ef : full (leftOf d ++ l) = fl m := by rw [eD, full_fl, Hm.out]
    have el : leftOf (d ++ l) = blockAt D (fl m) := by
      rw [left_append, eD, leftOf, full_fl, ← Hm.out, blockAt]
      exact (List.take_of_length_le (by rw [List.length_drop, ← Hm.out]; omega)).symm
    have ep : pressN h0 0 (d ++ l) (full (d ++ l)) = pressN P n0 D (fl m) := by rw [pressN_more, ← HP.out, ← Hn0.out, eD, ← ef, eD]
    have en : 64 * full (d ++ l) = n0 + 64 * fl m := by rw [full_append, ef, Hn0.out]; omega
    refine ⟨hh0, hw1, hw2, by rw [List.length_append, HL.out.1]; omega, xa, xc, ?_, ?_, ?_⟩
    · rw [ep, en, el]
      rw [pressL_range, List.length_range] at hx1
      exact hx1
    · rw [el]; exact hx2
    · rw [el]; exact hx3
theorem write_c (b : Nat) (h0 : List Wo) (d : List By) (wide len : Nat) (a : Option Addr) (n c : Nat) (l : List By) (w : World) (hH : IsHash w b h0 d wide len) (hl : Bys w a n l) (hn : n ≤ 100000000) (hd : d.length + n ≤ 100000000000) (hlen : len ≤ 1000000000000) :
    Calls Tryz.prog 92 #[.pointer (some ⟨b, 0, none⟩), .slice a n c] w fun e w' => e = .returned (.int .i64 0) ∧ IsHash w' b h0 (d ++ l) wide (len + n) ∧ Only b w w' :=
  callsIn_wide.1 (write_in b h0 d wide len a n c l w hH hl hn hd hlen)
set_option maxHeartbeats 1000000 in
theorem write_none (p : Option Addr) (a : Option Addr) (n c : Nat) (w : World) (h : NoHash w p) :
    Calls Tryz.prog 92 #[.pointer p, .slice a n c] w fun e w' => e = .returned (.int .i64 1) ∧ Below w.heap.size w w' := by
  have hp : Hid (NoHash ((w.alloc (.cells #[.pointer p] 146)).alloc (.cells #[.int .i64 0] 32)) p) := Lib.hid (by
    rcases h with rfl | ⟨b, rfl, h⟩
    · exact .inl rfl
    · exact .inr ⟨b, rfl, cell_al (cell_al h _) _⟩)
  clear h
  go_enter Tryz.func92, Tryz.ntmps92
  go_wp2_with fail
  refine (none_yes p _ hp.out).mono ?_
  rintro e w' ⟨rfl, rfl⟩
  go_wp2_with fail
  exact bodyPost_ret (v := .int .i64 1) (by simp [results, Tryz.results92, go_sem]) rfl ⟨rfl, ((Below.refl _ _).alloc (Nat.le_refl _) _).alloc (by simp) _⟩
end Go.Proofs.YtomnjhhpeglcnaaGreat

namespace Go.Proofs.YtomnjhhpeglcnaaGreat
open Go.RowKit
set_option maxRecDepth 100000
set_option linter.unusedSimpArgs false
set_option linter.unusedVariables false

theorem index27 (H : List Wo) (hH : H.length = 8) (k : Nat) (hk : k < 8) (w : World) : (Instr.index 161 (.agg (ws H)) (.int .i64 (k : Int))).run Tryz.prog w = .ok (.int .u32 ((H.getD k 0#32).toNat : Int)) w := by
  match H, hH with
  | [x0, x1, x2, x3, x4, x5, x6, x7], _ =>
    rcases (show k = 0 ∨ k = 1 ∨ k = 2 ∨ k = 3 ∨ k = 4 ∨ k = 5 ∨ k = 6 ∨ k = 7 by omega) with rfl | rfl | rfl | rfl | rfl | rfl | rfl | rfl <;> (show _ = _; kernel_rfl)
theorem info55 : (Tryz.prog.info? 165).map (·.size) = some 9 := by kernel_rfl
theorem range_state {w : World} {g : Nat} {t : TypeId} {h : List Wo} {n : Nat} {rest : List Value} (hb : Blk w g t (scells h n rest)) (hh : h.length = 8) : w.rangeAt g 0 (scells h n []).toList := by
  have := World.rangeAt_of_block hb 0 9
  have e : ((scells h n rest).extract 0 (0 + 9)).toList = (scells h n []).toList := by
    simp [scells, hh]
    rw [List.take_append, List.take_of_length_le (by simp [hh])]
    simp [hh]
  rwa [e] at this
theorem scells_one {h : List Wo} {n : Nat} {rest : List Value} (hr : ∀ v ∈ rest, v.oneCell' = true) : (scells h n rest).all (·.oneCell') = true := by
  simp only [scells, List.all_toArray, List.all_append, List.all_cons, Bool.and_eq_true]
  refine ⟨?_, rfl, ?_⟩
  · simp [wcell, Value.oneCell']
  · simpa using hr
theorem low_lit (x : Wo) : [Value.int .u8 ((x.toNat : Int) % 256), .int .u8 ((x.toNat : Int) / 256 % 256), .int .u8 ((x.toNat : Int) / 65536 % 256), .int .u8 ((x.toNat : Int) / 16777216)] = bl (lowBq x) := by
  have := lt32q x
  simp [bl, lowBq]
  omega
theorem outB_take (H : List Wo) (k : Nat) (hk : k < H.length) : outB (H.take (k + 1)) = outB (H.take k) ++ lowBq (H.getD k 0#32) := by
  unfold outB
  rw [List.take_succ_eq_append_getElem hk, List.map_append, List.flatten_append]
  simp [List.getD_eq_getElem?_getD, List.getElem?_eq_getElem hk]
set_option maxRecDepth 100000 in
set_option maxHeartbeats 4000000 in
theorem sum_c (b : Nat) (h0 : List Wo) (d : List By) (wide len : Nat) (w : World) (hH : IsHash w b h0 d wide len) :
    Calls Tryz.prog 96 #[.pointer (some ⟨b, 0, none⟩)] w fun e w' => ∃ v, e = .returned v ∧ OwnB w' w.heap.size v (sumOf h0 d wide) ∧ Below w.heap.size w w' := by
  have HH := Lib.hid hH
  clear hH
  go_enter Tryz.func96, Tryz.ntmps96
  go_wp2_with fail
  refine (none_no b _ _ _ _ _ HH.out).mono ?_
  rintro e w' ⟨rfl, rfl⟩
  obtain ⟨hh0, hw1, hw2, hdl, la, lc, hblk, hlb, hsep⟩ := HH.out
  obtain ⟨P, hP⟩ : ∃ P, P = pressN h0 0 d (full d) := ⟨_, rfl⟩
  have hPl : P.length = 8 := by rw [hP, pressN_len]; exact hh0
  rw [← hP] at hblk
  have HP := Lib.hid hP; have HPL := Lib.hid hPl
  obtain ⟨n0, hn0⟩ : ∃ n, n = 64 * full d := ⟨_, rfl⟩
  rw [← hn0] at hblk
  have hn0b : n0 ≤ 100000000000 := by have := full_le d; omega
  have Hn0 := Lib.hid hn0
  clear hP hPl hn0
  have c9 := cell9 hblk HPL.out
  have hbs : b < w.heap.size := HH.out.lt
  have HBk := Lib.hid hblk
  have HBk0 := Lib.hid hblk
  have HLb := Lib.hid hlb
  clear hblk hlb
  go_upto_region 4 with (first | (refine wpList_load_mid rfl 165 _ rfl b 0 rfl _ _ (range_state HBk.out HPL.out) Tryz.underlying165 rfl (by simp only [Array.length_toList, scells_size HPL.out]; kernel_rfl) ?_; rw [Array.toArray_toList]) | (refine wpl_store_blk rfl 165 _ _ rfl w.heap.size 165 _ (scells P n0 []) rfl rfl (Blk.new w 165 _) (by rw [scells_size HPL.out]; rfl) (by rw [scells_size HPL.out]; kernel_rfl) (scells_one (by simp)) ?_; intro w6 hB6 hO6 hz6))
  have hb6 : Below w.heap.size w w6 := ((Below.refl w.heap.size w).alloc (Nat.le_refl _) _).trans (hO6.below (by simp) (Nat.le_refl _))
  have c9 := cell9 (HBk.out.below hb6 HBk.out.lt) HPL.out
  have HBk := Lib.hid (HBk.out.below hb6 HBk.out.lt)
  have HLb := Lib.hid (HLb.out.below hb6)
  have HB := Lib.hid hb6
  have HS := Lib.hid hB6
  obtain ⟨s, hs⟩ : ∃ s, s = w.heap.size := ⟨_, rfl⟩
  rw [← hs] at HS ⊢
  have Hs := Lib.hid hs
  clear hB6 hO6 hz6 hb6 hs
  go_wp2_with fail
  refine (spress_c s 165 P n0 [] la (leftOf d).length lc (leftOf d) true _ HPL.out HS.out HLb.out (left_le d) (by omega)).mono ?_
  rintro e w7 ⟨rfl, h7, hO7⟩
  obtain ⟨H, hHd⟩ : ∃ H, H = press P (pad (leftOf d)) (n0 + (leftOf d).length) true := ⟨_, rfl⟩
  have hHl : H.length = 8 := by rw [hHd, press_len]; exact HPL.out
  rw [← hHd] at h7
  have HHl := Lib.hid hHl
  have HHd : Hid (H = lastW h0 d) := Lib.hid (by rw [hHd, lastW, HP.out, Hn0.out, left_full])
  have HS := Lib.hid h7
  have HB := Lib.hid (HB.out.trans (hO7.below HB.out.size (by have := Hs.out; omega)))
  clear h7 hO7 hHl hHd c9 HBk HLb
  go_wp2_with (refine wpList_load_mid rfl 161 _ rfl s 0 rfl _ _ (range_words HS.out HHl.out) Tryz.underlying161 rfl (by simp only [Array.length_toList, ws_size, HHl.out]; kernel_rfl) ?_; rw [Array.toArray_toList])
  go_loopw [4, 20] (fun v i wr => ∃ k : Nat, k ≤ 8 ∧ i = .int .i64 k ∧ OwnB wr w.heap.size v (outB (H.take k)) ∧ Below w.heap.size w wr) (fun _ i _ => 8 - (intOf i).toNat)
  case atStart => exact ⟨0, Nat.zero_le _, rfl, ⟨by simp [outB, bl], .inl ⟨rfl, rfl⟩⟩, HB.out⟩
  case round =>
    clear HB HS
    obtain ⟨k, hk, rfl, ho, hb⟩ := hrel
    have HO := Lib.hid ho
    have HB := Lib.hid hb
    clear ho hb
    by_cases hlt : k < 8
    · have hlt' : (k : Int) < 8 := by omega
      have hix := index27 H HHl.out k hlt
      obtain ⟨x, hx⟩ : ∃ x, x = H.getD k 0#32 := ⟨_, rfl⟩
      rw [← hx] at hix
      have hxl := lt32q x
      have HX := Lib.hid hx
      clear hx
      go_wp2_with (at_builtin; refine wpl_append_bys rfl _ _ rfl w.heap.size _ _ rfl (HO.out.below ((Below.refl _ _).alloc (Nat.le_refl _) _)) (some ⟨wr.heap.size, 0, none⟩) 4 4 (lowBq x) rfl (Bys.lit 5 (low_lit x) rfl) ?c1 ?c2 ?_)
      case c1 => rw [outB_len]; simp; omega
      case c2 => have := HB.out.size; simp; omega
      intro v3 w3 hown hg3 _
      have HB3 := Lib.hid ((HB.out.alloc HB.out.size _).trans (own_grown (HO.out.below ((Below.refl wr.heap.size wr).alloc (Nat.le_refl _) _)) hg3 (Nat.le_refl _) (by have := HB.out.size; simp; omega)))
      have HO3 : Hid (OwnB w3 w.heap.size v3 (outB (H.take (k + 1)))) := Lib.hid (by rw [outB_take H k (by rw [HHl.out]; exact hlt), ← HX.out]; exact hown)
      clear hown hg3
      go_wp2_with fail
      go_roundw
      case rel => exact ⟨k + 1, by omega, by go_num, HO3.out, HB3.out⟩
      case measure => simp [intOf]; omega
    · obtain rfl : k = 8 := by omega
      have ho := HO.out
      rw [List.take_of_length_le (by rw [HHl.out]; exact Nat.le_refl _)] at ho
      obtain ⟨oa, oc, rfl, hoc, hob⟩ := ho.bys
      rw [outB_len, HHl.out] at hoc
      have e32 : (outB H).length = 32 := by rw [outB_len, HHl.out]
      rw [e32] at hob ⊢
      have HOB := Lib.hid (hob.take wide hw2)
      have c10 := cell10 (HBk0.out.below HB.out hbs) HPL.out
      have k1 : ¬ (oc : Int) < (wide : Int) := by omega
      have k2 : (wide : Int) ≤ oc := by omega
      have k3 : (wide : Int) ≤ 32 := by omega
      clear ho hob HO
      go_wp2_with fail
      refine (clone_c oa wide oc _ _ HOB.out (by omega)).mono ?_
      rintro e w9 ⟨v, rfl, hv, hb9⟩
      have HV := Lib.hid hv
      have HB9 := Lib.hid (HB.out.trans (hb9.mono HB.out.size))
      have hzr := HB.out.size
      clear hv hb9
      go_wp2_with fail
      go_ret
      refine ⟨v, rfl, ?_, HB9.out⟩
      have e : (outB H).take wide = sumOf h0 d wide := by rw [sumOf, HHd.out]
      rw [← e]
      exact own_low HV.out hzr
theorem sum_none (p : Option Addr) (w : World) (h : NoHash w p) : Calls Tryz.prog 96 #[.pointer p] w fun e w' => e = .returned (.slice none 0 0) ∧ w = w' := by
  have H := Lib.hid h; clear h
  go_enter Tryz.func96, Tryz.ntmps96
  go_wp2_with fail
  refine (none_yes p _ H.out).mono ?_
  rintro e w' ⟨rfl, rfl⟩
  go_wp2_with fail
  go_ret
  exact ⟨rfl, rfl⟩
end Go.Proofs.YtomnjhhpeglcnaaGreat

namespace Go.Proofs.YtomnjhhpeglcnaaGreat
open Go.RowKit
set_option maxRecDepth 100000
set_option linter.unusedSimpArgs false
set_option linter.unusedVariables false

set_option maxHeartbeats 1000000 in
theorem keyed_bad (size : Int) (a : Option Addr) (n c : Nat) (pa : Option Addr) (pn pc : Nat) (w : World) (h : rightB size n = false) :
    Calls Tryz.prog 104 #[.int .i64 size, .slice a n c, .slice pa pn pc] w fun e w' => e = .returned (.tuple #[.slice none 0 0, .int .i64 2]) ∧ w = w' := by
  have H := Lib.hid h; clear h
  go_enter Tryz.func104, Tryz.ntmps104
  go_wp2_with fail
  refine (new_bad size a n c _ H.out).mono ?_
  rintro e w' ⟨rfl, rfl⟩
  go_wp2_with fail
  go_ret2
  exact ⟨rfl, rfl⟩
set_option maxRecDepth 100000 in
set_option maxHeartbeats 4000000 in
theorem keyed_c (wide : Nat) (a : Option Addr) (n c : Nat) (key : List By) (pa : Option Addr) (pn pc : Nat) (ps : List (List By)) (w : World) (hk : Bys w a n key) (h1 : 1 ≤ wide) (h2 : wide ≤ 32) (h3 : n ≤ 32) (hp : Prs w pa pn ps) (hpn : pn ≤ 1000000) (hf : ps.flatten.length ≤ 100000000) :
    Calls Tryz.prog 104 #[.int .i64 (wide : Int), .slice a n c, .slice pa pn pc] w fun e w' => ∃ v, e = .returned (.tuple #[v, .int .i64 0]) ∧ OwnB w' w.heap.size v (keyed wide key ps.flatten) ∧ Below w.heap.size w w' := by
  have HK := Lib.hid hk; have HP := Lib.hid hp; have HF := Lib.hid hf
  have HKL := Lib.hid hk.1
  clear hk hp hf
  go_enter Tryz.func104, Tryz.ntmps104
  go_wp2_with fail
  refine (new_c wide a n c key _ HK.out h1 h2 h3).mono ?_
  rintro e w1 ⟨b, rfl, hH, hbs, hB⟩
  have HH := Lib.hid hH; have HB := Lib.hid hB
  have HKB : Hid ((keyB key).length ≤ 64) := Lib.hid (by
    unfold keyB
    split
    · simp
    · rw [pad_len key (by have := HKL.out; omega)]; exact Nat.le_refl _)
  clear hH hB
  go_wp2_with fail
  go_loopw [23] (fun i wr => ∃ k : Nat, k ≤ pn ∧ i = .int .i64 k ∧ IsHash wr b (start wide n) (keyB key ++ (ps.take k).flatten) wide (0 + (ps.take k).flatten.length) ∧ Below w.heap.size w wr) (fun i _ => pn - (intOf i).toNat)
  case atStart => exact ⟨0, Nat.zero_le _, rfl, by simpa using HH.out, HB.out⟩
  case round =>
    obtain ⟨k, hk, rfl, hh, hb⟩ := hrel
    have HH := Lib.hid hh; have HB := Lib.hid hb
    clear hh hb
    by_cases hlt : k < pn
    · obtain ⟨p, hpk⟩ : ∃ p, ps[k]? = some p := ⟨ps[k]'(by rw [HP.out.1]; exact hlt), List.getElem?_eq_getElem _⟩
      obtain ⟨hpl, g, off, a', c', rfl, hg, hcell, hbys⟩ := (HP.out.below HB.out).2 k p hpk
      have HY := Lib.hid hbys
      have HPK := Lib.hid hpk
      have hle : (ps.take k).flatten.length + p.length ≤ 100000000 := by
        have := flat_take _ _ _ HPK.out
        have h2 := flat_le ps (k + 1)
        rw [this, List.length_append] at h2
        exact Nat.le_trans h2 HF.out
      have HLE := Lib.hid hle
      clear hbys hpk hle
      go_wp2_with fail
      refine (write_c b _ _ wide _ a' p.length c' p _ HH.out HY.out (by have := HLE.out; omega) (by have := HLE.out; have := HKB.out; rw [List.length_append]; omega) (by have := HLE.out; omega)).mono ?_
      rintro e w3 ⟨rfl, hh3, hO3⟩
      have hh4 : IsHash w3 b (start wide n) (keyB key ++ (ps.take (k + 1)).flatten) wide (0 + (ps.take (k + 1)).flatten.length) := by
        rw [flat_take _ _ _ HPK.out, ← List.append_assoc, List.length_append, ← Nat.add_assoc]
        exact hh3
      have HH4 := Lib.hid hh4
      have HB4 := Lib.hid (HB.out.trans (hO3.below HB.out.size hbs))
      clear hh3 hh4 hO3 hcell
      go_wp2_with fail
      go_roundw
      case rel => exact ⟨k + 1, by omega, by go_num, HH4.out, HB4.out⟩
      case measure => simp [intOf]; omega
    · obtain rfl : k = pn := by omega
      have hh := HH.out
      rw [List.take_of_length_le (by rw [HP.out.1]; exact Nat.le_refl _)] at hh
      have HH5 := Lib.hid hh
      clear hh
      go_wp2_with fail
      refine (sum_c b _ _ wide _ _ HH5.out).mono ?_
      rintro e w5 ⟨v, rfl, hv, hb5⟩
      have HV := Lib.hid hv
      have HB5 := Lib.hid (HB.out.trans (hb5.mono HB.out.size))
      have hzr := HB.out.size
      clear hv hb5
      go_wp2_with fail
      go_ret2
      refine ⟨v, rfl, ?_, HB5.out⟩
      have e : sumOf (start wide n) (keyB key ++ ps.flatten) wide = keyed wide key ps.flatten := by rw [keyed, HKL.out]
      rw [← e]
      exact own_low HV.out hzr
theorem zero36 (w : World) : (zeroValue 134).run Tryz.prog w = .ok (.agg (bya (List.replicate 32 0#8))) w := by kernel_rfl
theorem range_bys {w : World} {g n : Nat} {l : List By} (h : Bys w (some ⟨g, 0, none⟩) n l) : w.rangeAt g 0 (bl l) := fun j v hv => by
  simp only [bl, List.getElem?_map, Option.map_eq_some_iff] at hv
  obtain ⟨x, hx, rfl⟩ := hv
  obtain ⟨g', off, e, _, hc⟩ := h.2 j x hx
  injection e with e
  injection e with e1 e2
  subst e1; subst e2
  exact hc
theorem keyed_len (wide : Nat) (key b : List By) (h : wide ≤ 32) : (keyed wide key b).length = wide := sumOf_len _ _ _ (start_len _ _) h
theorem run_arr (g cap : Nat) (w : World) : (Instr.arrayAt 134 (.slice (some ⟨g, 0, none⟩) 32 cap)).run Tryz.prog w = .ok (.pointer (some ⟨g, 0, none⟩)) w := by
  simp [Instr.arrayAt, run_underlying Tryz.underlying134]
set_option maxRecDepth 100000 in
set_option maxHeartbeats 4000000 in
theorem bsum_c (pa : Option Addr) (pn pc : Nat) (ps : List (List By)) (w : World) (hp : Prs w pa pn ps) (hpn : pn ≤ 1000000) (hf : ps.flatten.length ≤ 100000000) :
    Calls Tryz.prog 95 #[.slice pa pn pc] w fun e w' => e = .returned (.agg (bya (keyed 32 [] ps.flatten))) ∧ Below w.heap.size w w' := by
  have z36 := zero36
  obtain ⟨Z, hZ⟩ : ∃ Z, Z = bya (List.replicate 32 0#8) := ⟨_, rfl⟩
  rw [← hZ] at z36
  have HZ := Lib.hid hZ
  clear hZ
  have HP := Lib.hid hp; have HF := Lib.hid hf
  clear hp hf
  go_enter Tryz.func95, Tryz.ntmps95
  go_wp2_with fail
  have HB0 := Lib.hid ((Below.refl w.heap.size w).alloc (Nat.le_refl _) (.cells Z 134))
  have HR := Lib.hid (Blk.new w 134 Z)
  have HP1 := Lib.hid (HP.out.below HB0.out)
  obtain ⟨s, hs⟩ : ∃ s, s = w.heap.size := ⟨_, rfl⟩
  rw [← hs] at HR ⊢
  have Hs := Lib.hid hs
  clear hs z36
  generalize (World.alloc _ _) = w1 at HB0 HR HP1 ⊢
  refine (keyed_c 32 none 0 0 [] pa pn pc ps _ ⟨rfl, fun i c hi => by simp at hi⟩ (by decide) (by decide) (by decide) HP1.out hpn HF.out).mono ?_
  rintro e w2 ⟨v, rfl, hv, hb2⟩
  have hkl := keyed_len 32 [] ps.flatten (by decide)
  obtain ⟨K, hK⟩ : ∃ K, K = keyed 32 [] ps.flatten := ⟨_, rfl⟩
  rw [← hK] at hv hkl
  have HK0 := Lib.hid hK
  have HR := Lib.hid (HR.out.below hb2 HR.out.lt)
  have HB2 := Lib.hid (HB0.out.trans (hb2.mono HB0.out.size))
  obtain ⟨g, cap, rfl, hcap, hby⟩ : ∃ g cap, v = .slice (some ⟨g, 0, none⟩) 32 cap ∧ 32 ≤ cap ∧ Bys w2 (some ⟨g, 0, none⟩) 32 K := by
    obtain ⟨ad, cap, e, h4, h5, _, h6⟩ := own_form hv
    rw [hkl] at e h4 h6
    cases ad with
    | none => have := h5 rfl; omega
    | some g => exact ⟨g, cap, e, h4, h6⟩
  have HY := Lib.hid hby
  have HKL := Lib.hid hkl
  clear hv hb2 hby hkl hK
  have harr := run_arr g cap
  go_wp2_with (first | (refine wpList_load_mid rfl 134 _ rfl g 0 rfl _ _ (range_bys HY.out) Tryz.underlying134 rfl (by rw [bl_len, HKL.out]; kernel_rfl) ?_; rw [← bya_bl]) | (refine wpl_store_blk rfl 134 _ _ rfl s 134 Z (bya K) rfl rfl HR.out (by rw [HZ.out, bya_size, bya_size, HKL.out]; rfl) (by rw [bya_size, HKL.out]; kernel_rfl) (bya_one _) ?_; intro w6 hB6 hO6 hz6))
  exact bodyPost_ret (results_cell_row rfl _ _ s 134 _ (0, 0) _ rfl hB6 Tryz.underlying134 rfl (by rw [bya_size, HKL.out]; kernel_rfl)) rfl ⟨by rw [HK0.out], HB2.out.trans (hO6.below HB2.out.size (by have := Hs.out; omega))⟩
end Go.Proofs.YtomnjhhpeglcnaaGreat
