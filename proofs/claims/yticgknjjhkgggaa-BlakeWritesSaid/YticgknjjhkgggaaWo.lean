/- Contracts: bytes, block by block. -/
import Derived.Test.YticgknjjhkgggaaWn
import Derived.RangeFuncNested
import Derived.RangeFuncBound
import Derived.RangeFuncCalls
import Derived.RangeFuncLeaves
import Derived.RangeFuncBox
import Derived.Shelf.Abstract
import Derived.Shelf.RegionOpen
import Derived.OwnWalkIn
import Derived.TacticsInMore
import Derived.LoopNIn
import Derived.LoopIn
namespace Go.Proofs.Yticgknjjhkgggaa
open Go.RowKit Go.Shelf
attribute [local go_sem] Oper.semAt_some
set_option linter.unusedSimpArgs false
set_option linter.unusedVariables false

def fl (m : Nat) : Nat := (m - 1) / 64
theorem full_fl (d : List By) : full d = fl d.length := rfl
/-- What is told of block k. -/
def blkEnc (ad : Option Nat) (m cap : Nat) (k : Nat) : Array Value := #[.slice (ad.map fun g => ⟨g, 64 * k, none⟩) (min 64 (m - 64 * k)) (cap - 64 * k), .bool (decide (m - 64 * k ≤ 64))]
def sliceLen : Value → Nat
  | .slice _ n _ => n
  | _ => 0

set_option maxRecDepth 100000 in
set_option maxHeartbeats 2000000 in
theorem blk_in (n l Bs g cap m : Nat) (hm : m ≤ cap) (J Jx : List Nat → World → Prop)
    (hY : ∀ pre x W, J pre W → pre.length < fl m + 1 → YieldAt Fence.wide (n - 1) Try.prog l (blkEnc (some g) m cap x) W fun e W' =>
      (e = .returned (.bool true) ∧ J (pre ++ [x]) W' ∧ True) ∨ (e = .returned (.bool false) ∧ Jx (pre ++ [x]) W'))
    (W : World) (hBs : W.cell? ⟨Bs, 0, none⟩ = some (.slice (some ⟨g, 0, none⟩) m cap)) (h0 : J [] W) :
    CallsIn Fence.wide n Try.prog 42 #[.func (.yield l) #[] #[], .pointer (some ⟨Bs, 0, none⟩)] W fun e W' => (∃ v, e = .returned v) ∧
      ((∃ ys, ys = List.range (fl m + 1) ∧ J ys W') ∨ (∃ pre, (∃ k, k ≤ fl m ∧ pre = List.range (k + 1)) ∧ Jx pre W')) := by
  refine callsIn_of_wp Try.func42 rfl trivial ?_ rfl
  simp only [Try.ntmps42, List.size_toArray, List.length_cons, List.length_nil, Nat.reduceAdd, Nat.reduceSub, Array.replicate_succ, Array.replicate_zero, List.push_toArray, List.append_toArray, List.nil_append, List.cons_append]
  refine wpIn_wide.2 (wp_scope_straight ((wpIn_wide (n := n)).1 ?_))
  gi_wp2
  refine wpIn_label ?_
  gi_wp2
  gi_loopw [3] (fun v wr => ∃ k : Nat, k ≤ fl m ∧ v = .slice (some ⟨g, 64 * k, none⟩) (m - 64 * k) (cap - 64 * k) ∧ J (List.range k) wr)
    (fun v _ => sliceLen v)
  case atStart => exact ⟨0, Nat.zero_le _, rfl, h0⟩
  case round =>
    obtain ⟨k, hk, rfl, hJs⟩ := hrel
    by_cases hlt : k < fl m
    · have hl : 64 < m - 64 * k := by unfold fl at hlt; omega
      obtain ⟨q, hq⟩ : ∃ q, q = m - 64 * k := ⟨_, rfl⟩
      obtain ⟨cq, hcq⟩ : ∃ q, q = cap - 64 * k := ⟨_, rfl⟩
      have hy := hY _ k wr hJs (by simp; omega)
      have e1 : blkEnc (some g) m cap k = #[.slice (some ⟨g, 64 * k, none⟩) 64 cq, .bool false] := by
        unfold blkEnc
        rw [← hq, ← hcq, Nat.min_eq_left (by omega), decide_eq_false (by omega)]
        rfl
      rw [e1] at hy
      have hqc : q ≤ cq := by omega

      have l1 : ¬ (q : Int) ≤ 64 := by omega
      have l2 : ¬ q ≤ 64 := by omega
      have Hq := Lib.hid hq; have Hcq := Lib.hid hcq
      rw [← hq] at hl
      rw [← hq, ← hcq]
      clear e1 hq hcq
      obtain ⟨fn, tmps, assign, body, hy, hR⟩ := hy
      gi_wp2
      refine ⟨fun h => (by simp [Fence.wide] at h), hR.mono ?_⟩
      rintro e W3 (⟨rfl, hJ3, -⟩ | ⟨rfl, hJx3⟩)
      · have hJ3' := Lib.hid hJ3
        have k1 : cq ≠ 64 := by omega
        have k2 : ¬ (cq : Int) < 64 := by omega
        have k3 : ¬ (q : Int) < 64 := by omega
        have k4 : (64 : Int) ≤ q := by omega
        clear hJ3 hy hR hJs
        gi_wp2
        go_roundw
        case rel =>
          refine ⟨k + 1, by omega, ?_, by rw [List.range_succ]; exact hJ3'.out⟩
          have a1 := Hq.out
          have a2 := Hcq.out
          rw [show m - 64 * (k + 1) = q - 64 by omega, show cap - 64 * (k + 1) = cq - 64 by omega]
          rfl
        case measure => simp [sliceLen]; omega
      · have hJ3' := Lib.hid hJx3
        clear hJx3 hy hR hJs
        gi_wp2
        rw [Exit.noGoto_normal]
        go_end0
        exact ⟨⟨_, rfl⟩, .inr ⟨_, ⟨k, hk, rfl⟩, by rw [List.range_succ]; exact hJ3'.out⟩⟩
    · obtain rfl : k = fl m := by omega
      have hl : m - 64 * fl m ≤ 64 := by unfold fl; omega
      have hb : 64 * fl m ≤ m := by unfold fl; omega
      obtain ⟨q, hq⟩ : ∃ q, q = m - 64 * fl m := ⟨_, rfl⟩
      obtain ⟨cq, hcq⟩ : ∃ q, q = cap - 64 * fl m := ⟨_, rfl⟩
      have hy := hY _ (fl m) wr hJs (by simp)
      have e1 : blkEnc (some g) m cap (fl m) = #[.slice (some ⟨g, 64 * fl m, none⟩) q cq, .bool true] := by
        unfold blkEnc
        rw [← hq, ← hcq, Nat.min_eq_right (by omega), decide_eq_true (by omega)]
        rfl
      rw [e1] at hy
      have hqc : q ≤ cq := by omega

      have l1 : (q : Int) ≤ 64 := by omega
      have l2 : q ≤ 64 := by omega
      have Hq := Lib.hid hq; have Hcq := Lib.hid hcq
      rw [← hq, ← hcq]
      clear e1 hq hcq hl
      obtain ⟨fn, tmps, assign, body, hy, hR⟩ := hy
      have h64 : q < 64 ∨ q = 64 := by omega
      rcases h64 with h64 | rfl
      all_goals
        gi_wp2
        refine ⟨fun h => (by simp [Fence.wide] at h), hR.mono ?_⟩
        rintro e W3 (⟨rfl, hJ3, -⟩ | ⟨rfl, hJx3⟩)
        · have hJ3' := Lib.hid hJ3
          clear hJ3 hy hR hJs
          gi_wp2
          rw [Exit.noGoto_normal]
          go_end0
          exact ⟨⟨_, rfl⟩, .inl ⟨_, rfl, by rw [List.range_succ]; exact hJ3'.out⟩⟩
        · have hJ3' := Lib.hid hJx3
          clear hJx3 hy hR hJs
          gi_wp2
          rw [Exit.noGoto_normal]
          go_end0
          exact ⟨⟨_, rfl⟩, .inr ⟨_, ⟨fl m, hk, rfl⟩, by rw [List.range_succ]; exact hJ3'.out⟩⟩

set_option maxRecDepth 100000 in
set_option maxHeartbeats 2000000 in
theorem blk_nil (n l Bs : Nat) (J Jx : List Nat → World → Prop)
    (hY : ∀ pre x W, J pre W → pre.length < fl 0 + 1 → YieldAt Fence.wide (n - 1) Try.prog l (blkEnc none 0 0 x) W fun e W' =>
      (e = .returned (.bool true) ∧ J (pre ++ [x]) W' ∧ True) ∨ (e = .returned (.bool false) ∧ Jx (pre ++ [x]) W'))
    (W : World) (hBs : W.cell? ⟨Bs, 0, none⟩ = some (.slice none 0 0)) (h0 : J [] W) :
    CallsIn Fence.wide n Try.prog 42 #[.func (.yield l) #[] #[], .pointer (some ⟨Bs, 0, none⟩)] W fun e W' => (∃ v, e = .returned v) ∧
      ((∃ ys, ys = List.range (fl 0 + 1) ∧ J ys W') ∨ (∃ pre, (∃ k, k ≤ fl 0 ∧ pre = List.range (k + 1)) ∧ Jx pre W')) := by
  refine callsIn_of_wp Try.func42 rfl trivial ?_ rfl
  simp only [Try.ntmps42, List.size_toArray, List.length_cons, List.length_nil, Nat.reduceAdd, Nat.reduceSub, Array.replicate_succ, Array.replicate_zero, List.push_toArray, List.append_toArray, List.nil_append, List.cons_append]
  refine wpIn_wide.2 (wp_scope_straight ((wpIn_wide (n := n)).1 ?_))
  gi_wp2
  refine wpIn_label ?_
  gi_wp2
  gi_loopw [3] (fun v wr => v = .slice none 0 0 ∧ J [] wr) (fun v _ => 0)
  case atStart => exact ⟨rfl, h0⟩
  case round =>
    obtain ⟨rfl, hJs⟩ := hrel
    have hy := hY _ 0 wr hJs (by simp)
    have e1 : blkEnc none 0 0 0 = #[.slice none 0 0, .bool true] := rfl
    rw [e1] at hy
    obtain ⟨fn, tmps, assign, body, hy, hR⟩ := hy
    gi_wp2
    refine ⟨fun h => (by simp [Fence.wide] at h), hR.mono ?_⟩
    rintro e W3 (⟨rfl, hJ3, -⟩ | ⟨rfl, hJx3⟩)
    · have hJ3' := Lib.hid hJ3
      clear hJ3 hy hR hJs
      gi_wp2
      rw [Exit.noGoto_normal]
      go_end0
      exact ⟨⟨_, rfl⟩, .inl ⟨_, rfl, hJ3'.out⟩⟩
    · have hJ3' := Lib.hid hJx3
      clear hJx3 hy hR hJs
      gi_wp2
      rw [Exit.noGoto_normal]
      go_end0
      exact ⟨⟨_, rfl⟩, .inr ⟨_, ⟨0, Nat.zero_le _, rfl⟩, hJ3'.out⟩⟩

theorem blocks_stops (n Bs : Nat) (ad : Option Nat) (m cap : Nat) (w : World) (hlt : Bs < w.heap.size) (hBs : w.cell? ⟨Bs, 0, none⟩ = some (.slice (ad.map fun g => ⟨g, 0, none⟩) m cap)) (hm : m ≤ cap) (hnil : ad = none → cap = 0) :
    SeqStopsK Fence.wide n Try.prog 42 #[.pointer (some ⟨Bs, 0, none⟩)] (blkEnc ad m cap) (fun _ _ => True) (fun ys => ys = List.range (fl m + 1)) (fun pre => ∃ k, k ≤ fl m ∧ pre = List.range (k + 1)) (fl m + 1) w := fun l J Jx W hW hJ _ hY h0 => by
  have hc : W.cell? ⟨Bs, 0, none⟩ = some (.slice (ad.map fun g => ⟨g, 0, none⟩) m cap) := (hW.cell (p := ⟨Bs, 0, none⟩) hlt).trans hBs
  cases ad with
  | none =>
    have h1 := hnil rfl
    subst h1
    obtain rfl : m = 0 := by omega
    exact blk_nil n l Bs J Jx hY W hc h0
  | some g => exact blk_in n l Bs g cap m hm J Jx hY W hc h0
theorem blocks_c (a : Option Addr) (m cap : Nat) (w : World) :
    Calls Try.prog 38 #[.slice a m cap] w fun e w' => e = .returned (.func (.func 42) #[] #[.pointer (some ⟨w.heap.size, 0, none⟩)]) ∧ w' = w.alloc (.cells #[.slice a m cap] 33) := by
  have hmf : ∀ (fn : Fn) (first cap : Array Value) (w : World), (Instr.makeFunc fn first cap).run Try.prog w = .ok (.func fn first cap) w := fun _ _ _ _ => rfl
  go_enter Try.func38, Try.ntmps38
  go_wp2
  go_ret
  exact ⟨rfl, rfl⟩
end Go.Proofs.Yticgknjjhkgggaa
