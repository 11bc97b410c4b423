/- Products, by the program and by the document. -/
import Derived.Test.YtodjbgcmlpmknaaWc
import Derived.RangeFuncNested
import Derived.RangeFuncBound
import Derived.RangeFuncCalls
import Derived.RangeFuncLeaves
import Derived.RangeFuncBox
import Derived.Shelf.Abstract
import Derived.Shelf.RegionOpen
import Derived.OwnWalkIn
import Derived.TacticsInMore
import Derived.LoopNIn
import Derived.LoopIn
namespace Go.Proofs.Ytodjbgcmlpmknaa
open Go.RowKit Go.Shelf
attribute [local go_sem] Oper.semAt_some

/-- A word, its first k bits gone. -/
def shl (a : Wo) (k : Nat) : Wo := a <<< k
theorem shl_zero (a : Wo) : shl a 0 = a := by simp [shl]
theorem shl_msb (a : Wo) (k : Nat) : (((shl a k).toNat : Int) / 2147483648 == 1) = a.getMsbD k := by
  have h : a.getMsbD k = (shl a k).getMsbD 0 := by simp [shl, BitVec.getMsbD_shiftLeft]
  rw [h]
  generalize shl a k = x
  have hx := lt32 x
  rw [BitVec.getMsbD_eq_getLsbD]
  simp only [BitVec.getLsbD, Nat.testBit_eq_decide_div_mod_eq]
  have : x.toNat / 2147483648 = 0 ∨ x.toNat / 2147483648 = 1 := by omega
  rw [Bool.eq_iff_iff]
  simp
  omega
theorem shl_next (a : Wo) (k : Nat) : ((shl a k).toNat : Int) % 2147483648 * 2 = ((shl a (k + 1)).toNat : Int) := by
  have h : shl a (k + 1) = shl a k <<< 1 := by unfold shl; rw [BitVec.shiftLeft_add]
  rw [h, BitVec.toNat_shiftLeft, Nat.shiftLeft_eq]
  generalize (shl a k).toNat = n
  omega
theorem mul_next (a b : Wo) (k : Nat) (h : a.getMsbD k = true) : bits .xor .u32 ((mulTo a b k).toNat : Int) ((txn k b).toNat : Int) = ((mulTo a b (k + 1)).toNat : Int) := by
  rw [bx, mulTo, h]; rfl
theorem mul_stay (a b : Wo) (k : Nat) (h : a.getMsbD k = false) : mulTo a b (k + 1) = mulTo a b k := by
  rw [mulTo, h]; simp

set_option maxHeartbeats 1000000 in
theorem rmul_c (a b : Wo) (w : World) :
    Calls Try.prog 19 #[.int .u32 (a.toNat : Int), .int .u32 (b.toNat : Int)] w fun e w' => e = .returned (.int .u32 ((mul a b).toNat : Int)) ∧ w = w' := by
  go_enter Try.func19, Try.ntmps19
  go_wp2
  go_loop [0, 1, 5, 6] (fun av bv ov i => ∃ k : Nat, k ≤ 32 ∧ i = .int .i64 k ∧ av = .int .u32 ((shl a k).toNat : Int) ∧ bv = .int .u32 ((txn k b).toNat : Int) ∧ ov = .int .u32 ((mulTo a b k).toNat : Int)) (fun _ _ _ i => 32 - (intOf i).toNat)
  case atStart => exact ⟨0, Nat.zero_le _, rfl, by rw [shl_zero], rfl, rfl⟩
  case round =>
    obtain ⟨k, hk, rfl, rfl, rfl, rfl⟩ := hrel
    by_cases hlt : k < 32
    · have hxl := lt32 (shl a k)
      have hq := shl_msb a k
      have Hn := Lib.hid (shl_next a k)
      cases hbit : a.getMsbD k
      · rw [hbit] at hq
        have HB := Lib.hid hbit; clear hbit
        go_wp2_with fail
        rw [Hn.out]
        clear hq hxl
        refine (rtimes_c _ _).mono ?_
        rintro e w' ⟨rfl, rfl⟩
        rw [← txn_succ, ← mul_stay a b k HB.out]
        go_wp2_with fail
        go_round
        case rel => exact ⟨k + 1, by omega, by go_num, rfl, rfl, rfl⟩
        case measure => simp [intOf]; omega
      · rw [hbit] at hq
        have HB := Lib.hid hbit; clear hbit
        go_wp2_with fail
        rw [Hn.out, mul_next a b k HB.out]
        clear hq hxl
        refine (rtimes_c _ _).mono ?_
        rintro e w' ⟨rfl, rfl⟩
        rw [← txn_succ]
        go_wp2_with fail
        go_round
        case rel => exact ⟨k + 1, by omega, by go_num, rfl, rfl, rfl⟩
        case measure => simp [intOf]; omega
    · obtain rfl : k = 32 := by omega
      go_wp2
      go_ret
      exact ⟨rfl, rfl⟩
end Go.Proofs.Ytodjbgcmlpmknaa
