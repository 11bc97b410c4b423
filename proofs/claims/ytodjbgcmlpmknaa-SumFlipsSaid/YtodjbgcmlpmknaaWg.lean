/- Powers, and the sum of two texts by their sums. -/
import Derived.Test.YtodjbgcmlpmknaaWf
namespace Go.Proofs.Ytodjbgcmlpmknaa
open Go.RowKit

theorem xv0 : ((xpow 0).toNat : Int) = 2147483648 := by decide +kernel
theorem xv1 : ((xpow 1).toNat : Int) = 1073741824 := by decide +kernel
theorem pw_odd {p q j N : Nat} (h : p + q * j = N) (ho : j % 2 = 1) : (p + q) + (q + q) * (j / 2) = N := by
  have e : j = 2 * (j / 2) + 1 := by omega
  rw [e, Nat.mul_add, Nat.mul_one, ← Nat.mul_assoc, Nat.mul_comm q 2, Nat.two_mul] at h
  omega
theorem pw_even {p q j N : Nat} (h : p + q * j = N) (ho : j % 2 = 0) : p + (q + q) * (j / 2) = N := by
  have e : j = 2 * (j / 2) := by omega
  rw [e, ← Nat.mul_assoc, Nat.mul_comm q 2, Nat.two_mul] at h
  exact h

set_option maxHeartbeats 1000000 in
theorem power_c (N : Nat) (hN : N ≤ 9223372036854775807) (w : World) :
    Calls Try.prog 39 #[.int .i64 (N : Int)] w fun e w' => e = .returned (.int .u32 ((xpow N).toNat : Int)) ∧ Below w.heap.size w w' := by
  go_enter Try.func39, Try.ntmps39
  go_wp2
  go_loopw [0, 3, 4] (fun nv ov bv wr => ∃ j p q : Nat, j ≤ 9223372036854775807 ∧ nv = .int .i64 (j : Int) ∧ ov = .int .u32 ((xpow p).toNat : Int) ∧ bv = .int .u32 ((xpow q).toNat : Int) ∧ Hid (p + q * j = N) ∧ Below w.heap.size w wr) (fun nv _ _ _ => (intOf nv).toNat)
  case atStart => exact ⟨N, 0, 1, hN, rfl, by rw [xv0], by rw [xv1], Lib.hid (by omega), Below.refl _ _⟩
  case round =>
    obtain ⟨j, p, q, hj, rfl, rfl, rfl, he, hB⟩ := hrel
    have HB := Lib.hid hB; clear hB
    by_cases hj0 : 0 < j
    · by_cases ho : j % 2 = 1
      · have hq : ((j : Int) % 2 == 1) = true := by simp; omega
        have He := Lib.hid (pw_odd he.out ho)
        clear ho
        go_wp2_with fail
        refine (mul_c _ _ _).mono ?_
        rintro e w1 ⟨rfl, hb1⟩
        rw [xpow_add]
        have HB1 := Lib.hid (HB.out.trans (hb1.mono HB.out.size))
        clear hb1
        go_wp2_with fail
        refine (mul_c _ _ _).mono ?_
        rintro e w2 ⟨rfl, hb2⟩
        rw [xpow_add]
        have HB2 := Lib.hid (HB1.out.trans (hb2.mono HB1.out.size))
        clear hb2
        go_wp2_with fail
        go_roundw
        case rel => exact ⟨j / 2, p + q, q + q, by omega, by go_num, rfl, rfl, He, HB2.out⟩
        case measure => simp [intOf]; omega
      · have hq : ((j : Int) % 2 == 1) = false := by simp; omega
        have He := Lib.hid (pw_even he.out (by omega))
        clear ho
        go_wp2_with fail
        refine (mul_c _ _ _).mono ?_
        rintro e w2 ⟨rfl, hb2⟩
        rw [xpow_add]
        have HB2 := Lib.hid (HB.out.trans (hb2.mono HB.out.size))
        clear hb2
        go_wp2_with fail
        go_roundw
        case rel => exact ⟨j / 2, p, q + q, by omega, by go_num, rfl, rfl, He, HB2.out⟩
        case measure => simp [intOf]; omega
    · obtain rfl : j = 0 := by omega
      have hp : Hid (p = N) := Lib.hid (by have := he.out; simpa using this)
      go_wp2
      go_ret
      exact ⟨by rw [hp.out]; rfl, HB.out⟩

set_option maxHeartbeats 1000000 in
theorem rpower_c (N : Nat) (hN : N ≤ 9223372036854775807) (w : World) :
    Calls Try.prog 28 #[.int .i64 (N : Int)] w fun e w' => e = .returned (.int .u32 ((xpow N).toNat : Int)) ∧ w = w' := by
  go_enter Try.func28, Try.ntmps28
  go_wp2
  go_loop [0, 3, 4] (fun nv ov bv => ∃ j p q : Nat, j ≤ 9223372036854775807 ∧ nv = .int .i64 (j : Int) ∧ ov = .int .u32 ((xpow p).toNat : Int) ∧ bv = .int .u32 ((xpow q).toNat : Int) ∧ Hid (p + q * j = N)) (fun nv _ _ => (intOf nv).toNat)
  case atStart => exact ⟨N, 0, 1, hN, rfl, by rw [xv0], by rw [xv1], Lib.hid (by omega)⟩
  case round =>
    obtain ⟨j, p, q, hj, rfl, rfl, rfl, he⟩ := hrel
    by_cases hj0 : 0 < j
    · by_cases ho : j % 2 = 1
      · have hq : ((j : Int) % 2 == 1) = true := by simp; omega
        have He := Lib.hid (pw_odd he.out ho)
        clear ho
        go_wp2_with fail
        refine (rmul_c _ _ _).mono ?_
        rintro e w1 ⟨rfl, rfl⟩
        rw [xpow_add]
        go_wp2_with fail
        refine (rmul_c _ _ _).mono ?_
        rintro e w2 ⟨rfl, rfl⟩
        rw [xpow_add]
        go_wp2_with fail
        go_round
        case rel => exact ⟨j / 2, p + q, q + q, by omega, by go_num, rfl, rfl, He⟩
        case measure => simp [intOf]; omega
      · have hq : ((j : Int) % 2 == 1) = false := by simp; omega
        have He := Lib.hid (pw_even he.out (by omega))
        clear ho
        go_wp2_with fail
        refine (rmul_c _ _ _).mono ?_
        rintro e w2 ⟨rfl, rfl⟩
        rw [xpow_add]
        go_wp2_with fail
        go_round
        case rel => exact ⟨j / 2, p, q + q, by omega, by go_num, rfl, rfl, He⟩
        case measure => simp [intOf]; omega
    · obtain rfl : j = 0 := by omega
      have hp : Hid (p = N) := Lib.hid (by have := he.out; simpa using this)
      go_wp2
      go_ret
      exact ⟨by rw [hp.out]; rfl, rfl⟩

/-- May a number be? -/
def rightB (n : Int) : Bool := decide (0 ≤ n) && decide (n ≤ 1099511627776)
set_option maxHeartbeats 400000 in
theorem right_c (n : Int) (w : World) : Calls Try.prog 27 #[.int .i64 n] w fun e w' => e = .returned (.bool (rightB n)) ∧ w = w' := by
  unfold rightB
  by_cases h1 : 0 ≤ n <;> by_cases h2 : n ≤ 1099511627776
  all_goals
    go_enter Try.func27, Try.ntmps27
    go_wp2
    go_ret
    simp [h1, h2]
set_option maxHeartbeats 400000 in
theorem Power_no (n : Int) (w : World) (h : rightB n = false) : Calls Try.prog 25 #[.int .i64 n] w fun e w' => e = .returned (.tuple #[.int .u32 0, .int .i64 2]) ∧ w = w' := by
  have h' : n < 0 ∨ (0 ≤ n ∧ 1099511627776 < n) := by simp [rightB] at h; omega
  clear h
  rcases h' with h | ⟨h1, h2⟩
  all_goals
    go_enter Try.func25, Try.ntmps25
    go_wp2
    go_ret2
    exact ⟨rfl, rfl⟩
set_option maxHeartbeats 400000 in
theorem Power_yes (N : Nat) (w : World) (h : N ≤ 1099511627776) : Calls Try.prog 25 #[.int .i64 (N : Int)] w fun e w' => e = .returned (.tuple #[.int .u32 ((xpow N).toNat : Int), .int .i64 0]) ∧ Below w.heap.size w w' := by
  go_enter Try.func25, Try.ntmps25
  go_wp2_with fail
  refine (power_c N (by omega) _).mono ?_
  rintro e w2 ⟨rfl, hb2⟩
  have HB := Lib.hid hb2; clear hb2
  go_wp2
  go_ret2
  exact ⟨rfl, HB.out⟩
set_option maxHeartbeats 400000 in
theorem Join_no (a b n : Int) (w : World) (h : rightB n = false) : Calls Try.prog 26 #[.int .u32 a, .int .u32 b, .int .i64 n] w fun e w' => e = .returned (.tuple #[.int .u32 0, .int .i64 2]) ∧ w = w' := by
  have h' : n < 0 ∨ (0 ≤ n ∧ 1099511627776 < n) := by simp [rightB] at h; omega
  clear h
  rcases h' with h | ⟨h1, h2⟩
  all_goals
    go_enter Try.func26, Try.ntmps26
    go_wp2
    go_ret2
    exact ⟨rfl, rfl⟩
set_option maxHeartbeats 400000 in
theorem Join_yes (a b : Wo) (N : Nat) (w : World) (h : N ≤ 1099511627776) : Calls Try.prog 26 #[.int .u32 (a.toNat : Int), .int .u32 (b.toNat : Int), .int .i64 (N : Int)] w fun e w' => e = .returned (.tuple #[.int .u32 ((joinB a b N).toNat : Int), .int .i64 0]) ∧ Below w.heap.size w w' := by
  obtain ⟨y, hy⟩ : ∃ y, y = joinB a b N := ⟨_, rfl⟩
  have hx : Hid (bits .xor .u32 ((mul a (xpow (8 * N))).toNat : Int) (b.toNat : Int) = (y.toNat : Int)) := Lib.hid (by rw [hy, bx]; rfl)
  have hc : ((8 * N : Nat) : Int) = 8 * (N : Int) := by push_cast; rfl
  have HY := Lib.hid hy
  have HC := Lib.hid hc
  clear hy hc
  go_enter Try.func26, Try.ntmps26
  go_wp2_with fail
  rw [← HC.out]
  refine (power_c (8 * N) (by omega) _).mono ?_
  rintro e w2 ⟨rfl, hb2⟩
  go_wp2_with fail
  refine (mul_c _ _ _).mono ?_
  rintro e w3 ⟨rfl, hb3⟩
  have HB := Lib.hid (hb2.trans (hb3.mono hb2.size)); clear hb2 hb3
  go_wp2_with fail
  rw [hx.out]
  go_ret2
  exact ⟨by rw [← HY.out]; rfl, HB.out⟩
set_option maxHeartbeats 400000 in
theorem rjoin_c (a b : Wo) (N : Nat) (w : World) (h : N ≤ 1099511627776) : Calls Try.prog 29 #[.int .u32 (a.toNat : Int), .int .u32 (b.toNat : Int), .int .i64 (N : Int)] w fun e w' => e = .returned (.int .u32 ((joinB a b N).toNat : Int)) ∧ w = w' := by
  obtain ⟨y, hy⟩ : ∃ y, y = joinB a b N := ⟨_, rfl⟩
  have hx : Hid (bits .xor .u32 ((mul a (xpow (8 * N))).toNat : Int) (b.toNat : Int) = (y.toNat : Int)) := Lib.hid (by rw [hy, bx]; rfl)
  have hc : ((8 * N : Nat) : Int) = 8 * (N : Int) := by push_cast; rfl
  have HY := Lib.hid hy
  have HC := Lib.hid hc
  clear hy hc
  go_enter Try.func29, Try.ntmps29
  go_wp2_with fail
  rw [← HC.out]
  refine (rpower_c (8 * N) (by omega) _).mono ?_
  rintro e w2 ⟨rfl, rfl⟩
  go_wp2_with fail
  refine (rmul_c _ _ _).mono ?_
  rintro e w3 ⟨rfl, rfl⟩
  go_wp2_with fail
  rw [hx.out]
  go_ret
  exact ⟨by rw [← HY.out]; rfl, rfl⟩
set_option maxHeartbeats 400000 in
theorem num_c (n : Int) (w : World) : Calls Try.prog 23 #[.int .i64 n] w fun e w' => e = .returned (.int .i64 n) ∧ w = w' := by
  go_enter Try.func23, Try.ntmps23
  go_wp2
  go_ret
  exact ⟨rfl, rfl⟩
end Go.Proofs.Ytodjbgcmlpmknaa
