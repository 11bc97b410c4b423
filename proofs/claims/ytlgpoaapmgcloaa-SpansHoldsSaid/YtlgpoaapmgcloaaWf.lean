/- Contracts: the number with which bytes begin. -/
import Derived.Test.YtlgpoaapmgcloaaWe
import Derived.Lib.VarintBits
import Derived.Lib.QuoteBits
namespace Go.Proofs.Ytlgpoaapmgcloaa
open Go.RowKit
set_option linter.unusedSimpArgs false
set_option linter.unusedVariables false
set_option maxRecDepth 100000

theorem or_shift (acc x i : Nat) (h9 : i < 9) (ha : acc < 128 ^ i) : bits .or .i64 (acc : Int) (wrap64 ((x : Int) % 128 * 2 ^ (7 * i))) = ((acc + x % 128 * 128 ^ i : Nat) : Int) := by
  have e : (128 : Nat) ^ i = 2 ^ (7 * i) := by rw [Nat.pow_mul]
  rw [e] at ha ⊢
  have hb : (2 : Nat) ^ (7 * i) ≤ 2 ^ 56 := Nat.pow_le_pow_right (by decide) (by omega)
  have hm : x % 128 * 2 ^ (7 * i) ≤ 127 * 2 ^ 56 := Nat.mul_le_mul (by omega) hb
  have hc : ((x : Int) % 128 * 2 ^ (7 * i)) = ((x % 128 * 2 ^ (7 * i) : Nat) : Int) := by simp
  obtain ⟨y, hy⟩ : ∃ y, y = x % 128 * 2 ^ (7 * i) := ⟨_, rfl⟩
  have ho : acc ||| y = acc + y := by
    rw [hy, Nat.mul_comm, Nat.or_comm, ← Nat.two_pow_add_eq_or_of_lt ha, Nat.add_comm]
  rw [hc, ← hy]
  rw [← hy] at hm
  have hw : wrap64 (y : Int) = (y : Int) := by unfold wrap64; omega
  rw [hw]
  show IntKind.i64.wrap ((BitVec.ofInt 64 (acc : Int) ||| BitVec.ofInt 64 (y : Int)).toNat : Int) = _
  rw [BitVec.toNat_or, ofInt_u64 acc (by omega), ofInt_u64 y (by omega), ho]
  exact Lib.wrap_i64_small _ (by omega)
theorem acc_next {acc x i : Nat} (ha : acc < 128 ^ i) : acc + x % 128 * 128 ^ i < 128 ^ (i + 1) := by
  rw [Nat.pow_succ]
  have h1 : x % 128 * 128 ^ i ≤ 127 * 128 ^ i := Nat.mul_le_mul (by omega) (Nat.le_refl _)
  omega

set_option maxHeartbeats 2000000 in
theorem taken_c (a : Option Addr) (n c : Nat) (l : List By) (w : World) (h : Bys w a n l) (hn : n ≤ 1000000000) :
    Calls Try.prog 59 #[.slice a n c] w fun e w' => e = .returned (.tuple #[.int .i64 ((takeB l).1 : Int), .int .i64 (takeB l).2]) ∧ w = w' := by
  have H := Lib.hid h; clear h
  go_enter Try.func59, Try.ntmps59
  go_wp2_with fail
  go_loop [2, 8] (fun nv iv => ∃ (i acc : Nat), i ≤ n ∧ i ≤ 9 ∧ iv = .int .i64 (i : Int) ∧ nv = .int .i64 (acc : Int) ∧ acc < 128 ^ i ∧ takeB l = takeGo (l.drop i) i acc) (fun _ iv => n - (intOf iv).toNat)
  case atStart => exact ⟨0, 0, Nat.zero_le _, by omega, rfl, rfl, by decide, rfl⟩
  case round =>
    obtain ⟨i, acc, hin, hi9, rfl, rfl, hacc, htk⟩ := hrel
    have HT := Lib.hid htk; clear htk
    have HA := Lib.hid hacc; clear hacc
    by_cases hlt : i < n
    · obtain ⟨x, hx⟩ : ∃ x, l[i]? = some x := ⟨l[i]'(by rw [H.out.1]; exact hlt), List.getElem?_eq_getElem _⟩
      obtain ⟨g, off, rfl, hg, hc⟩ := H.out.2 i x hx
      have HD : Hid (l.drop i = x :: l.drop (i + 1)) := Lib.hid (by
        obtain ⟨h1, h2⟩ := List.getElem?_eq_some_iff.1 hx
        rw [← h2]; exact List.drop_eq_getElem_cons h1)
      clear hx
      rcases Nat.lt_or_ge i 9 with h9 | h9
      · have q5 := or_shift acc x.toNat i h9 HA.out
        obtain ⟨m, hm⟩ : ∃ m, m = acc + x.toNat % 128 * 128 ^ i := ⟨_, rfl⟩
        rw [← hm] at q5
        have HN : Hid (m < 128 ^ (i + 1)) := Lib.hid (by rw [hm]; exact acc_next HA.out)
        have HM := Lib.hid hm; clear hm
        have hxl := x.isLt
        have q1 : bits .and .u8 (x.toNat : Int) 127 = (x.toNat : Int) % 128 := u8_and127 _ (by omega) (by omega)
        have q2 : ((i : Int) == 9) = false := by simp; omega
        have q3 : (0 : Int) ≤ 7 * (i : Int) := by omega
        have q4 : 7 * (i : Int) < 64 := by omega
        rcases Nat.lt_or_ge x.toNat 128 with h128 | h128
        · have r1 : (x.toNat : Int) < 128 := by omega
          have hmx : x.toNat % 128 = x.toNat := by omega
          have HMX : Hid (m = acc + x.toNat * 128 ^ i) := Lib.hid (by rw [HM.out, hmx])
          clear hmx
          by_cases hbad : 0 < i ∧ x.toNat = 0
          · obtain ⟨b1, b2⟩ := hbad
            go_wp2_with fail
            go_ret2
            refine ⟨?_, rfl⟩
            rw [HT.out, HD.out, takeGo_bad _ h9 h128 (.inl ⟨b1, b2⟩)]
            rfl
          · have HNB := Lib.hid hbad
            by_cases hi0 : 0 < i
            · have b2 : ((x.toNat : Int) == 0) = false := by simp; omega
              clear hbad
              go_wp2_with fail
              refine (in_c (m : Int) 0 4611686018427387904 _).mono ?_
              rintro e w' ⟨rfl, rfl⟩
              by_cases hm : m ≤ 4611686018427387904
              · rw [show decide ((0 : Int) ≤ (m : Int) ∧ (m : Int) ≤ 4611686018427387904) = true from decide_eq_true ⟨by omega, by omega⟩]
                go_wp2_with fail
                go_ret2
                refine ⟨?_, rfl⟩
                rw [HT.out, HD.out, takeGo_yes _ h9 h128 (by rw [← HMX.out]; intro h; rcases h with h | h; exact HNB.out h; omega), ← HMX.out]
                rfl
              · rw [show decide ((0 : Int) ≤ (m : Int) ∧ (m : Int) ≤ 4611686018427387904) = false from decide_eq_false (fun h => by omega)]
                go_wp2_with fail
                go_ret2
                refine ⟨?_, rfl⟩
                rw [HT.out, HD.out, takeGo_bad _ h9 h128 (.inr (by rw [← HMX.out]; omega))]
                rfl
            · clear hbad
              go_wp2_with fail
              refine (in_c (m : Int) 0 4611686018427387904 _).mono ?_
              rintro e w' ⟨rfl, rfl⟩
              by_cases hm : m ≤ 4611686018427387904
              · rw [show decide ((0 : Int) ≤ (m : Int) ∧ (m : Int) ≤ 4611686018427387904) = true from decide_eq_true ⟨by omega, by omega⟩]
                go_wp2_with fail
                go_ret2
                refine ⟨?_, rfl⟩
                rw [HT.out, HD.out, takeGo_yes _ h9 h128 (by rw [← HMX.out]; intro h; rcases h with h | h; exact HNB.out h; omega), ← HMX.out]
                rfl
              · rw [show decide ((0 : Int) ≤ (m : Int) ∧ (m : Int) ≤ 4611686018427387904) = false from decide_eq_false (fun h => by omega)]
                go_wp2_with fail
                go_ret2
                refine ⟨?_, rfl⟩
                rw [HT.out, HD.out, takeGo_bad _ h9 h128 (.inr (by rw [← HMX.out]; omega))]
                rfl
        · have r1 : ¬ (x.toNat : Int) < 128 := by omega
          go_wp2_with fail
          go_round
          case rel => exact ⟨i + 1, m, by omega, by omega, by go_num, rfl, HN.out, by rw [HT.out, HD.out, takeGo_on _ h9 h128, HM.out]⟩
          case measure => simp [intOf]; omega
      · obtain rfl : i = 9 := by omega
        go_wp2_with fail
        go_ret2
        refine ⟨?_, rfl⟩
        rw [HT.out, takeGo_nine _ _ _ (Nat.le_refl _)]
        rfl
    · obtain rfl : i = n := by omega
      have HE : Hid (takeB l = (0, if 9 ≤ i then -1 else 0)) := Lib.hid (by
        rw [HT.out, List.drop_of_length_le (by rw [H.out.1]; exact Nat.le_refl _), takeGo_nil])
      by_cases h9 : 9 ≤ i
      · have r1 : (9 : Int) ≤ (i : Int) := by omega
        go_wp2_with fail
        go_ret2
        refine ⟨?_, rfl⟩
        rw [HE.out, if_pos h9]
        rfl
      · have r1 : ¬ (9 : Int) ≤ (i : Int) := by omega
        go_wp2_with fail
        go_ret2
        refine ⟨?_, rfl⟩
        rw [HE.out, if_neg h9]
        rfl
end Go.Proofs.Ytlgpoaapmgcloaa

