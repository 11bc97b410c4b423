/- Contracts: the number with which bytes begin, by the document. -/
import Derived.Test.YtnecoapbpicloaaWf
namespace Go.Proofs.Ytnecoapbpicloaa
open Go.RowKit
set_option linter.unusedSimpArgs false
set_option linter.unusedVariables false
set_option maxRecDepth 100000

theorem w64 (n : Int) (h0 : 0 ≤ n) (h : n ≤ 9223372036854775807) : wrap64 n = n := by unfold wrap64; omega
theorem w64s (a b : Nat) (ha : a < 72057594037927936) (hb : b ≤ 9151314442816847872) : wrap64 ((a : Int) + (b : Int)) = (a : Int) + (b : Int) := w64 _ (by omega) (by omega)
theorem w64m (u x y : Nat) (hy : y = u * (x % 128)) (hb : u * (x % 128) ≤ 72057594037927936 * 127) : wrap64 ((u : Int) * ((x : Int) % 128)) = (y : Int) := by
  have e : (u : Int) * ((x : Int) % 128) = ((u * (x % 128) : Nat) : Int) := by simp
  rw [e, hy]
  exact w64 _ (by omega) (by omega)
set_option maxHeartbeats 2000000 in
theorem rtake_c (a : Option Addr) (n c : Nat) (l : List By) (w : World) (h : Bys w a n l) (hn : n ≤ 1000000000) :
    Calls Try.prog 48 #[.slice a n c] w fun e w' => e = .returned (.tuple #[.int .i64 ((takeB l).1 : Int), .int .i64 (takeB l).2]) ∧ w = w' := by
  have H := Lib.hid h; clear h
  go_enter Try.func48, Try.ntmps48
  go_wp2_with fail
  go_loop [4, 5, 6] (fun nv uv iv => ∃ (i acc u : Nat), i ≤ n ∧ i ≤ 9 ∧ iv = .int .i64 (i : Int) ∧ nv = .int .i64 (acc : Int) ∧ uv = .int .i64 (u : Int) ∧ u ≤ 72057594037927936 ∧ (i < 9 → u = 128 ^ i) ∧ acc < 128 ^ i ∧ takeB l = takeGo (l.drop i) i acc) (fun _ _ iv => 9 - (intOf iv).toNat)
  case atStart => exact ⟨0, 0, 1, Nat.zero_le _, by omega, rfl, rfl, rfl, by decide, fun _ => rfl, by decide, rfl⟩
  case round =>
    obtain ⟨i, acc, u, hin, hi9, rfl, rfl, rfl, hu9, hu, hacc, htk⟩ := hrel
    have HT := Lib.hid htk; clear htk
    have HU := Lib.hid hu; clear hu
    by_cases hlt : i < n
    · obtain ⟨x, hx⟩ : ∃ x, l[i]? = some x := ⟨l[i]'(by rw [H.out.1]; exact hlt), List.getElem?_eq_getElem _⟩
      obtain ⟨g, off, rfl, hg, hc⟩ := H.out.2 i x hx
      have HD : Hid (l.drop i = x :: l.drop (i + 1)) := Lib.hid (by
        obtain ⟨h1, h2⟩ := List.getElem?_eq_some_iff.1 hx
        rw [← h2]; exact List.drop_eq_getElem_cons h1)
      clear hx
      rcases Nat.lt_or_ge i 9 with h9 | h9
      · have hxl := x.isLt
        have hy1 : u * (x.toNat % 128) ≤ 72057594037927936 * 127 := Nat.mul_le_mul hu9 (by omega)
        have hac : acc < 72057594037927936 := by
          have : (128 : Nat) ^ i ≤ 128 ^ 8 := Nat.pow_le_pow_right (by decide) (by omega)
          omega
        obtain ⟨y, hy⟩ : ∃ y, y = u * (x.toNat % 128) := ⟨_, rfl⟩
        have q5 := w64m u x.toNat y hy hy1
        rw [← hy] at hy1
        have hy2 : y ≤ 9151314442816847872 := hy1
        clear hy1
        have q6 := w64s acc y hac hy2
        have HN : Hid (acc + y < 128 ^ (i + 1)) := Lib.hid (by rw [hy, HU.out h9, Nat.mul_comm]; exact acc_next hacc)
        have HM : Hid (acc + y = acc + x.toNat % 128 * 128 ^ i) := Lib.hid (by rw [hy, HU.out h9, Nat.mul_comm])
        clear hy hacc
        rcases Nat.lt_or_ge x.toNat 128 with h128 | h128
        · have r1 : (x.toNat : Int) < 128 := by omega
          have hmx : x.toNat % 128 = x.toNat := by omega
          have HMX : Hid (acc + y = acc + x.toNat * 128 ^ i) := Lib.hid (by rw [HM.out, hmx])
          clear hmx
          by_cases hbad : 0 < i ∧ x.toNat = 0
          · obtain ⟨b1, b2⟩ := hbad
            go_wp2_with fail
            go_ret2
            refine ⟨?_, rfl⟩
            rw [HT.out, HD.out, takeGo_bad _ h9 h128 (.inl ⟨b1, b2⟩)]
            rfl
          · have HNB := Lib.hid hbad
            by_cases hm : acc + y ≤ 4611686018427387904
            · have r2 : decide ((4611686018427387904 : Int) < (acc : Int) + (y : Int)) = false := decide_eq_false (by omega)
              by_cases hi0 : 0 < i
              · have b2 : ((x.toNat : Int) == 0) = false := by simp; omega
                clear hbad
                go_wp2_with fail
                go_ret2
                refine ⟨?_, rfl⟩
                rw [HT.out, HD.out, takeGo_yes _ h9 h128 (by rw [← HMX.out]; intro h; rcases h with h | h; exact HNB.out h; omega), ← HMX.out]
                rfl
              · clear hbad
                go_wp2_with fail
                go_ret2
                refine ⟨?_, rfl⟩
                rw [HT.out, HD.out, takeGo_yes _ h9 h128 (by rw [← HMX.out]; intro h; rcases h with h | h; exact HNB.out h; omega), ← HMX.out]
                rfl
            · have r2 : decide ((4611686018427387904 : Int) < (acc : Int) + (y : Int)) = true := decide_eq_true (by omega)
              by_cases hi0 : 0 < i
              · have b2 : ((x.toNat : Int) == 0) = false := by simp; omega
                clear hbad
                go_wp2_with fail
                go_ret2
                refine ⟨?_, rfl⟩
                rw [HT.out, HD.out, takeGo_bad _ h9 h128 (.inr (by rw [← HMX.out]; omega))]
                rfl
              · clear hbad
                go_wp2_with fail
                go_ret2
                refine ⟨?_, rfl⟩
                rw [HT.out, HD.out, takeGo_bad _ h9 h128 (.inr (by rw [← HMX.out]; omega))]
                rfl
        · have r1 : ¬ (x.toNat : Int) < 128 := by omega
          have HTN : Hid (takeB l = takeGo (l.drop (i + 1)) (i + 1) (acc + y)) := Lib.hid (by rw [HT.out, HD.out, takeGo_on _ h9 h128, HM.out])
          by_cases h8 : i < 8
          · have hu2 : u ≤ 562949953421312 := by
              rw [HU.out h9]
              exact Nat.le_trans (Nat.pow_le_pow_right (by decide) (by omega)) (show 128 ^ 7 ≤ 562949953421312 by decide)
            go_wp2_with fail
            go_round
            case rel => exact ⟨i + 1, acc + y, u * 128, by omega, by omega, by go_num, by go_num, by go_num, by omega, fun _ => by rw [HU.out h9, Nat.pow_succ], HN.out, HTN.out⟩
            case measure => simp [intOf]; omega
          · go_wp2_with fail
            go_round
            case rel => exact ⟨i + 1, acc + y, u, by omega, by omega, by go_num, by go_num, rfl, by omega, fun h => by omega, HN.out, HTN.out⟩
            case measure => simp [intOf]; omega
      · obtain rfl : i = 9 := by omega
        have r1 : (9 : Int) ≤ (n : Int) := by omega
        clear hacc
        go_wp2_with fail
        go_ret2
        refine ⟨?_, rfl⟩
        rw [HT.out, takeGo_nine _ _ _ (Nat.le_refl _)]
        rfl
    · obtain rfl : i = n := by omega
      have HE : Hid (takeB l = (0, if 9 ≤ i then -1 else 0)) := Lib.hid (by
        rw [HT.out, List.drop_of_length_le (by rw [H.out.1]; exact Nat.le_refl _), takeGo_nil])
      clear hacc
      by_cases h9 : 9 ≤ i
      · have r1 : (9 : Int) ≤ (i : Int) := by omega
        go_wp2_with fail
        go_ret2
        refine ⟨?_, rfl⟩
        rw [HE.out, if_pos h9]
        rfl
      · have r1 : ¬ (9 : Int) ≤ (i : Int) := by omega
        go_wp2_with fail
        go_ret2
        refine ⟨?_, rfl⟩
        rw [HE.out, if_neg h9]
        rfl
end Go.Proofs.Ytnecoapbpicloaa
