/- Contracts: a number's bytes. -/
import Derived.Test.YtlgpoaapmgcloaaWa
import Derived.Laws.BitsAllLaws
namespace Go.Proofs.Ytlgpoaapmgcloaa
open Go.RowKit
set_option linter.unusedSimpArgs false
set_option linter.unusedVariables false
set_option maxRecDepth 100000

theorem by_low (m : Nat) (h : m < 128) : ((BitVec.ofNat 8 m : By).toNat : Int) = (m : Int) := by
  simp; omega
theorem by_high (m : Nat) : ((BitVec.ofNat 8 (m % 128 + 128) : By).toNat : Int) = (m : Int) % 128 + 128 := by
  simp; omega
theorem or_high (m : Nat) : bits .or .u8 ((m : Int) % 256) 128 = ((BitVec.ofNat 8 (m % 128 + 128) : By).toNat : Int) := by
  rw [by_high]
  have h : ((m % 256 : Nat) : Int) = (m : Int) % 256 := by omega
  have h2 : ∀ k, k < 256 → k ||| 128 = k % 128 + 128 := by decide
  rw [← h, show (128 : Int) = ((128 : Nat) : Int) from rfl, u8_or_nat _ _ (by omega) (by omega), h2 _ (by omega)]
  omega
/-- What is left of the bytes of n is those of m. -/
theorem num_pre {n m : Nat} {pre : List By} (h : pre ++ numB m = numB n) (hm : ¬ m < 128) : (pre ++ [BitVec.ofNat 8 (m % 128 + 128)]) ++ numB (m / 128) = numB n := by
  rw [← h, numB_ge hm, List.append_assoc]; rfl
theorem num_len {n m : Nat} {pre : List By} (h : pre ++ numB m = numB n) (hn : n ≤ 4611686018427387904) : pre.length + 1 ≤ 9 := by
  have h1 := congrArg List.length h
  have h2 := numB_nine hn
  have h3 := numB_pos m
  rw [List.length_append] at h1
  omega

set_option maxHeartbeats 2000000 in
theorem number_c (n : Nat) (v : Value) (l : List By) (base : Nat) (w : World) (ho : OwnB w base v l) (hl : l.length ≤ 1000000000) (hn : n ≤ 4611686018427387904) (hb : base ≤ w.heap.size) :
    Calls Try.prog 49 #[v, .int .i64 (n : Int)] w fun e w' => ∃ v', e = .returned v' ∧ OwnB w' base v' (l ++ numB n) ∧ Tch (fun i => v.ownBlock = some i) w w' ∧ Mv w v v' := by
  have HO := Lib.hid ho
  clear ho
  go_enter Try.func49, Try.ntmps49
  go_wp2
  go_loopw [0, 1] (fun bv nv wr => ∃ (m : Nat) (pre : List By) (v1 : Value), v1 = bv ∧ nv = .int .i64 (m : Int) ∧ m ≤ n ∧ pre ++ numB m = numB n ∧ OwnB wr base v1 (l ++ pre) ∧ Tch (fun i => v.ownBlock = some i) w wr ∧ Mv w v v1) (fun _ nv _ => (intOf nv).toNat)
  case atStart => exact ⟨n, [], v, rfl, rfl, Nat.le_refl _, rfl, by simpa using HO.out, Tch.refl _ _, Mv.refl _ _⟩
  case round =>
    obtain ⟨m, pre, v1, rfl, rfl, hmn, hpre, hown, ht, hm⟩ := hrel
    have HP := Lib.hid hpre; have HW := Lib.hid hown; have HT := Lib.hid ht; have HM := Lib.hid hm
    have hpl := num_len hpre hn
    have hz := ht.size
    clear hpre hown ht hm
    by_cases hlt : m < 128
    · have h1 : ¬ (128 ≤ (m : Int)) := by omega
      go_wp2_with (at_builtin; refine wpl_append_bysM rfl _ _ rfl base _ _ rfl (HW.out.below ((Below.refl _ _).alloc (Nat.le_refl _) _)) _ 1 _ [BitVec.ofNat 8 m] rfl (Bys.lit _ ?c0 rfl) ?c1 ?c2 ?_)
      case c0 => simp [bl]; omega
      case c1 => first | omega | (rw [List.length_append]; omega)
      case c2 => first | omega | (simp; omega)
      intro v2 w2 ho2 ht2 hm2 hn2
      have HW2 : Hid (OwnB w2 base v2 (l ++ numB n)) := Lib.hid (by rw [← HP.out, numB_lt hlt, ← List.append_assoc]; simpa using ho2)
      have ht3 : Tch (fun i => v1.ownBlock = some i) wr w2 := ((Tch.refl _ _).alloc _).trans ht2 (fun _ _ e => e)
      have hm3 : Mv wr v1 v2 := (Mv.refl _ _).trans hm2 (by simp)
      have HT2 := Lib.hid (HM.out.only HT.out ht3)
      have HM2 := Lib.hid (HM.out.trans hm3 hz)
      clear ho2 ht2 hm2 hn2 ht3 hm3
      go_wp2_with fail
      go_ret
      exact ⟨v2, rfl, HW2.out, HT2.out, HM2.out⟩
    · have h1 : (128 ≤ (m : Int)) := by omega
      have hor := or_high m
      go_wp2_with (at_builtin; refine wpl_append_bysM rfl _ _ rfl base _ _ rfl (HW.out.below ((Below.refl _ _).alloc (Nat.le_refl _) _)) _ 1 _ [BitVec.ofNat 8 (m % 128 + 128)] rfl (Bys.lit _ ?c0 rfl) ?c1 ?c2 ?_)
      case c0 => simp [bl, hor]
      case c1 => first | omega | (rw [List.length_append]; omega)
      case c2 => first | omega | (simp; omega)
      intro v2 w2 ho2 ht2 hm2 hn2
      have HW2 : Hid (OwnB w2 base v2 (l ++ (pre ++ [BitVec.ofNat 8 (m % 128 + 128)]))) := Lib.hid (by simpa using ho2)
      have ht3 : Tch (fun i => v1.ownBlock = some i) wr w2 := ((Tch.refl _ _).alloc _).trans ht2 (fun _ _ e => e)
      have hm3 : Mv wr v1 v2 := (Mv.refl _ _).trans hm2 (by simp)
      have HT2 := Lib.hid (HM.out.only HT.out ht3)
      have HM2 := Lib.hid (HM.out.trans hm3 hz)
      clear ho2 ht2 hm2 hn2 ht3 hm3 hor
      go_wp2_with fail
      go_roundw
      case rel => exact ⟨m / 128, _, v2, rfl, by go_num, by omega, num_pre HP.out hlt, HW2.out, HT2.out, HM2.out⟩
      case measure => simp [intOf]; omega

end Go.Proofs.Ytlgpoaapmgcloaa

