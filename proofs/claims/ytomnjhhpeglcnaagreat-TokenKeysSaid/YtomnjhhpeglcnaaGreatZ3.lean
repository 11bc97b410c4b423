/- The document's spelling is the same: plain. Contracts: the document's spelling. Contracts: the document's bytes of a text. -/
import Derived.Test.YtomnjhhpeglcnaaGreatZ2
namespace Go.Proofs.YtomnjhhpeglcnaaGreat
set_option linter.unusedSimpArgs false
set_option linter.unusedVariables false
set_option maxRecDepth 100000

/-- One bit of bytes. -/
def bitL (l : List By) (i : Nat) : Nat := if i / 8 < l.length then (l.getD (i / 8) 0#8).toNat / 2 ^ (7 - i % 8) % 2 else 0
def digK (l : List By) (i : Nat) : Nat → Nat
  | 0 => 0
  | k + 1 => 2 * digK l i k + bitL l (i + k)
def rsp (l : List By) : List Nat := (List.range ((8 * l.length + 4) / 5)).map fun q => digK l (5 * q) 5
theorem bitL_lt (l : List By) (i : Nat) : bitL l i < 2 := by unfold bitL; split <;> omega
theorem digK_lt (l : List By) (i : Nat) : ∀ k, digK l i k < 2 ^ k
  | 0 => by simp [digK]
  | k + 1 => by
    have h1 := digK_lt l i k
    have h2 := bitL_lt l (i + k)
    rw [digK, Nat.pow_succ]; omega
theorem bitL_skip (a b c d e : By) (r : List By) (i : Nat) : bitL (a :: b :: c :: d :: e :: r) (40 + i) = bitL r i := by
  unfold bitL
  have h1 : (40 + i) / 8 = i / 8 + 5 := by omega
  have h2 : (40 + i) % 8 = i % 8 := by omega
  rw [h1, h2]
  by_cases h : i / 8 < r.length
  · rw [if_pos h, if_pos (by simp; omega)]
    simp [List.getD]
  · rw [if_neg h, if_neg (by simp; omega)]
theorem digK_skip (a b c d e : By) (r : List By) (i : Nat) : ∀ k, digK (a :: b :: c :: d :: e :: r) (40 + i) k = digK r i k
  | 0 => rfl
  | k + 1 => by rw [digK, digK, digK_skip a b c d e r i k, Nat.add_assoc, bitL_skip]
theorem rsp_skip (a b c d e : By) (r : List By) : rsp (a :: b :: c :: d :: e :: r) = (List.range 8).map (fun q => digK (a :: b :: c :: d :: e :: r) (5 * q) 5) ++ rsp r := by
  unfold rsp
  have h : (8 * (a :: b :: c :: d :: e :: r).length + 4) / 5 = 8 + (8 * r.length + 4) / 5 := by simp only [List.length_cons]; omega
  rw [h, List.range_add, List.map_append, List.map_map]
  congr 1
  apply List.map_congr_left
  intro q _
  simp only [Function.comp]
  rw [show 5 * (8 + q) = 40 + 5 * q by omega, digK_skip]
theorem five_head (a b c d e : By) (r : List By) : (List.range 8).map (fun q => digK (a :: b :: c :: d :: e :: r) (5 * q) 5) =
    [a.toNat / 8 % 32, (a.toNat % 8 * 256 + b.toNat) / 64 % 32, (a.toNat % 8 * 256 + b.toNat) / 2 % 32, (b.toNat % 2 * 256 + c.toNat) / 16 % 32, (c.toNat % 16 * 256 + d.toNat) / 128 % 32, (c.toNat % 16 * 256 + d.toNat) / 4 % 32, (d.toNat % 4 * 256 + e.toNat) / 32 % 32, e.toNat % 32] := by
  have ha := a.isLt; have hb := b.isLt; have hc := c.isLt; have hd := d.isLt; have he := e.isLt
  simp only [List.range, List.range.loop, List.map, digK, bitL, List.length_cons, List.getD, Nat.reduceMul, Nat.reduceAdd, Nat.reduceDiv, Nat.reduceMod, Nat.reduceSub, Nat.reducePow, Nat.zero_div, Nat.zero_mod, Nat.sub_zero]
  simp
  refine ⟨?_, ?_, ?_, ?_, ?_, ?_, ?_, ?_⟩ <;> omega
set_option maxHeartbeats 2000000 in
theorem rsp_five : ∀ (m : Nat) (l : List By), l.length ≤ m → rsp l = fiveG 0 0 l := by
  intro m
  induction m using Nat.strongRecOn with
  | ind m ih =>
    intro l hl
    match l, hl with
    | [], _ => simp [rsp, fiveG]
    | [a], _ =>
      have ha := a.isLt
      simp [rsp, fiveG, outF, List.range, List.range.loop, digK, bitL]
      and_intros <;> omega
    | [a, b], _ =>
      have ha := a.isLt; have hb := b.isLt
      simp [rsp, fiveG, outF, List.range, List.range.loop, digK, bitL]
      and_intros <;> omega
    | [a, b, c], _ =>
      have ha := a.isLt; have hb := b.isLt; have hc := c.isLt
      simp [rsp, fiveG, outF, List.range, List.range.loop, digK, bitL]
      and_intros <;> omega
    | [a, b, c, d], _ =>
      have ha := a.isLt; have hb := b.isLt; have hc := c.isLt; have hd := d.isLt
      simp [rsp, fiveG, outF, List.range, List.range.loop, digK, bitL]
      and_intros <;> omega
    | a :: b :: c :: d :: e :: r, hl =>
      have ha := a.isLt; have hb := b.isLt; have hc := c.isLt; have hd := d.isLt; have he := e.isLt
      rw [rsp_skip, five_head, ih r.length (by simp at hl; omega) r (Nat.le_refl _)]
      simp only [fiveG, outF, Nat.reduceAdd, Nat.reduceMod, Nat.reducePow, Nat.reduceLT, Nat.reduceSub, if_true, if_false, reduceIte, List.cons_append, List.nil_append, Nat.zero_mul, Nat.zero_add, Nat.mod_one, Nat.div_one]
      refine List.cons_eq_cons.2 ⟨rfl, ?_⟩
      refine List.cons_eq_cons.2 ⟨rfl, ?_⟩
      refine List.cons_eq_cons.2 ⟨rfl, ?_⟩
      refine List.cons_eq_cons.2 ⟨by omega, ?_⟩
      refine List.cons_eq_cons.2 ⟨by omega, ?_⟩
      refine List.cons_eq_cons.2 ⟨by omega, ?_⟩
      refine List.cons_eq_cons.2 ⟨by omega, ?_⟩
      refine List.cons_eq_cons.2 ⟨by omega, rfl⟩
/-- The document's spelling. -/
theorem rsp_spell (l : List By) : (rsp l).map sign = spellB l := by rw [rsp_five l.length l (Nat.le_refl _)]; rfl
end Go.Proofs.YtomnjhhpeglcnaaGreat

namespace Go.Proofs.YtomnjhhpeglcnaaGreat
open Go.RowKit
set_option linter.unusedSimpArgs false
set_option linter.unusedVariables false
set_option maxRecDepth 100000

set_option maxHeartbeats 2000000 in
theorem rbit_c (a : Option Addr) (n c : Nat) (l : List By) (i : Nat) (w : World) (h : Bys w a n l) (hi : i ≤ 1000000) (hn : n ≤ 1000000) :
    Calls Tryz.prog 42 #[.slice a n c, .int .i64 (i : Int)] w fun e w' => e = .returned (.int .i64 (bitL l i : Int)) ∧ w = w' := by
  have H := Lib.hid h
  have hl := h.1
  clear h
  by_cases hlt : i / 8 < n
  · obtain ⟨x, hx⟩ : ∃ x, l[i / 8]? = some x := ⟨l[i / 8]'(by rw [hl]; exact hlt), List.getElem?_eq_getElem _⟩
    obtain ⟨g, off, rfl, hg, hcell⟩ := H.out.2 (i / 8) x hx
    have hb : bitL l i = x.toNat / 2 ^ (7 - i % 8) % 2 := by
      unfold bitL
      rw [if_pos (by rw [hl]; exact hlt), List.getD_eq_getElem?_getD, hx]
      rfl
    have hx8 := x.isLt
    have HB := Lib.hid hb
    have q1 : ¬ ((n : Int) ≤ (i : Int) / 8) := by omega
    have q2 : (i : Int) / 8 < (n : Int) := by omega
    clear hb hx
    go_enter Tryz.func42, Tryz.ntmps42
    go_wp2_with fail
    go_loop [5, 6] (fun cv kv => ∃ k : Nat, i % 8 ≤ k ∧ k ≤ 7 ∧ kv = .int .i64 (k : Int) ∧ cv = .int .i64 ((x.toNat / 2 ^ (k - i % 8) : Nat) : Int)) (fun _ kv => 7 - (intOf kv).toNat)
    case atStart => exact ⟨i % 8, Nat.le_refl _, by omega, by simp, by simp⟩
    case round =>
      obtain ⟨k, hk, hk7, rfl, rfl⟩ := hrel
      obtain ⟨y, hy⟩ : ∃ y, y = x.toNat / 2 ^ (k - i % 8) := ⟨_, rfl⟩
      have hy8 : y < 256 := by rw [hy]; exact Nat.lt_of_le_of_lt (Nat.div_le_self _ _) hx8
      have HY := Lib.hid hy
      rw [← hy]
      clear hy
      by_cases hlt7 : k < 7
      · go_wp2_with fail
        go_round
        case rel =>
          refine ⟨k + 1, by omega, by omega, by go_num, ?_⟩
          have e : x.toNat / 2 ^ (k + 1 - i % 8) = y / 2 := by
            rw [HY.out, show k + 1 - i % 8 = (k - i % 8) + 1 by omega, Nat.pow_succ, Nat.div_div_eq_div_mul]
          rw [e]; simp
        case measure => simp [intOf]; omega
      · obtain rfl : k = 7 := by omega
        have hv : ((y % 2 : Nat) : Int) = (y : Int) % 2 := by omega
        go_wp2_with fail
        go_ret
        exact ⟨by rw [HB.out, ← HY.out, hv]; rfl, rfl⟩
  · have hb : bitL l i = 0 := by unfold bitL; rw [if_neg (by rw [hl]; exact hlt)]
    rw [hb]
    have q1 : ((n : Int) ≤ (i : Int) / 8) := by omega
    go_enter Tryz.func42, Tryz.ntmps42
    go_wp2_with fail
    go_ret
    exact ⟨rfl, rfl⟩
theorem strOf_cat (a b : List By) : strOf a ++ strOf b = strOf (a ++ b) := by
  unfold strOf
  rw [List.map_append]
  apply ByteArray.ext
  simp
theorem sign_cut : ∀ d < 32, signsB.extract d (d + 1) = strOf [sign d] := by decide +kernel
set_option maxHeartbeats 4000000 in
theorem rspell_c (a : Option Addr) (n c : Nat) (l : List By) (w : World) (h : Bys w a n l) (hn : n ≤ 10000) :
    Calls Tryz.prog 15 #[.slice a n c] w fun e w' => e = .returned (.string (strOf (spellB l))) ∧ w = w' := by
  have H := Lib.hid h
  have HL := Lib.hid h.1
  obtain ⟨D, hD⟩ : ∃ D, D = (rsp l).map sign := ⟨_, rfl⟩
  have HD := Lib.hid hD
  have HDE : Hid (spellB l = D) := Lib.hid (by rw [hD, rsp_spell])
  rw [HDE.out]
  have hDl : D.length = (8 * n + 4) / 5 := by rw [hD]; simp [rsp, h.1]
  have HDX : Hid (∀ q, 5 * q < 8 * n → D[q]? = some (sign (digK l (5 * q) 5))) := Lib.hid (fun q hq => by
    rw [hD, rsp, List.map_map, List.getElem?_map, List.getElem?_range (by rw [h.1]; omega)]
    rfl)
  clear h hD
  go_enter Tryz.func15, Tryz.ntmps15
  go_wp2_with fail
  go_loop [3, 4] (fun ov iv => ∃ q : Nat, q ≤ (8 * n + 4) / 5 ∧ iv = .int .i64 ((5 * q : Nat) : Int) ∧ ov = .string (strOf (D.take q))) (fun _ iv => 8 * n + 5 - (intOf iv).toNat)
  case atStart => exact ⟨0, Nat.zero_le _, rfl, rfl⟩
  case round =>
    obtain ⟨q, hq, rfl, rfl⟩ := hrel
    by_cases hlt : 5 * q < 8 * n
    · have q1 : ((5 * q : Nat) : Int) < 8 * (n : Int) := by omega
      go_wp2_with fail
      go_loop [5, 6] (fun nv kv => ∃ k : Nat, k ≤ 5 ∧ kv = .int .i64 (k : Int) ∧ nv = .int .i64 (digK l (5 * q) k : Int)) (fun _ kv => 5 - (intOf kv).toNat)
      case atStart => exact ⟨0, by omega, rfl, rfl⟩
      case round =>
        obtain ⟨k, hk, rfl, rfl⟩ := hrel
        obtain ⟨d, hd⟩ : ∃ d, d = digK l (5 * q) k := ⟨_, rfl⟩
        have hd32 : d < 2 ^ k := by rw [hd]; exact digK_lt _ _ _
        have hd5 : d < 32 := Nat.lt_of_lt_of_le hd32 (by have := Nat.pow_le_pow_right (show 0 < 2 by decide) hk; simpa using this)
        have HDD := Lib.hid hd
        rw [← hd]
        clear hd hd32
        by_cases hk5 : k < 5
        · go_wp2_with fail
          rw [show (5 * (q : Int) + (k : Int)) = ((5 * q + k : Nat) : Int) by omega]
          refine (rbit_c a n c l (5 * q + k) _ H.out (by omega) (by omega)).mono ?_
          rintro e w' ⟨rfl, rfl⟩
          obtain ⟨bt, hbt⟩ : ∃ bt, bt = bitL l (5 * q + k) := ⟨_, rfl⟩
          have hb2 : bt < 2 := by rw [hbt]; exact bitL_lt _ _
          have HBT := Lib.hid hbt
          rw [← hbt]
          clear hbt
          go_wp2_with fail
          go_round
          case rel =>
            refine ⟨k + 1, by omega, by go_num, ?_⟩
            rw [digK, ← HDD.out, ← HBT.out]
            congr 1
          case measure => simp [intOf]; omega
        · obtain rfl : k = 5 := by omega
          have hsz : ¬ 9223372036854775807 < (strOf (D.take q)).size + (min (d + 1) 32 - d) := by
            rw [strOf_size, List.length_take]; omega
          have HX : Hid (strOf (D.take (q + 1)) = strOf (D.take q) ++ signsB.extract d (d + 1)) := Lib.hid (by
            rw [sign_cut d hd5, strOf_cat, List.take_add_one, HDX.out q hlt, ← HDD.out]
            rfl)
          go_wp2_with fail
          go_round
          case rel => exact ⟨q + 1, by omega, by go_num, by rw [HX.out]; rfl⟩
          case measure => simp [intOf]; omega
    · have q1 : ¬ ((5 * q : Nat) : Int) < 8 * (n : Int) := by omega
      obtain rfl : q = (8 * n + 4) / 5 := by omega
      have e : D.take ((8 * n + 4) / 5) = D := List.take_of_length_le (by omega)
      rw [e]
      obtain ⟨Q, hQ⟩ : ∃ Q, Q = (8 * n + 4) / 5 := ⟨_, rfl⟩
      rw [← hQ] at q1 ⊢
      clear hDl hQ e
      go_wp2_with fail
      go_ret
      exact ⟨rfl, rfl⟩
end Go.Proofs.YtomnjhhpeglcnaaGreat

namespace Go.Proofs.YtomnjhhpeglcnaaGreat
open Go.RowKit
set_option linter.unusedSimpArgs false
set_option linter.unusedVariables false
set_option maxRecDepth 100000

/-- Which sign, of the first k. -/
def vk (c : By) (k : Nat) : Int := match valS c with
  | some x => if x < k then (x : Int) else -1
  | none => -1
theorem vk_zero (c : By) : vk c 0 = -1 := by unfold vk; split <;> simp
theorem vk_hit {c : By} {k : Nat} (h : valS c = some k) : vk c (k + 1) = (k : Int) := by unfold vk; rw [h]; simp
theorem vk_miss {c : By} {k : Nat} (h : valS c ≠ some k) : vk c (k + 1) = vk c k := by
  unfold vk
  cases hv : valS c with
  | none => rfl
  | some x =>
    have : x ≠ k := fun e => h (by rw [hv, e])
    simp only
    by_cases h1 : x < k
    · rw [if_pos h1, if_pos (by omega)]
    · rw [if_neg h1, if_neg (by omega)]
theorem vk_low (c : By) (k : Nat) : -1 ≤ vk c k ∧ vk c k < 32 := by
  unfold vk
  cases hv : valS c with
  | none => simp
  | some x =>
    have := (valS_some hv).1
    simp only
    split <;> omega
theorem vk_some {c : By} {x : Nat} (h : valS c = some x) : vk c 32 = (x : Int) := by
  have := (valS_some h).1
  unfold vk; rw [h]; simp; omega
theorem vk_none {c : By} (h : valS c = none) : vk c 32 = -1 := by unfold vk; rw [h]
theorem sign_iff (c : By) (k : Nat) (hk : k < 32) : sign k = c ↔ valS c = some k := by
  constructor
  · rintro rfl; exact valS_sign k hk
  · intro h; exact (valS_some h).2
theorem sgn_eq (c : By) (k : Nat) (hk : k < 32) (h : k < signsB.size) : (((signsB[k]'h).toNat : Int) == (c.toNat : Int)) = decide (valS c = some k) := by
  have h' : k < signsB.data.size := h
  have e : (signsB[k]'h).toNat = (sign k).toNat := by
    unfold sign
    simp only [Array.getD, h', dite_true]
    rfl
  rw [e, Bool.eq_iff_iff, beq_iff_eq, decide_eq_true_eq, ← sign_iff c k hk]
  constructor
  · intro h1; exact BitVec.eq_of_toNat_eq (by omega)
  · rintro rfl; rfl
set_option maxHeartbeats 8000000 in
theorem runspell_c (s : ByteArray) (w : World) (hs : s.size ≤ 10000) :
    Calls Tryz.prog 38 #[.string s] w fun e w' => Below w.heap.size w w' ∧
      ((∃ v l, unspellB (strB s) = some l ∧ e = .returned (.tuple #[v, .int .i64 0]) ∧ OwnB w' w.heap.size v l) ∨ (unspellB (strB s) = none ∧ e = .returned (.tuple #[.slice none 0 0, .int .i64 160]))) := by
  obtain ⟨l, hl⟩ : ∃ l, l = strB s := ⟨_, rfl⟩
  have HL := Lib.hid hl
  have hll : l.length = s.size := by rw [hl, strB_len]
  rw [← hl]
  clear hl
  go_enter Tryz.func38, Tryz.ntmps38
  go_wp2_with fail
  go_loopw [4, 5, 6, 7] (fun bv nv hv iv wr => ∃ (i n h : Nat) (b : List By), i ≤ s.size ∧ nv = .int .i64 (n : Int) ∧ hv = .int .i64 (h : Int) ∧ iv = .int .i64 (i : Int) ∧ h ≤ 7 ∧ n < 2 ^ h ∧ rawG 0 0 l = (rawG n h (l.drop i)).map (fun x => (b ++ x.1, x.2)) ∧ b.length ≤ i ∧ OwnB wr w.heap.size bv b ∧ Below w.heap.size w wr) (fun _ _ _ iv _ => s.size - (intOf iv).toNat)
  case atStart => exact ⟨0, 0, 0, [], Nat.zero_le _, rfl, rfl, rfl, by omega, by decide, by simp, by simp, own_nil _ _, Below.refl _ _⟩
  case round =>
  obtain ⟨i, n, h, b, hi, rfl, rfl, rfl, hh, hn, hraw, hbl, ho, hbel⟩ := hrel
  have HO := Lib.hid ho; have HBL := Lib.hid hbel; have HRAW := Lib.hid hraw
  clear ho hbel hraw
  by_cases hlt : i < s.size
  · have hdr := drop_strB hlt
    rw [← HL.out] at hdr
    obtain ⟨c, hc⟩ : ∃ c, c = (s[i]'hlt).toBitVec := ⟨_, rfl⟩
    have hcn : (s[i]'hlt).toNat = c.toNat := by rw [hc]; rfl
    rw [← hc] at hdr
    have HDR := Lib.hid hdr; have HCN := Lib.hid hcn
    clear hdr hc
    go_wp2_with fail
    go_loopw [8, 9] (fun vv kv wq => ∃ k : Nat, k ≤ 32 ∧ kv = .int .i64 (k : Int) ∧ vv = .int .i64 (vk c k) ∧ Below wr.heap.size wr wq) (fun _ kv _ => 32 - (intOf kv).toNat)
    case atStart => exact ⟨0, by omega, rfl, by rw [vk_zero], Below.refl _ _⟩
    case round =>
    obtain ⟨k, hk, rfl, rfl, hbq⟩ := hrel
    obtain ⟨vv, hvv⟩ : ∃ vv, vv = vk c k := ⟨_, rfl⟩
    have HVV := Lib.hid hvv
    have hvlow := vk_low c k
    have HBQ := Lib.hid hbq
    rw [← hvv] at hvlow ⊢
    clear hvv hbq
    by_cases hk32 : k < 32
    · go_wp2_with fail
      go_quiet (fail)
      go_wp2_with fail
      · rename_i hbq
        have hbq2 : decide (valS c = some k) = true := by rw [← sgn_eq c k hk32 hk32]; exact hbq
        have hne := of_decide_eq_true hbq2
        clear hbq hbq2
        go_roundw
        case rel => exact ⟨k + 1, by omega, by go_num, by rw [vk_hit hne], below_drewN HBQ.out _⟩
        case measure => simp [intOf]; omega
      · rename_i hbq
        have hbq2 : decide (valS c = some k) = false := by rw [← sgn_eq c k hk32 hk32]; exact hbq
        have hne := of_decide_eq_false hbq2
        clear hbq hbq2
        go_roundw
        case rel => exact ⟨k + 1, by omega, by go_num, by rw [HVV.out, vk_miss hne], below_drewN HBQ.out _⟩
        case measure => simp [intOf]; omega
    · obtain rfl : k = 32 := by omega
      have HO2 := Lib.hid (HO.out.below HBQ.out)
      have HBL2 := Lib.hid (HBL.out.trans (HBQ.out.mono HBL.out.size))
      clear HO HBL HBQ
      rcases hvc : valS c with _ | x
      · have hvm : vv = -1 := by rw [HVV.out, vk_none hvc]
        subst hvm
        have HN : Hid (unspellB l = none) := Lib.hid (by
          unfold unspellB
          rw [HRAW.out, HDR.out, rawG_none _ _ _ hvc]
          rfl)
        clear hvlow
        go_wp2_with fail
        go_ret2
        exact ⟨HBL2.out, .inr ⟨HN.out, rfl⟩⟩
      · have hx32 := (valS_some hvc).1
        have hvm : vv = (x : Int) := by rw [HVV.out, vk_some hvc]
        subst hvm
        have hn7 : n < 128 := Nat.lt_of_lt_of_le hn (by have := Nat.pow_le_pow_right (show 0 < 2 by decide) hh; simpa using this)
        obtain ⟨M, hM⟩ : ∃ M, M = n * 32 + x := ⟨_, rfl⟩
        have HM := Lib.hid hM
        have hMb : M < 4096 := by omega
        have hMi : 32 * (n : Int) + (x : Int) = (M : Int) := by omega
        have HMI := Lib.hid hMi
        have HVC := Lib.hid hvc
        clear hM hMi hvlow hvc HVV
        by_cases h3 : 3 ≤ h
        · obtain ⟨k0, rfl⟩ : ∃ k0, h = k0 + 3 := ⟨h - 3, by omega⟩
          go_wp2_with fail
          rw [HMI.out]
          rw [show ((k0 : Int) + 3 + 5) = ((k0 + 8 : Nat) : Int) by omega]
          go_loopw [10, 11] (fun uv kv wq => ∃ k : Nat, 8 ≤ k ∧ k ≤ k0 + 8 ∧ kv = .int .i64 (k : Int) ∧ uv = .int .i64 ((2 ^ (k - 8) : Nat) : Int) ∧ Below wr.heap.size wr wq) (fun _ kv _ => k0 + 8 - (intOf kv).toNat)
          case atStart => exact ⟨8, Nat.le_refl _, by omega, rfl, rfl, Below.refl _ _⟩
          case round =>
          obtain ⟨k, hk8, hkk, rfl, rfl, hbq⟩ := hrel
          have HBQ := Lib.hid hbq
          clear hbq
          obtain ⟨U, hU⟩ : ∃ U, U = 2 ^ (k - 8) := ⟨_, rfl⟩
          have hU16 : U ≤ 16 := by rw [hU]; have := Nat.pow_le_pow_right (show 0 < 2 by decide) (show k - 8 ≤ 4 by omega); simpa using this
          have hU0 : 0 < U := by rw [hU]; exact Nat.pow_pos (by decide)
          have HU := Lib.hid hU
          rw [← hU]
          clear hU
          by_cases hlk : k < k0 + 8
          · go_wp2_with fail
            go_roundw
            case rel => exact ⟨k + 1, by omega, by omega, by go_num, by rw [show k + 1 - 8 = (k - 8) + 1 by omega, Nat.pow_succ, ← HU.out, Nat.mul_comm]; rfl, HBQ.out⟩
            case measure => simp [intOf]; omega
          · obtain rfl : k = k0 + 8 := by omega
            have hUk : U = 2 ^ k0 := by rw [HU.out]; congr 1
            have HUK := Lib.hid hUk
            clear hUk HU
            have HO3 := Lib.hid (HO2.out.below HBQ.out)
            have HBL3 := Lib.hid (HBL2.out.trans (HBQ.out.mono HBL2.out.size))
            clear HO2 HBL2 HBQ
            obtain ⟨X, hX⟩ : ∃ X, X = M / U := ⟨_, rfl⟩
            have hX8 : X < 256 := by
              rw [hX, HUK.out]
              rcases (by omega : k0 = 0 ∨ k0 = 1 ∨ k0 = 2 ∨ k0 = 3 ∨ k0 = 4) with rfl | rfl | rfl | rfl | rfl <;> simp only [Nat.reducePow, Nat.reduceAdd] at hn ⊢ <;> (have := HM.out; omega)
            have HX := Lib.hid hX
            have hXi : (M : Int) / (U : Int) = (X : Int) := by rw [hX]; simp
            have hRi : (M : Int) % (U : Int) = ((M % U : Nat) : Int) := by simp
            have hwx : IntKind.u8.wrap (X : Int) = (X : Int) := IntWalk.u8_in _ (by omega)
            have hr2 := HRAW.out
            rw [HDR.out, rawG_high _ _ _ HVC.out h3, ← HM.out, show k0 + 3 - 3 = k0 by omega, ← HUK.out, ← hX] at hr2
            have HR2 : Hid (rawG 0 0 l = (rawG (M % U) k0 (l.drop (i + 1))).map (fun y => ((b ++ [BitVec.ofNat 8 X]) ++ y.1, y.2))) := Lib.hid (by
              rw [hr2]
              cases rawG (M % U) k0 (l.drop (i + 1)) <;> simp)
            have hbx : (BitVec.ofNat 8 X).toNat = X := by simp; omega
            have HBX := Lib.hid hbx
            have hU0i : ¬ ((U : Int) = 0) := by omega
            clear hX hr2 hbx HRAW
            have hal := (Below.refl wr.heap.size wr).alloc (Nat.le_refl _) (.cells #[.int .u8 (X : Int)] 5)
            have HOa := Lib.hid (HO3.out.below hal)
            have HYa : Hid (Bys (wr.alloc (.cells #[.int .u8 (X : Int)] 5)) (some ⟨wr.heap.size, 0, none⟩) 1 [BitVec.ofNat 8 X]) := Lib.hid (Bys.lit 5 (by simp [bl, HBX.out]) rfl)
            have HBa := Lib.hid (HBL3.out.trans (hal.mono HBL3.out.size))
            have hzw := HBL3.out.size
            clear hal HO3 HBL3
            go_wp2_with (at_builtin; refine wpl_append_bys rfl _ _ rfl w.heap.size _ b rfl HOa.out (some ⟨wr.heap.size, 0, none⟩) 1 1 [BitVec.ofNat 8 X] rfl HYa.out (by omega) (by simp; omega) ?_)
            intro v' w4 ho4 hg4 _
            have HO4 := Lib.hid ho4
            have HB4 := Lib.hid (HBa.out.trans (own_grown HOa.out hg4 (Nat.le_refl _) HBa.out.size))
            clear ho4 hg4 HOa HYa HBa
            go_wp2_with fail
            go_roundw
            case rel => exact ⟨i + 1, M % U, k0, b ++ [BitVec.ofNat 8 X], by omega, by simp, by go_num, by go_num, by omega, by rw [HUK.out]; exact Nat.mod_lt _ (Nat.pow_pos (by decide)), HR2.out, by simp; omega, HO4.out, HB4.out⟩
            case measure => simp [intOf]; omega
        · have hr2 := HRAW.out
          rw [HDR.out, rawG_low _ _ _ HVC.out h3, ← HM.out] at hr2
          have HR2 := Lib.hid hr2
          clear hr2 HRAW
          go_wp2_with fail
          rw [HMI.out]
          go_roundw
          case rel => exact ⟨i + 1, M, h + 5, b, by omega, rfl, by go_num, by go_num, by omega, (by have := HM.out; rw [this, Nat.pow_add]; omega), HR2.out, by omega, HO2.out, HBL2.out⟩
          case measure => simp [intOf]; omega
  · obtain rfl : i = s.size := by omega
    have hr2 := HRAW.out
    rw [List.drop_of_length_le (by omega), rawG] at hr2
    simp only [Option.map_some, List.append_nil] at hr2
    have hus := unspell_raw hr2
    have HUS : Hid (unspellB l = if spellB b = l then some b else none) := Lib.hid (by
      unfold unspellB
      rw [hr2]
      simp only [Option.bind_some]
      by_cases hx : n = 0 ∧ h < 5
      · rw [if_pos hx, if_pos (hus.2 hx)]
      · rw [if_neg hx, if_neg (fun e => hx (hus.1 e))])
    clear hr2 hus HRAW
    obtain ⟨av, cv, hvv, -, hyv⟩ := HO.out.bys
    obtain ⟨nv, hnv⟩ : ∃ nv, nv = b.length := ⟨_, rfl⟩
    rw [← hnv] at hvv hyv
    have HYV := Lib.hid hyv
    have hnb : nv ≤ 10000 := by omega
    subst hvv
    clear hyv hnv
    go_wp2_with fail
    refine (rspell_c av nv cv b wr HYV.out hnb).mono ?_
    rintro e w' ⟨rfl, rfl⟩
    have hse : ((strOf (spellB b)).toList == s.toList) = decide (spellB b = l) := by
      have h1 := str_eq (spellB b) l
      rw [HL.out, strOf_strB] at h1
      rw [h1, HL.out]
    obtain ⟨SB, hSB⟩ : ∃ SB, SB = strOf (spellB b) := ⟨_, rfl⟩
    rw [← hSB] at hse ⊢
    by_cases hq : spellB b = l
    · rw [decide_eq_true hq] at hse
      have HQ := Lib.hid hq
      clear hSB hq
      go_wp2_with fail
      go_ret2
      exact ⟨HBL.out, .inl ⟨_, b, by rw [HUS.out, if_pos HQ.out], rfl, HO.out⟩⟩
    · rw [decide_eq_false hq] at hse
      have HQ := Lib.hid hq
      clear hSB hq
      go_wp2_with fail
      go_ret2
      exact ⟨HBL.out, .inr ⟨by rw [HUS.out, if_neg HQ.out], rfl⟩⟩
end Go.Proofs.YtomnjhhpeglcnaaGreat
