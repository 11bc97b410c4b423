/- Bits of 64-bit numbers that are no negative ones. Contracts: bits, five at a time. Bytes spelled, and the bytes of a text: plain. Contracts: bytes spelled. -/
import Derived.Test.YtomnjhhpeglcnaaGreatZv
import Derived.Lib.QuoteBits
namespace Go.Proofs.YtomnjhhpeglcnaaGreat
open Go.RowKit
set_option maxRecDepth 100000
theorem i64_or_nat (a b : Nat) (ha : a < 9223372036854775808) (hb : b < 9223372036854775808) : bits .or .i64 (a : Int) (b : Int) = ((a ||| b : Nat) : Int) := by
  have h : a ||| b < 2 ^ 63 := Nat.or_lt_two_pow (by simpa using ha) (by simpa using hb)
  have e : IntKind.i64.bits = 64 := rfl
  simp [bits, IntKind.wrap_i64]
  rw [e, Nat.mod_eq_of_lt (show a < 2 ^ 64 by omega), Nat.mod_eq_of_lt (show b < 2 ^ 64 by omega)]
  omega
theorem i64_and_nat (a b : Nat) (ha : a < 9223372036854775808) (hb : b < 9223372036854775808) : bits .and .i64 (a : Int) (b : Int) = ((a &&& b : Nat) : Int) := by
  have h : a &&& b ≤ a := Nat.and_le_left
  have e : IntKind.i64.bits = 64 := rfl
  simp [bits, IntKind.wrap_i64]
  rw [e, Nat.mod_eq_of_lt (show a < 2 ^ 64 by omega), Nat.mod_eq_of_lt (show b < 2 ^ 64 by omega)]
  omega
/-- Digits put together. -/
theorem or_digit (m x k : Nat) (hx : x < 2 ^ k) (hm : m * 2 ^ k + x < 9223372036854775808) : bits .or .i64 ((m * 2 ^ k : Nat) : Int) (x : Int) = ((m * 2 ^ k + x : Nat) : Int) := by
  rw [i64_or_nat _ _ (by omega) (by omega)]
  have := Nat.shiftLeft_add_eq_or_of_lt hx m
  rw [Nat.shiftLeft_eq] at this
  rw [this]
/-- The low bits. -/
theorem and_low (m k : Nat) (hm : m < 9223372036854775808) (hk : k < 63) : bits .and .i64 (m : Int) ((2 ^ k - 1 : Nat) : Int) = ((m % 2 ^ k : Nat) : Int) := by
  have : 2 ^ k < 2 ^ 63 := Nat.pow_lt_pow_right (by decide) hk
  rw [i64_and_nat _ _ hm (by omega), Nat.and_two_pow_sub_one_eq_mod]
end Go.Proofs.YtomnjhhpeglcnaaGreat

namespace Go.Proofs.YtomnjhhpeglcnaaGreat
open Go.RowKit Go.Shelf
attribute [local go_sem] Oper.semAt_some
set_option linter.unusedSimpArgs false
set_option linter.unusedVariables false
set_option maxRecDepth 100000

/-! ### Plain -/
/-- What h bits m give, five at a time. -/
def outF (m h : Nat) : List Nat := if h < 5 then [] else if h < 10 then [m / 2 ^ (h - 5) % 32] else [m / 2 ^ (h - 5) % 32, m / 2 ^ (h - 10) % 32]
theorem outF_step (m h : Nat) (h1 : 5 ≤ h) (h2 : h ≤ 12) : outF m h = (m / 2 ^ (h - 5) % 32) :: outF m (h - 5) := by
  unfold outF
  by_cases h3 : h < 10
  · rw [if_neg (by omega), if_pos h3, if_pos (by omega)]
  · rw [if_neg (by omega), if_neg h3, if_neg (by omega), if_pos (by omega), show h - 5 - 5 = h - 10 by omega]
def fiveG (n has : Nat) : List By → List Nat
  | [] => if has = 0 then [] else [n * 2 ^ (5 - has) % 32]
  | c :: r => outF (n * 256 + c.toNat) (has + 8) ++ fiveG ((n * 256 + c.toNat) % 2 ^ ((has + 8) % 5)) ((has + 8) % 5) r

theorem fives_c (a : Option Addr) (n c : Nat) (l : List By) (w : World) (hk : Bys w a n l) :
    Calls Tryz.prog 48 #[.slice a n c] w fun e w' => ∃ Bk, e = .returned (.func (.func 67) #[] #[.pointer (some ⟨Bk, 0, none⟩)]) ∧ w.heap.size ≤ Bk ∧ Boxed w' Bk 40 (.slice a n c) ∧ Bys w' a n l ∧ Below w.heap.size w w' := by
  have hmf : ∀ (fn : Fn) (first cap : Array Value) (w : World), (Instr.makeFunc fn first cap).run Tryz.prog w = .ok (.func fn first cap) w := fun _ _ _ _ => rfl
  have h1 := Boxed.new w 40 (.slice a n c)
  have hb := (Below.refl w.heap.size w).alloc (Nat.le_refl _) (.cells #[.slice a n c] 40)
  have HB := Lib.hid hb; have HS := Lib.hid h1; have HY := Lib.hid (hk.below hb)
  clear h1 hb hk
  go_enter Tryz.func48, Tryz.ntmps48
  go_wp2_with fail
  go_ret
  exact ⟨w.heap.size, rfl, Nat.le_refl _, HS.out, HY.out, HB.out⟩
/-- What the iterator keeps. -/
def FiveIt (Bk : Nat) (a : Option Addr) (n c : Nat) (l : List By) (W : World) (U : Nat → Prop) : Prop :=
  Boxed W Bk 40 (.slice a n c) ∧ Bys W a n l ∧ ¬ U Bk ∧ ∀ g off, a = some ⟨g, off, none⟩ → 0 < n → ¬ U g
set_option maxHeartbeats 4000000 in
theorem fives_gives (Bk : Nat) (a : Option Addr) (n c : Nat) (l : List By) (hn : n ≤ 1000000) :
    Gives1 67 #[.pointer (some ⟨Bk, 0, none⟩)] (fiveG 0 0 l).length (fun _ k v _ => ∃ x, (fiveG 0 0 l)[k]? = some x ∧ v = .int .i64 (x : Int)) (FiveIt Bk a n c l) False := by
  intro m0 l0 J Jx U W hIt hNo hJ hJx hY h0
  obtain ⟨hbox, hby, hUk, hUa⟩ := hIt
  have HBX := Lib.hid hbox; have HBY := Lib.hid hby; have HUK := Lib.hid hUk; have HUA := Lib.hid hUa
  have HJ := Lib.hid hJ; have HJX := Lib.hid hJx; have HY := Lib.hid hY; have H0 := Lib.hid h0
  have hcb := hbox.cell
  have hfb := hbox.frozen
  clear hbox hby hUk hUa hJ hJx hY h0
  refine callsIn_of_wp Tryz.func67 rfl trivial ?_ rfl
  simp only [Tryz.ntmps67, List.size_toArray, List.length_cons, List.length_nil, Nat.reduceAdd, Nat.reduceSub, Array.replicate_succ, Array.replicate_zero, List.push_toArray, List.append_toArray, List.nil_append, List.cons_append]
  gi_wp2_with fail
  refine wpIn_scope_straight ?_
  gi_wp2_with fail
  refine wpIn_label ?_
  gi_wp2_with fail
  gi_loopw [3, 4, 9] (fun nv hv iv wr => ∃ (i m h : Nat) (pre : List Nat), i ≤ n ∧ iv = .int .i64 (i : Int) ∧ nv = .int .i64 (m : Int) ∧ hv = .int .i64 (h : Int) ∧ h ≤ 4 ∧ m < 2 ^ h ∧ fiveG 0 0 l = pre ++ fiveG m h (l.drop i) ∧ W.heap.size ≤ wr.heap.size ∧ Boxed wr Bk 40 (.slice a n c) ∧ Bys wr a n l ∧ J pre.length wr) (fun _ _ iv _ => n - (intOf iv).toNat)
  case atStart => exact ⟨0, 0, 0, [], Nat.zero_le _, rfl, rfl, rfl, by omega, by decide, rfl, Nat.le_refl _, HBX.out, HBY.out, H0.out⟩
  case round =>
  obtain ⟨i, m, h, pre, hi, rfl, rfl, rfl, hh, hm, hgl, hsz, hbx, hby, hj⟩ := hrel
  have hm16 : m < 16 := Nat.lt_of_lt_of_le hm (by have := Nat.pow_le_pow_right (show 0 < 2 by decide) hh; simpa using this)
  have HBX := Lib.hid hbx; have HBY := Lib.hid hby; have HJK := Lib.hid hj; have HGL := Lib.hid hgl
  clear hbx hby hj hgl
  by_cases hlt : i < n
  · obtain ⟨x, hx⟩ : ∃ x, l[i]? = some x := ⟨l[i]'(by rw [HBY.out.1]; exact hlt), List.getElem?_eq_getElem _⟩
    obtain ⟨g, off, rfl, hg, hcell⟩ := HBY.out.2 i x hx
    have HX := Lib.hid hx; clear hx
    have hx8 := x.isLt
    have hor := or_digit m x.toNat 8 hx8 (by omega)
    obtain ⟨M, hM⟩ : ∃ M, M = m * 2 ^ 8 + x.toNat := ⟨_, rfl⟩
    rw [← hM, show ((m * 2 ^ 8 : Nat) : Int) = (m : Int) * 256 by omega] at hor
    have hMb : M < 4096 := by omega
    have HM := Lib.hid hM
    have HG2 : Hid (fiveG 0 0 l = pre ++ (outF M (h + 8) ++ fiveG (M % 2 ^ ((h + 8) % 5)) ((h + 8) % 5) (l.drop (i + 1)))) := Lib.hid (by
      rw [HGL.out, List.drop_eq_getElem_cons (by have := (List.getElem?_eq_some_iff.1 HX.out).1; exact this), (List.getElem?_eq_some_iff.1 HX.out).2, hM]
      rfl)
    clear hM
    gi_wp2_with fail
    rw [show ((h : Int) + 8) = ((h + 8 : Nat) : Int) by omega]
    clear hor
    gi_loopw [4] (fun hv wr => ∃ (q : Nat) (pre : List Nat), hv = .int .i64 (q : Int) ∧ q ≤ 12 ∧ q % 5 = (h + 8) % 5 ∧ fiveG 0 0 l = pre ++ (outF M q ++ fiveG (M % 2 ^ ((h + 8) % 5)) ((h + 8) % 5) (l.drop (i + 1))) ∧ W.heap.size ≤ wr.heap.size ∧ Boxed wr Bk 40 (.slice (some ⟨g, off, none⟩) n c) ∧ Bys wr (some ⟨g, off, none⟩) n l ∧ J pre.length wr) (fun hv _ => (intOf hv).toNat)
    case atStart => exact ⟨h + 8, pre, rfl, by omega, rfl, HG2.out, hsz, HBX.out, HBY.out, HJK.out⟩
    case round =>
    clear hcell HBX HBY HJK HGL HG2 pre
    obtain ⟨q, pre, rfl, hq, hq5, hgl, hsz2, hbx, hby, hj⟩ := hrel
    have HBX := Lib.hid hbx; have HBY := Lib.hid hby; have HJK := Lib.hid hj; have HGL := Lib.hid hgl
    clear hbx hby hj hgl
    by_cases hge : 5 ≤ q
    · obtain ⟨X, hX⟩ : ∃ X, X = M / 2 ^ (q - 5) % 32 := ⟨_, rfl⟩
      have hand : bits .and .i64 ((M : Int) / 2 ^ (q - 5)) 31 = (X : Int) := by
        have := and_low (M / 2 ^ (q - 5)) 5 (by have := Nat.div_le_self M (2 ^ (q - 5)); omega) (by decide)
        rw [hX]
        rw [show ((M : Int) / 2 ^ (q - 5)) = ((M / 2 ^ (q - 5) : Nat) : Int) by simp]
        exact this
      have HE : Hid ((fiveG 0 0 l)[pre.length]? = some X) := Lib.hid (by
        rw [HGL.out, outF_step M q hge hq, hX, List.getElem?_append_right (Nat.le_refl _)]; simp)
      have HG3 : Hid (fiveG 0 0 l = (pre ++ [X]) ++ (outF M (q - 5) ++ fiveG (M % 2 ^ ((h + 8) % 5)) ((h + 8) % 5) (l.drop (i + 1)))) := Lib.hid (by
        rw [HGL.out, outF_step M q hge hq, hX]; simp)
      have hcy : ∃ fn tmps assign body, (Instr.yield l0 #[.int .i64 (X : Int)]).run Tryz.prog wr = .ok (.round l0 fn tmps assign body) wr ∧ RoundIn Fence.wide (m0 - 1) Tryz.prog l0 fn tmps assign body wr fun e W' =>
          (e = .returned (.bool true) ∧ J (pre.length + 1) W' ∧ Tch U wr W') ∨ (e = .returned (.bool false) ∧ Jx (pre.length + 1) W' ∧ Tch U wr W') :=
        HY.out pre.length _ wr hsz2 HJK.out (List.getElem?_eq_some_iff.1 HE.out).1 ⟨X, HE.out, rfl⟩ (m0 - 1)
      obtain ⟨fn, tmps, assign, body, hy, hR⟩ := hcy
      have HR := Lib.hid hR; clear hR hX
      gi_wp2_with fail
      refine ⟨fun h => (by simp [Fence.wide] at h), HR.out.mono ?_⟩
      clear hy hand
      rintro e w7 (⟨rfl, hJ7, ht7⟩ | ⟨rfl, hJ7, -⟩)
      · have HJ7 := Lib.hid hJ7; have HT7 := Lib.hid ht7
        clear hJ7 ht7 HR
        gi_wp2_with fail
        refine ⟨⟨_, _, _, _, _, _, _, _, _, _, _, _, ⟨q - 5, pre ++ [X], by go_num, by omega, by omega, HG3.out, by have := HT7.out.size; omega, HT7.out.boxed HBX.out HUK.out, HT7.out.bys HBY.out (fun g2 off2 e hp => HUA.out g2 off2 e hp), by simpa using HJ7.out⟩, rfl⟩, ?_⟩
        simp [intOf]; omega
      · exact absurd hJ7 ((hNo.resolve_left id) _ _)
    · have hq8 : q = (h + 8) % 5 := by omega
      have hlow := and_low M q (by omega) (by omega)
      have hw1 : wrap64 (wrap64 (2 ^ q) - 1) = ((2 ^ q - 1 : Nat) : Int) := by
        have h1 : 2 ^ q ≤ 2 ^ 4 := Nat.pow_le_pow_right (by decide) (by omega)
        have h2 : 0 < 2 ^ q := Nat.pow_pos (by decide)
        have e : (2 : Int) ^ q = ((2 ^ q : Nat) : Int) := by simp
        rw [e, show wrap64 ((2 ^ q : Nat) : Int) = ((2 ^ q : Nat) : Int) from IntWalk.wrap64_in _ (by omega), IntWalk.wrap64_in _ (by omega)]
        omega
      have HLOW := Lib.hid hlow; have HW1 := Lib.hid hw1
      have HQ8 := Lib.hid hq8
      clear hlow hw1 hq8
      gi_wp2_with fail
      rw [HW1.out, HLOW.out]
      refine ⟨⟨i + 1, M % 2 ^ q, q, pre, by omega, by go_num, rfl, rfl, by omega, Nat.mod_lt _ (Nat.pow_pos (by decide)), ?_, hsz2, HBX.out, HBY.out, HJK.out⟩, ?_⟩
      · rw [HGL.out, show outF M q = [] from by unfold outF; rw [if_pos (by omega)], List.nil_append, ← HQ8.out]
      · simp [intOf]; omega
  · obtain rfl : i = n := by omega
    have hdr : l.drop i = [] := List.drop_of_length_le (by rw [HBY.out.1]; exact Nat.le_refl _)
    have HGE : Hid (fiveG 0 0 l = pre ++ fiveG m h []) := Lib.hid (by rw [HGL.out, hdr])
    clear hdr
    by_cases h0 : h = 0
    · have HF : Hid (fiveG 0 0 l = pre) := Lib.hid (by rw [HGE.out]; simp [fiveG, h0])
      gi_wp2_with fail
      rw [Exit.noGoto_normal]
      refine bodyPost_end (results_none rfl _ _ _) rfl ?_
      exact ⟨⟨_, rfl⟩, .inl (by rw [HF.out]; exact HJK.out)⟩
    · obtain ⟨X, hX⟩ : ∃ X, X = m * 2 ^ (5 - h) % 32 := ⟨_, rfl⟩
      have hb : m * 2 ^ (5 - h) < 1024 := by
        have h1 : 2 ^ (5 - h) ≤ 2 ^ 5 := Nat.pow_le_pow_right (by decide) (by omega)
        have h2 := Nat.mul_le_mul (show m ≤ 15 by omega) h1
        omega
      have hand : bits .and .i64 (wrap64 ((m : Int) * 2 ^ (5 - h))) 31 = (X : Int) := by
        have := and_low (m * 2 ^ (5 - h)) 5 (by omega) (by decide)
        rw [hX, show (m : Int) * 2 ^ (5 - h) = ((m * 2 ^ (5 - h) : Nat) : Int) by simp, IntWalk.wrap64_in _ (by omega)]
        exact this
      have HF : Hid (fiveG 0 0 l = pre ++ [X]) := Lib.hid (by rw [HGE.out, hX]; simp [fiveG, h0])
      have HE : Hid ((fiveG 0 0 l)[pre.length]? = some X) := Lib.hid (by rw [HF.out]; simp)
      have hcy : ∃ fn tmps assign body, (Instr.yield l0 #[.int .i64 (X : Int)]).run Tryz.prog wr = .ok (.round l0 fn tmps assign body) wr ∧ RoundIn Fence.wide (m0 - 1) Tryz.prog l0 fn tmps assign body wr fun e W' =>
          (e = .returned (.bool true) ∧ J (pre.length + 1) W' ∧ Tch U wr W') ∨ (e = .returned (.bool false) ∧ Jx (pre.length + 1) W' ∧ Tch U wr W') :=
        HY.out pre.length _ wr hsz HJK.out (List.getElem?_eq_some_iff.1 HE.out).1 ⟨X, HE.out, rfl⟩ (m0 - 1)
      obtain ⟨fn, tmps, assign, body, hy, hR⟩ := hcy
      have HR := Lib.hid hR; clear hR hX
      gi_wp2_with fail
      refine ⟨fun h => (by simp [Fence.wide] at h), HR.out.mono ?_⟩
      clear hy hand
      rintro e w7 (⟨rfl, hJ7, ht7⟩ | ⟨rfl, hJ7, -⟩)
      · have HJ7 := Lib.hid hJ7
        clear hJ7 ht7 HR
        gi_wp2_with fail
        rw [Exit.noGoto_normal]
        refine bodyPost_end (results_none rfl _ _ _) rfl ?_
        exact ⟨⟨_, rfl⟩, .inl (by rw [HF.out]; simpa using HJ7.out)⟩
      · exact absurd hJ7 ((hNo.resolve_left id) _ _)
end Go.Proofs.YtomnjhhpeglcnaaGreat

namespace Go.Proofs.YtomnjhhpeglcnaaGreat
set_option linter.unusedSimpArgs false
set_option linter.unusedVariables false
set_option maxRecDepth 100000

def signsB : ByteArray := ⟨#[97, 98, 99, 100, 101, 102, 103, 104, 105, 106, 107, 108, 109, 110, 111, 112, 113, 114, 115, 116, 117, 118, 119, 120, 121, 122, 50, 51, 52, 53, 54, 55]⟩
def sign (x : Nat) : By := (signsB.data.getD x 0).toBitVec
def spellB (l : List By) : List By := (fiveG 0 0 l).map sign
theorem outF_lt (m h : Nat) : ∀ x ∈ outF m h, x < 32 := by
  intro x hx
  unfold outF at hx
  split at hx
  · simp at hx
  · split at hx
    · simp at hx; subst hx; exact Nat.mod_lt _ (by decide)
    · simp at hx; rcases hx with rfl | rfl <;> exact Nat.mod_lt _ (by decide)
theorem fiveG_lt : ∀ (l : List By) (n h : Nat), ∀ x ∈ fiveG n h l, x < 32
  | [], n, h, x, hx => by
    unfold fiveG at hx
    split at hx
    · simp at hx
    · simp at hx; subst hx; exact Nat.mod_lt _ (by decide)
  | c :: r, n, h, x, hx => by
    unfold fiveG at hx
    rcases List.mem_append.1 hx with hx | hx
    · exact outF_lt _ _ x hx
    · exact fiveG_lt r _ _ x hx
theorem fiveG_len : ∀ (l : List By) (n h : Nat), (fiveG n h l).length ≤ 2 * l.length + 1
  | [], n, h => by unfold fiveG; split <;> simp
  | c :: r, n, h => by
    unfold fiveG
    have := fiveG_len r ((n * 256 + c.toNat) % 2 ^ ((h + 8) % 5)) ((h + 8) % 5)
    have h2 : (outF (n * 256 + c.toNat) (h + 8)).length ≤ 2 := by unfold outF; split; simp; split <;> simp
    rw [List.length_append, List.length_cons]
    omega
theorem spellB_len (l : List By) : (spellB l).length ≤ 2 * l.length + 1 := by
  unfold spellB; rw [List.length_map]; exact fiveG_len l 0 0
/-- Which sign. -/
def valS (c : By) : Option Nat := (List.range 32).find? (fun v => sign v == c)
theorem valS_sign : ∀ x < 32, valS (sign x) = some x := by decide +kernel
theorem valS_at (c : By) : (valS c = none ∧ Lib.indexByte signsB.data.toList c.toNat.toUInt8 = -1) ∨ ∃ v : Nat, valS c = some v ∧ v < 32 ∧ sign v = c ∧ Lib.indexByte signsB.data.toList c.toNat.toUInt8 = (v : Int) := by
  have h : ∀ n < 256, (match valS (BitVec.ofNat 8 n) with | none => decide (Lib.indexByte signsB.data.toList n.toUInt8 = -1) | some v => decide (v < 32 ∧ sign v = BitVec.ofNat 8 n ∧ Lib.indexByte signsB.data.toList n.toUInt8 = (v : Int))) = true := by decide +kernel
  have h1 := h c.toNat c.isLt
  have e : BitVec.ofNat 8 c.toNat = c := by simp
  rw [e] at h1
  cases hv : valS c with
  | none => rw [hv] at h1; exact .inl ⟨rfl, of_decide_eq_true h1⟩
  | some v => rw [hv] at h1; exact .inr ⟨v, rfl, of_decide_eq_true h1⟩
theorem valS_some {c : By} {v : Nat} (h : valS c = some v) : v < 32 ∧ sign v = c := by
  rcases valS_at c with ⟨h1, _⟩ | ⟨u, h1, h2, h3, _⟩
  · rw [h1] at h; cases h
  · rw [h1] at h; cases h; exact ⟨h2, h3⟩
/-- The bytes of signs, what is left over, how many bits these are. -/
def rawG (n has : Nat) : List By → Option (List By × Nat × Nat)
  | [] => some ([], n, has)
  | c :: r => match valS c with
    | none => none
    | some v => if 3 ≤ has then (rawG ((n * 32 + v) % 2 ^ (has - 3)) (has - 3) r).map (fun x => (BitVec.ofNat 8 ((n * 32 + v) / 2 ^ (has - 3)) :: x.1, x.2)) else rawG (n * 32 + v) (has + 5) r
def unspellB (s : List By) : Option (List By) := (rawG 0 0 s).bind fun x => if x.2.1 = 0 ∧ x.2.2 < 5 then some x.1 else none
theorem rawG_none {c : By} (r : List By) (n h : Nat) (hv : valS c = none) : rawG n h (c :: r) = none := by rw [rawG, hv]
theorem rawG_low {c : By} {v : Nat} (r : List By) (n h : Nat) (hv : valS c = some v) (hh : ¬ 3 ≤ h) : rawG n h (c :: r) = rawG (n * 32 + v) (h + 5) r := by
  rw [rawG, hv]; simp [hh]
theorem rawG_high {c : By} {v : Nat} (r : List By) (n h : Nat) (hv : valS c = some v) (hh : 3 ≤ h) : rawG n h (c :: r) = (rawG ((n * 32 + v) % 2 ^ (h - 3)) (h - 3) r).map (fun x => (BitVec.ofNat 8 ((n * 32 + v) / 2 ^ (h - 3)) :: x.1, x.2)) := by
  rw [rawG, hv]; simp [hh]

/-- What lies between the two: the bits that the one has of a byte, and those that the other has. -/
theorem raw_five : ∀ (l : List By) (n has m h : Nat), ((has = 0 ∧ h = 0) ∨ (0 < has ∧ has ≤ 4 ∧ h = 8 - has)) → n < 2 ^ has → m < 2 ^ h →
    ∃ hf, hf < 5 ∧ rawG m h ((fiveG n has l).map sign) = some ((if has = 0 then [] else [BitVec.ofNat 8 (m * 2 ^ has + n)]) ++ l, 0, hf) := by
  intro l
  induction l with
  | nil =>
    intro n has m h hh hn hm
    rcases hh with ⟨rfl, rfl⟩ | ⟨h0, h4, rfl⟩
    · have : m = 0 := by simpa using hm
      subst this
      exact ⟨0, by decide, by simp [fiveG, rawG]⟩
    · have h5 : has = 1 ∨ has = 2 ∨ has = 3 ∨ has = 4 := by omega
      rcases h5 with rfl | rfl | rfl | rfl
      all_goals
        simp only [Nat.reducePow, Nat.reduceSub] at hn hm
        simp only [fiveG, Nat.reduceSub, Nat.reducePow, List.map, Nat.reduceEqDiff, reduceIte, Nat.one_ne_zero]
        rw [rawG_high _ _ _ (valS_sign _ (Nat.mod_lt _ (by decide))) (by decide)]
        simp only [rawG, Nat.reduceSub, Nat.reducePow, Option.map_some]
      · refine ⟨4, by decide, ?_⟩; congr 3 <;> first | (congr 1; omega) | omega
      · refine ⟨3, by decide, ?_⟩; congr 3 <;> first | (congr 1; omega) | omega
      · refine ⟨2, by decide, ?_⟩; congr 3 <;> first | (congr 1; omega) | omega
      · refine ⟨1, by decide, ?_⟩; congr 3 <;> first | (congr 1; omega) | omega
  | cons c r ih =>
    intro n has m h hh hn hm
    have hc := c.isLt
    have hce : BitVec.ofNat 8 c.toNat = c := by simp
    have h5 : (has = 0 ∧ h = 0) ∨ (has = 1 ∧ h = 7) ∨ (has = 2 ∧ h = 6) ∨ (has = 3 ∧ h = 5) ∨ (has = 4 ∧ h = 4) := by omega
    have key : ∀ (a b : Nat), a = c.toNat → b = c.toNat → a = b := fun a b e1 e2 => e1.trans e2.symm
    rcases h5 with ⟨rfl, rfl⟩ | ⟨rfl, rfl⟩ | ⟨rfl, rfl⟩ | ⟨rfl, rfl⟩ | ⟨rfl, rfl⟩
    all_goals
      simp only [Nat.reducePow, Nat.reduceSub] at hn hm
      simp only [fiveG, outF, Nat.reduceSub, Nat.reducePow, Nat.reduceAdd, Nat.reduceMod, Nat.reduceLT, List.map_append, List.map, Nat.reduceEqDiff, reduceIte, Nat.one_ne_zero, List.cons_append, List.nil_append]
    · rw [rawG_low _ _ _ (valS_sign _ (Nat.mod_lt _ (by decide))) (by decide)]
      obtain ⟨hf, h1, h2⟩ := ih ((n * 256 + c.toNat) % 8) 3 (m * 32 + (n * 256 + c.toNat) / 8 % 32) 5 (.inr (by omega)) (by omega) (by omega)
      refine ⟨hf, h1, ?_⟩
      simp only [Nat.zero_add]
      rw [h2]
      simp only [Nat.reduceEqDiff, reduceIte, Nat.reducePow, List.cons_append, List.nil_append]
      rw [show (m * 32 + (n * 256 + c.toNat) / 8 % 32) * 8 + (n * 256 + c.toNat) % 8 = c.toNat by omega, hce]
    · rw [rawG_high _ _ _ (valS_sign _ (Nat.mod_lt _ (by decide))) (by decide)]
      obtain ⟨hf, h1, h2⟩ := ih ((n * 256 + c.toNat) % 16) 4 ((m * 32 + (n * 256 + c.toNat) / 16 % 32) % 16) 4 (.inr (by omega)) (by omega) (by omega)
      refine ⟨hf, h1, ?_⟩
      simp only [Nat.reduceSub, Nat.reducePow]
      rw [h2]
      simp only [Nat.reduceEqDiff, reduceIte, Nat.reducePow, List.cons_append, List.nil_append, Option.map_some]
      rw [show (m * 32 + (n * 256 + c.toNat) / 16 % 32) % 16 * 16 + (n * 256 + c.toNat) % 16 = c.toNat by omega, hce, show (m * 32 + (n * 256 + c.toNat) / 16 % 32) / 16 = m * 2 + n by omega]
    · rw [rawG_high _ _ _ (valS_sign _ (Nat.mod_lt _ (by decide))) (by decide)]
      simp only [Nat.reduceSub, Nat.reducePow]
      rw [rawG_high _ _ _ (valS_sign _ (Nat.mod_lt _ (by decide))) (by decide)]
      obtain ⟨hf, h1, h2⟩ := ih ((n * 256 + c.toNat) % 1) 0 (((m * 32 + (n * 256 + c.toNat) / 32 % 32) % 8 * 32 + (n * 256 + c.toNat) / 1 % 32) % 1) 0 (.inl (by omega)) (by omega) (by omega)
      refine ⟨hf, h1, ?_⟩
      simp only [Nat.reduceSub, Nat.reducePow]
      rw [h2]
      simp only [Nat.reduceEqDiff, reduceIte, Nat.reducePow, List.cons_append, List.nil_append, Option.map_some]
      rw [show ((m * 32 + (n * 256 + c.toNat) / 32 % 32) % 8 * 32 + (n * 256 + c.toNat) / 1 % 32) / 1 = c.toNat by omega, hce, show (m * 32 + (n * 256 + c.toNat) / 32 % 32) / 8 = m * 4 + n by omega]
    · rw [rawG_high _ _ _ (valS_sign _ (Nat.mod_lt _ (by decide))) (by decide)]
      simp only [Nat.reduceSub, Nat.reducePow]
      rw [rawG_low _ _ _ (valS_sign _ (Nat.mod_lt _ (by decide))) (by decide)]
      obtain ⟨hf, h1, h2⟩ := ih ((n * 256 + c.toNat) % 2) 1 ((m * 32 + (n * 256 + c.toNat) / 64 % 32) % 4 * 32 + (n * 256 + c.toNat) / 2 % 32) 7 (.inr (by omega)) (by omega) (by omega)
      refine ⟨hf, h1, ?_⟩
      simp only [Nat.reduceSub, Nat.reducePow, Nat.reduceAdd]
      rw [h2]
      simp only [Nat.reduceEqDiff, reduceIte, Nat.one_ne_zero, Nat.reducePow, List.cons_append, List.nil_append, Option.map_some]
      rw [show ((m * 32 + (n * 256 + c.toNat) / 64 % 32) % 4 * 32 + (n * 256 + c.toNat) / 2 % 32) * 2 + (n * 256 + c.toNat) % 2 = c.toNat by omega, hce, show (m * 32 + (n * 256 + c.toNat) / 64 % 32) / 4 = m * 8 + n by omega]
    · rw [rawG_high _ _ _ (valS_sign _ (Nat.mod_lt _ (by decide))) (by decide)]
      simp only [Nat.reduceSub, Nat.reducePow]
      rw [rawG_low _ _ _ (valS_sign _ (Nat.mod_lt _ (by decide))) (by decide)]
      obtain ⟨hf, h1, h2⟩ := ih ((n * 256 + c.toNat) % 4) 2 ((m * 32 + (n * 256 + c.toNat) / 128 % 32) % 2 * 32 + (n * 256 + c.toNat) / 4 % 32) 6 (.inr (by omega)) (by omega) (by omega)
      refine ⟨hf, h1, ?_⟩
      simp only [Nat.reduceSub, Nat.reducePow, Nat.reduceAdd]
      rw [h2]
      simp only [Nat.reduceEqDiff, reduceIte, Nat.one_ne_zero, Nat.reducePow, List.cons_append, List.nil_append, Option.map_some]
      rw [show ((m * 32 + (n * 256 + c.toNat) / 128 % 32) % 2 * 32 + (n * 256 + c.toNat) / 4 % 32) * 4 + (n * 256 + c.toNat) % 4 = c.toNat by omega, hce, show (m * 32 + (n * 256 + c.toNat) / 128 % 32) / 2 = m * 16 + n by omega]
/-- What is spelled is unspelled. -/
theorem unspell_spell (l : List By) : unspellB (spellB l) = some l := by
  obtain ⟨hf, h1, h2⟩ := raw_five l 0 0 0 0 (.inl ⟨rfl, rfl⟩) (by decide) (by decide)
  unfold unspellB spellB
  rw [h2]
  simp [h1]

def digs (k n : Nat) : List Nat := if k = 0 then [] else if k = 1 then [n] else [n / 32, n % 32]
theorem five_raw : ∀ (r : List By) (n has m h : Nat) (b : List By) (mf hf : Nat), ((has + h = 0) ∨ (has ≤ 4 ∧ has + h = 5) ∨ (has ≤ 4 ∧ h ≤ 7 ∧ has + h = 10)) → n < 2 ^ has → m < 2 ^ h → rawG m h r = some (b, mf, hf) → mf = 0 → hf < 5 →
    (fiveG n has b).map sign = (digs ((has + h) / 5) (n * 2 ^ h + m)).map sign ++ r := by
  intro r
  induction r with
  | nil =>
    intro n has m h b mf hf hh hn hm hr hmf hhf
    rw [rawG] at hr
    injection hr with hr
    injection hr with e1 e2
    injection e2 with e2 e3
    subst e1; subst e2; subst e3; subst hmf
    have h5 : (has = 0 ∧ h = 0) ∨ (has = 1 ∧ h = 4) ∨ (has = 2 ∧ h = 3) ∨ (has = 3 ∧ h = 2) ∨ (has = 4 ∧ h = 1) := by omega
    rcases h5 with ⟨rfl, rfl⟩ | ⟨rfl, rfl⟩ | ⟨rfl, rfl⟩ | ⟨rfl, rfl⟩ | ⟨rfl, rfl⟩
    all_goals
      simp only [Nat.reducePow] at hn
      simp [fiveG, digs]
    all_goals
      congr 1
      omega
  | cons c r ih =>
    intro n has m h b mf hf hh hn hm hr hmf hhf
    cases hv : valS c with
    | none => rw [rawG_none r m h hv] at hr; cases hr
    | some v =>
      obtain ⟨hv32, hsv⟩ := valS_some hv
      by_cases h3 : 3 ≤ h
      · rw [rawG_high r m h hv h3] at hr
        cases hx : rawG ((m * 32 + v) % 2 ^ (h - 3)) (h - 3) r with
        | none => rw [hx] at hr; cases hr
        | some x =>
          obtain ⟨b', mf', hf'⟩ := x
          rw [hx] at hr
          simp only [Option.map_some, Option.some.injEq, Prod.mk.injEq] at hr
          obtain ⟨rfl, rfl, rfl⟩ := hr
          have h5 : (has = 0 ∧ h = 5) ∨ (has = 1 ∧ h = 4) ∨ (has = 2 ∧ h = 3) ∨ (has = 3 ∧ h = 7) ∨ (has = 4 ∧ h = 6) := by omega
          rw [← hsv]
          rcases h5 with ⟨rfl, rfl⟩ | ⟨rfl, rfl⟩ | ⟨rfl, rfl⟩ | ⟨rfl, rfl⟩ | ⟨rfl, rfl⟩
          all_goals
            simp only [Nat.reducePow, Nat.reduceSub] at hn hm hx
            simp only [Nat.reducePow, Nat.reduceSub]
          · obtain ⟨cb, hcb, hcl⟩ : ∃ cb, cb = (BitVec.ofNat 8 ((m * 32 + v) / 4)).toNat ∧ cb = (m * 32 + v) / 4 := ⟨_, rfl, by simp; omega⟩
            have := ih ((n * 256 + cb) % 8) 3 ((m * 32 + v) % 4) 2 b' mf' hf' (by omega) (by omega) (by omega) hx hmf hhf
            simp only [fiveG, outF, ← hcb, Nat.reduceAdd, Nat.reduceMod, Nat.reducePow, Nat.reduceLT, Nat.reduceSub, List.map_append, this, digs, Nat.reduceDiv, Nat.reduceEqDiff, reduceIte, Nat.one_ne_zero, List.map, List.cons_append, List.nil_append]
            congr 1
            · congr 1; omega
            · congr 2; omega
          · obtain ⟨cb, hcb, hcl⟩ : ∃ cb, cb = (BitVec.ofNat 8 ((m * 32 + v) / 2)).toNat ∧ cb = (m * 32 + v) / 2 := ⟨_, rfl, by simp; omega⟩
            have := ih ((n * 256 + cb) % 16) 4 ((m * 32 + v) % 2) 1 b' mf' hf' (by omega) (by omega) (by omega) hx hmf hhf
            simp only [fiveG, outF, ← hcb, Nat.reduceAdd, Nat.reduceMod, Nat.reducePow, Nat.reduceLT, Nat.reduceSub, List.map_append, this, digs, Nat.reduceDiv, Nat.reduceEqDiff, reduceIte, Nat.one_ne_zero, List.map, List.cons_append, List.nil_append]
            congr 1
            · congr 1; omega
            · congr 2; omega
          · obtain ⟨cb, hcb, hcl⟩ : ∃ cb, cb = (BitVec.ofNat 8 ((m * 32 + v) / 1)).toNat ∧ cb = (m * 32 + v) / 1 := ⟨_, rfl, by simp; omega⟩
            have := ih ((n * 256 + cb) % 1) 0 ((m * 32 + v) % 1) 0 b' mf' hf' (by omega) (by omega) (by omega) hx hmf hhf
            simp only [fiveG, outF, ← hcb, Nat.reduceAdd, Nat.reduceMod, Nat.reducePow, Nat.reduceLT, Nat.reduceSub, List.map_append, this, digs, Nat.reduceDiv, Nat.reduceEqDiff, reduceIte, Nat.one_ne_zero, List.map, List.cons_append, List.nil_append]
            congr 1
            · congr 1; omega
            · congr 2; omega
          · obtain ⟨cb, hcb, hcl⟩ : ∃ cb, cb = (BitVec.ofNat 8 ((m * 32 + v) / 16)).toNat ∧ cb = (m * 32 + v) / 16 := ⟨_, rfl, by simp; omega⟩
            have := ih ((n * 256 + cb) % 2) 1 ((m * 32 + v) % 16) 4 b' mf' hf' (by omega) (by omega) (by omega) hx hmf hhf
            simp only [fiveG, outF, ← hcb, Nat.reduceAdd, Nat.reduceMod, Nat.reducePow, Nat.reduceLT, Nat.reduceSub, List.map_append, this, digs, Nat.reduceDiv, Nat.reduceEqDiff, reduceIte, Nat.one_ne_zero, List.map, List.cons_append, List.nil_append]
            congr 1
            · congr 1; omega
            · congr 1
              · congr 1; omega
              · congr 2; omega
          · obtain ⟨cb, hcb, hcl⟩ : ∃ cb, cb = (BitVec.ofNat 8 ((m * 32 + v) / 8)).toNat ∧ cb = (m * 32 + v) / 8 := ⟨_, rfl, by simp; omega⟩
            have := ih ((n * 256 + cb) % 4) 2 ((m * 32 + v) % 8) 3 b' mf' hf' (by omega) (by omega) (by omega) hx hmf hhf
            simp only [fiveG, outF, ← hcb, Nat.reduceAdd, Nat.reduceMod, Nat.reducePow, Nat.reduceLT, Nat.reduceSub, List.map_append, this, digs, Nat.reduceDiv, Nat.reduceEqDiff, reduceIte, Nat.one_ne_zero, List.map, List.cons_append, List.nil_append]
            congr 1
            · congr 1; omega
            · congr 1
              · congr 1; omega
              · congr 2; omega
      · rw [rawG_low r m h hv h3] at hr
        have h5 : (has = 0 ∧ h = 0) ∨ (has = 3 ∧ h = 2) ∨ (has = 4 ∧ h = 1) := by omega
        rw [← hsv]
        rcases h5 with ⟨rfl, rfl⟩ | ⟨rfl, rfl⟩ | ⟨rfl, rfl⟩
        all_goals
          simp only [Nat.reducePow] at hn hm
          rw [ih n _ (m * 32 + v) _ b mf hf (by omega) (by omega) (by omega) hr hmf hhf]
          simp only [digs, Nat.reduceAdd, Nat.reduceDiv, Nat.reducePow, Nat.reduceEqDiff, reduceIte, Nat.one_ne_zero, List.map, List.cons_append, List.nil_append]
          congr 1
        · congr 1; omega
        · congr 1; omega
        · congr 2; omega
        · congr 1; omega
        · congr 2; omega
/-- What is unspelled is spelled so. -/
theorem spell_unspell {s b : List By} (h : unspellB s = some b) : spellB b = s := by
  unfold unspellB at h
  cases hr : rawG 0 0 s with
  | none => rw [hr] at h; cases h
  | some x =>
    obtain ⟨b', mf, hf⟩ := x
    rw [hr] at h
    simp only [Option.bind_some] at h
    split at h
    · rename_i hc
      injection h with h
      subst h
      have := five_raw s 0 0 0 0 b' mf hf (.inl rfl) (by decide) (by decide) hr hc.1 hc.2
      unfold spellB
      rw [this]
      simp [digs]
    · cases h
/-- Whether signs are what their bytes are spelled as. -/
theorem unspell_raw {s b : List By} {mf hf : Nat} (h : rawG 0 0 s = some (b, mf, hf)) : (spellB b = s ↔ mf = 0 ∧ hf < 5) := by
  constructor
  · intro e
    have := unspell_spell b
    rw [e] at this
    unfold unspellB at this
    rw [h] at this
    simp only [Option.bind_some] at this
    split at this
    · rename_i hc; exact hc
    · cases this
  · intro e
    refine spell_unspell ?_
    unfold unspellB
    rw [h]
    simp [e.1, e.2]
end Go.Proofs.YtomnjhhpeglcnaaGreat

namespace Go.Proofs.YtomnjhhpeglcnaaGreat
open Go.RowKit Go.Shelf
attribute [local go_sem] Oper.semAt_some
set_option linter.unusedSimpArgs false
set_option linter.unusedVariables false
set_option maxRecDepth 100000

set_option maxHeartbeats 4000000 in
theorem spell_in (m0 : Nat) (a : Option Addr) (n c : Nat) (l : List By) (w : World) (hk : Bys w a n l) (hn : n ≤ 1000000) :
    CallsIn Fence.wide m0 Tryz.prog 26 #[.slice a n c] w fun e w' => e = .returned (.string (strOf (spellB l))) ∧ Below w.heap.size w w' := by
  have HK := Lib.hid hk; clear hk
  refine callsIn_of_wp_marks Tryz.func26 rfl trivial ?_ rfl
  simp only [Tryz.ntmps26, List.size_toArray, List.length_cons, List.length_nil, Nat.reduceAdd, Nat.reduceSub, Array.replicate_succ, Array.replicate_zero, List.push_toArray, List.append_toArray, List.nil_append, List.cons_append]
  gi_wp2_with fail
  obtain ⟨w2, hw2⟩ : ∃ w2, w2 = w.alloc (.cells #[.pointer none, .slice none 0 0] 89) := ⟨_, rfl⟩
  have hz2 : w2.heap.size = w.heap.size + 1 := by rw [hw2]; simp
  have bK : Blk w2 w.heap.size 89 #[.pointer none, .slice none 0 0] := by rw [hw2]; exact Blk.new w 89 _
  have hb2 : Below w.heap.size w w2 := by rw [hw2]; exact (Below.refl w.heap.size w).alloc (Nat.le_refl _) _
  rw [← hw2]
  clear hw2
  have HK2 := Lib.hid (HK.out.below hb2)
  refine ⟨trivial, fun h => (by simp [Fence.wide] at h), (callsIn_wide.2 (fives_c a n c l w2 HK2.out)).mono ?_⟩
  rintro e w3 ⟨Bk, rfl, hBk, hbx, hby, hb3⟩
  have HBX := Lib.hid hbx; have HBY := Lib.hid hby
  have HB3 := Lib.hid (hb2.trans (hb3.mono hb2.size))
  have hz3 := hb3.size
  have HBld : Hid (∀ D, w.heap.size < D → Bld w3 D w.heap.size []) := Lib.hid (fun D hD => ⟨_, _, .inl rfl, bK.below hb3 bK.lt, own_nil _ _⟩)
  have hkl : Bk < w3.heap.size := hbx.lt
  have hka : ∀ g off, a = some ⟨g, off, none⟩ → 0 < n → g < w.heap.size := by
    intro g off e h0
    obtain ⟨g', off', e', hg, _⟩ := HK.out.cells h0
    rw [e] at e'
    injection e' with e'
    injection e' with e1
    omega
  have HKA := Lib.hid hka
  clear hbx hby hb3 bK hb2 HK2 hka
  gi_wp2_with fail
  refine range_gives1 (p := 7) (fives_gives Bk a n c l hn) rfl (enters_of Tryz.func67 (by kernel_rfl) rfl)
    (fun i => i = w.heap.size ∨ w3.heap.size + 2 ≤ i)
    (fun X hb hz => ⟨boxed_below HBX.out hb hkl, HBY.out.below hb, by omega, fun g off e h0 => by have := HKA.out g off e h0; omega⟩)
    (fun i hi => by omega)
    (fun k v X Y ht h => h)
    (fun k X => Bld X (w3.heap.size + 2) w.heap.size ((spellB l).take k) ∧ Below w.heap.size w X)
    (fun _ _ _ => False)
    (fun k X Y ht h => ⟨h.1.tch ht (by omega) (fun i hi => by omega), h.2.trans (ht.below h.2.size (fun i hi => by omega))⟩)
    (fun c k X Y ht h => h)
    (.inr (fun _ _ _ h => h))
    ⟨by simpa using HBld.out (w3.heap.size + 2) (by omega), HB3.out⟩
    (fun v => { tmps := #[.slice a n c, undef, .string ⟨#[]⟩, .pointer (some ⟨w.heap.size, 0, none⟩), v, .slice a n c, .func (.func 67) #[] #[.pointer (some ⟨Bk, 0, none⟩)], v, undef, undef, undef, undef], defers := [] })
    ?assign ?body ?done ?stop
  case assign =>
    intro l1 v X K hK
    simp only [List.setIfInBounds_toArray, List.set_cons_zero, List.set_cons_succ] at hK ⊢
    gi_wp2
    exact hK
  case body =>
    intro l1 k v W hzW hI hk hv
    obtain ⟨x, hx, rfl⟩ := hv
    have hx32 : x < 32 := fiveG_lt l 0 0 x (List.mem_of_getElem? hx)
    have hsx : ∀ h, ((signsB[x]'h).toNat : Int) = ((sign x).toNat : Int) := by
      intro h
      have h' : x < signsB.data.size := h
      unfold sign
      simp only [Array.getD, h', dite_true]
      rfl
    have HX : Hid ((spellB l).take (k + 1) = (spellB l).take k ++ [sign x]) := Lib.hid (by
      unfold spellB
      rw [List.take_add_one]
      simp [hx])
    have HI := Lib.hid hI
    have hlen : ((spellB l).take k).length ≤ 1000000000 := by
      have h1 := fiveG_len l 0 0
      have h2 := HBY.out.1
      rw [List.length_take]
      unfold spellB
      rw [List.length_map]
      omega
    clear hI hx
    have HSX := Lib.hid hsx
    clear hsx
    gi_wp2_with fail
    have hsx := HSX.out
    simp only [signsB] at hsx
    rw [hsx]
    refine ⟨trivial, fun h => (by simp [Fence.wide, Fence.inRound] at h), ((callsIn_wide.2 (wbyte_c (w3.heap.size + 2) w.heap.size _ (sign x) W HI.out.1 hlen (by omega) hzW) : CallsIn (Fence.wide.inRound l1) _ _ _ _ _ _)).mono ?_⟩
    rintro e w5 ⟨rfl, hb5, ht5⟩
    have HB5 := Lib.hid hb5; have HT5 := Lib.hid ht5
    clear hb5 ht5 hsx
    gi_wp2_with fail
    exact ⟨HT5.out, by rw [HX.out]; exact HB5.out, HI.out.2.trans (HT5.out.below HI.out.2.size (fun i hi => by omega))⟩
    exact hx32
  case done =>
    intro D W hD hD2 hzW hi hK
    obtain ⟨hbd, hbl⟩ := hi
    have e : (spellB l).take (fiveG 0 0 l).length = spellB l := List.take_of_length_le (by unfold spellB; simp)
    rw [e] at hbd
    have HBD := Lib.hid hbd; have HBL := Lib.hid hbl; have HK := Lib.hid hK
    clear hbd hbl hK e
    gi_wp2_with fail
    have hDW : D < W.heap.size := (Array.getElem?_eq_some_iff.1 HK.out).1
    refine ⟨trivial, fun h => (by simp [Fence.wide] at h), (callsIn_wide.2 (bstr_c (w3.heap.size + 2) w.heap.size (spellB l) W HBD.out (by omega) (by omega))).mono ?_⟩
    rintro e w6 ⟨rfl, hb6⟩
    have HB6 := Lib.hid (HBL.out.trans (hb6.mono (by omega)))
    have HK6 := Lib.hid ((hb6.block D hD2).trans HK.out)
    clear hb6
    gi_wp2_with fail
    refine ⟨by simp, .inl ⟨_, _, rfl, run_takeDeferred HK6.out, ?_⟩⟩
    have hT := (Tch.refl (fun i => i = D) w6).putObj1 (r := D) (.inl rfl) (.deferred none)
    exact ⟨_, results_tmp rfl _ _ _, rfl, HB6.out.trans (hT.below HB6.out.size (fun i e => by omega))⟩
  case stop =>
    rintro D c k W hD hk h hK
    exact h.elim
theorem spell_c (a : Option Addr) (n c : Nat) (l : List By) (w : World) (hk : Bys w a n l) (hn : n ≤ 1000000) :
    Calls Tryz.prog 26 #[.slice a n c] w fun e w' => e = .returned (.string (strOf (spellB l))) ∧ Below w.heap.size w w' := callsIn_wide.1 (spell_in 0 a n c l w hk hn)
end Go.Proofs.YtomnjhhpeglcnaaGreat
