/- A turned bit, two turned bits: the sum tells them. Plain mathematics. -/
import Derived.Test.YtodjbgcmlpmknaaWt
namespace Go.Proofs.Ytodjbgcmlpmknaa

/-- Whether x to the d is one, for no d from a to a + n. -/
def chk (x : Wo) : Nat → Bool
  | 0 => true
  | n + 1 => x != one && chk (tx x) n
theorem chk_spec (x : Wo) (n : Nat) (h : chk x n = true) : ∀ k, k < n → txn k x ≠ one := by
  induction n generalizing x with
  | zero => intro k hk; omega
  | succ n ih =>
    rw [chk, Bool.and_eq_true] at h
    intro k hk
    cases k with
    | zero => simpa [txn] using h.1
    | succ k => exact ih (tx x) h.2 k (by omega)
theorem chk_go : chk (tx one) 7300 = true := by decide +kernel
theorem xpow_ne_one (d : Nat) (h : 0 < d) (h2 : d < 7300) : xpow d ≠ one := by
  obtain ⟨k, rfl⟩ : ∃ k, d = k + 1 := ⟨d - 1, by omega⟩
  exact chk_spec _ _ chk_go k (by omega)

theorem tx_inj {x : Wo} (h : tx x = 0#32) : x = 0#32 := by
  unfold tx at h
  by_cases hb : x.getLsbD 0
  · rw [if_pos hb] at h
    have := congrArg (fun y : Wo => y.getLsbD 31) h
    simp [poly] at this
  · rw [if_neg hb] at h
    have h1 : x >>> 1 = 0#32 := by simpa using h
    apply BitVec.eq_of_getLsbD_eq
    intro i hi
    cases i with
    | zero => simpa using hb
    | succ i =>
      have := congrArg (fun y : Wo => y.getLsbD i) h1
      simpa [BitVec.getLsbD_ushiftRight, Nat.add_comm] using this
theorem txn_inj (n : Nat) {x : Wo} (h : txn n x = 0#32) : x = 0#32 := by
  induction n generalizing x with
  | zero => exact h
  | succ n ih => rw [txn] at h; exact tx_inj (ih h)
theorem one_ne : one ≠ 0#32 := by decide
theorem xpow_ne (n : Nat) : xpow n ≠ 0#32 := fun h => one_ne (txn_inj n h)
theorem xpow_two (p q : Nat) (h : p < q) (h2 : q - p < 7300) : xpow p ^^^ xpow q ≠ 0#32 := by
  intro e
  have e2 : xpow q = txn p (xpow (q - p)) := by unfold xpow; rw [← txn_add]; congr 1; omega
  rw [e2, xpow, ← txn_xor] at e
  have := txn_inj p e
  exact xpow_ne_one (q - p) (by omega) h2 (by
    have h3 : one ^^^ (one ^^^ xpow (q - p)) = one ^^^ 0#32 := by rw [this]
    rw [← BitVec.xor_assoc] at h3
    simpa using h3)

theorem bit_pow : ∀ i, i < 32 → (1#32 <<< i : Wo) = xpow (31 - i) := by decide +kernel
theorem bit8 : ∀ b, b < 8 → ((1#8 <<< b).setWidth 32 : Wo) = 1#32 <<< b := by decide +kernel

/-- A bit of bytes turned. -/
def flip (l : List By) (p : Nat) : List By := l.set (p / 8) (l.getD (p / 8) 0#8 ^^^ 1#8 <<< (p % 8))
theorem flip_len (l : List By) (p : Nat) : (flip l p).length = l.length := by simp [flip]

theorem run_set (x : Wo) (m : List By) (j : Nat) (hj : j < m.length) (e : By) : run x (m.set j (m.getD j 0#8 ^^^ e)) = run x m ^^^ txn (8 * (m.length - j)) (e.setWidth 32) := by
  induction m generalizing x j with
  | nil => simp at hj
  | cons c m ih =>
    cases j with
    | zero =>
      show run (stepB x (c ^^^ e)) m = run (stepB x c) m ^^^ _
      have h1 : stepB x (c ^^^ e) = stepB x c ^^^ txn 8 (e.setWidth 32) := by
        unfold stepB
        rw [← txn_xor, BitVec.setWidth_xor, BitVec.xor_assoc]
      rw [h1, run_xor, ← txn_add]
      congr 2
    | succ j =>
      have := ih (stepB x c) j (by simpa using hj)
      show run (stepB x c) (m.set j (m.getD j 0#8 ^^^ e)) = _
      rw [this]
      show _ = run (stepB x c) m ^^^ _
      congr 2
      simp
theorem sum_set (m : List By) (j : Nat) (hj : j < m.length) (e : By) : sumB (m.set j (m.getD j 0#8 ^^^ e)) = sumB m ^^^ txn (8 * (m.length - j)) (e.setWidth 32) := by
  unfold sumB
  rw [run_set _ _ _ hj, not_eq, not_eq (run _ m), BitVec.xor_assoc]
theorem low_bytes (x : Wo) : lowB x = [x.extractLsb' 0 8, x.extractLsb' 8 8, x.extractLsb' 16 8, x.extractLsb' 24 8] := by
  have h : ∀ k, x.extractLsb' k 8 = BitVec.ofNat 8 (x.toNat / 2 ^ k) := fun k => by
    apply BitVec.eq_of_toNat_eq
    simp [BitVec.extractLsb'_toNat, Nat.shiftRight_eq_div_pow]
  unfold lowB
  rw [h, h, h, h, Nat.pow_zero, Nat.div_one]
theorem ext_set : ∀ i, i < 4 → ∀ b, b < 8 → ∀ k, k < 4 → (1#32 <<< (8 * i + b) : Wo).extractLsb' (8 * k) 8 = if i = k then 1#8 <<< b else 0#8 := by decide +kernel
theorem ext_xor (s t : Wo) (k : Nat) : (s ^^^ t).extractLsb' k 8 = s.extractLsb' k 8 ^^^ t.extractLsb' k 8 := by
  apply BitVec.eq_of_getLsbD_eq
  intro i hi
  simp [hi]
theorem low_set (s : Wo) (i b : Nat) (hi : i < 4) (hb : b < 8) : (lowB s).set i ((lowB s).getD i 0#8 ^^^ 1#8 <<< b) = lowB (s ^^^ 1#32 <<< (8 * i + b)) := by
  rw [low_bytes, low_bytes, ext_xor, ext_xor, ext_xor, ext_xor]
  have h := ext_set i hi b hb
  have h0 := h 0 (by omega)
  have h1 := h 1 (by omega)
  have h2 := h 2 (by omega)
  have h3 := h 3 (by omega)
  simp only [Nat.mul_zero, Nat.mul_one, Nat.reduceMul] at h0 h1 h2 h3
  rw [h0, h1, h2, h3]
  match i, hi with
  | 0, _ => simp
  | 1, _ => simp
  | 2, _ => simp
  | 3, _ => simp
theorem low_inj {s t : Wo} (h : lowB s = lowB t) : s = t := by
  unfold lowB at h
  injection h with h0 h
  injection h with h1 h
  injection h with h2 h
  injection h with h3 h
  have k : ∀ a b : Nat, BitVec.ofNat 8 a = BitVec.ofNat 8 b → a % 256 = b % 256 := fun a b e => by
    have := congrArg BitVec.toNat e
    simpa using this
  have g0 := k _ _ h0
  have g1 := k _ _ h1
  have g2 := k _ _ h2
  have g3 := k _ _ h3
  apply BitVec.eq_of_toNat_eq
  have := s.isLt
  have := t.isLt
  omega
theorem flip_form (m : List By) (s : Wo) (p : Nat) (hp : p < 8 * (m.length + 4)) :
    ∃ m' s', flip (m ++ lowB s) p = m' ++ lowB s' ∧ m'.length = m.length ∧ sumB m' ^^^ s' = (sumB m ^^^ s) ^^^ xpow (8 * m.length + 31 - p) := by
  rcases Nat.lt_or_ge (p / 8) m.length with h | h
  · refine ⟨m.set (p / 8) (m.getD (p / 8) 0#8 ^^^ 1#8 <<< (p % 8)), s, ?_, by simp, ?_⟩
    · unfold flip
      rw [List.set_append_left _ _ h]
      congr 2
      simp [List.getD_eq_getElem?_getD, List.getElem?_append_left h]
    · rw [sum_set _ _ h, bit8 _ (Nat.mod_lt _ (by omega)), bit_pow _ (by omega), xpow, ← txn_add]
      have : 8 * (m.length - p / 8) + (31 - p % 8) = 8 * m.length + 31 - p := by omega
      rw [this, xpow]
      ac_rfl
  · refine ⟨m, s ^^^ 1#32 <<< (8 * (p / 8 - m.length) + p % 8), ?_, rfl, ?_⟩
    · unfold flip
      rw [List.set_append_right _ _ h, ← low_set s _ _ (by omega) (Nat.mod_lt _ (by omega))]
      congr 3
      simp [List.getD_eq_getElem?_getD, List.getElem?_append_right h]
    · rw [bit_pow _ (by omega)]
      have : 31 - (8 * (p / 8 - m.length) + p % 8) = 8 * m.length + 31 - p := by omega
      rw [this]
      ac_rfl
theorem open_form (m : List By) (s : Wo) : openB (m ++ lowB s) = decide (sumB m ^^^ s = 0#32) := by
  have h : (m ++ lowB s).length - 4 = m.length := by simp [low_len]
  unfold openB
  rw [h, Bool.eq_iff_iff]
  simp [low_len]
  constructor
  · intro e
    exact low_inj e
  · intro e
    rw [e]
/-- One or two bits of sealed bytes turned: they are refused. -/
theorem flip_one (l : List By) (p : Nat) (hp : p < 8 * (l.length + 4)) : openB (flip (sealB l) p) = false := by
  obtain ⟨m, s, e, hl, hx⟩ := flip_form l (sumB l) p hp
  rw [sealB, e, open_form, hx, BitVec.xor_self, BitVec.zero_xor]
  exact decide_eq_false (xpow_ne _)
theorem flip_two (l : List By) (p q : Nat) (hl : l.length ≤ 900) (hp : p < 8 * (l.length + 4)) (hq : q < 8 * (l.length + 4)) (hne : p ≠ q) : openB (flip (flip (sealB l) p) q) = false := by
  obtain ⟨m, s, e, hl1, hx⟩ := flip_form l (sumB l) p hp
  obtain ⟨m', s', e', hl2, hx'⟩ := flip_form m s q (by omega)
  rw [sealB, e, e', open_form, hx', hx, BitVec.xor_self, BitVec.zero_xor, hl1]
  refine decide_eq_false ?_
  rcases Nat.lt_or_gt_of_ne hne with h | h
  · rw [BitVec.xor_comm]
    exact xpow_two _ _ (by omega) (by omega)
  · exact xpow_two _ _ (by omega) (by omega)
end Go.Proofs.Ytodjbgcmlpmknaa
