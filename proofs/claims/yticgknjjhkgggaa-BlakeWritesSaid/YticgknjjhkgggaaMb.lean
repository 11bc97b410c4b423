/- The sum of bytes by blocks, plain. -/
import Derived.Test.YticgknjjhkgggaaWk
namespace Go.Proofs.Yticgknjjhkgggaa

/-- How many blocks of these bytes are pressed before the last one. -/
def full (d : List By) : Nat := (d.length - 1) / 64
/-- Block k of these bytes. -/
def blockAt (d : List By) (k : Nat) : List By := (d.drop (64 * k)).take 64
def pressN (h : List Wo) (n : Nat) (d : List By) : Nat → List Wo
  | 0 => h
  | k + 1 => press (pressN h n d k) (pad (blockAt d k)) (n + 64 * (k + 1)) false
def leftOf (d : List By) : List By := d.drop (64 * full d)
theorem pressN_len (h : List Wo) (n : Nat) (d : List By) (k : Nat) : (pressN h n d k).length = h.length := by
  induction k with
  | zero => rfl
  | succ k ih => rw [pressN, press_len, ih]
theorem full_le (d : List By) : 64 * full d ≤ d.length := by unfold full; omega
theorem left_le (d : List By) : (leftOf d).length ≤ 64 := by unfold leftOf full; simp; omega
theorem left_pos (d : List By) (h : 0 < d.length) : 0 < (leftOf d).length := by unfold leftOf full; simp; omega
theorem blockAt_len (d : List By) (k : Nat) (h : k < full d) : (blockAt d k).length = 64 := by
  unfold blockAt full at *; simp; omega
theorem pressN_append (h : List Wo) (n : Nat) (d e : List By) (k : Nat) (hk : 64 * k ≤ d.length) : pressN h n (d ++ e) k = pressN h n d k := by
  induction k with
  | zero => rfl
  | succ k ih =>
    rw [pressN, pressN, ih (by omega)]
    congr 2
    unfold blockAt
    rw [List.drop_append_of_le_length (by omega), List.take_append_of_le_length (by simp; omega)]
theorem pressN_drop (h : List Wo) (n : Nat) (d : List By) (m k : Nat) : pressN h n d (m + k) = pressN (pressN h n d m) (n + 64 * m) (d.drop (64 * m)) k := by
  induction k with
  | zero => rfl
  | succ k ih =>
    have e1 : blockAt d (m + k) = blockAt (d.drop (64 * m)) k := by
      unfold blockAt
      rw [List.drop_drop, show 64 * (m + k) = 64 * m + 64 * k by omega]
    have e2 : n + 64 * (m + k + 1) = n + 64 * m + 64 * (k + 1) := by omega
    rw [← Nat.add_assoc, pressN, pressN, ih, e1, e2]
theorem full_append (d e : List By) : full (d ++ e) = full d + full (leftOf d ++ e) := by
  unfold leftOf full; simp; omega
theorem left_append (d e : List By) : leftOf (d ++ e) = leftOf (leftOf d ++ e) := by
  unfold leftOf
  rw [full_append, ← List.drop_append_of_le_length (full_le d) (l₂ := e), List.drop_drop]
  congr 1
  have : List.drop (64 * full d) (d ++ e) = leftOf d ++ e := by rw [List.drop_append_of_le_length (full_le d)]; rfl
  rw [this]
  omega
theorem pressN_more (h : List Wo) (d e : List By) : pressN h 0 (d ++ e) (full (d ++ e)) = pressN (pressN h 0 d (full d)) (64 * full d) (leftOf d ++ e) (full (leftOf d ++ e)) := by
  rw [full_append, pressN_drop, pressN_append _ _ _ _ _ (full_le d), List.drop_append_of_le_length (full_le d), Nat.zero_add]
  rfl
/-- A word's four bytes, the lowest ahead. -/
def lowB (x : Wo) : List By := [BitVec.ofNat 8 x.toNat, BitVec.ofNat 8 (x.toNat / 256), BitVec.ofNat 8 (x.toNat / 65536), BitVec.ofNat 8 (x.toNat / 16777216)]
def outB (h : List Wo) : List By := (h.map lowB).flatten
theorem outB_len (h : List Wo) : (outB h).length = 4 * h.length := by
  induction h with
  | nil => rfl
  | cons x t ih => simp only [outB, List.map_cons, List.flatten_cons, List.length_append] at ih ⊢; rw [ih]; simp [lowB]; omega
/-- The last words. -/
def lastW (h0 : List Wo) (d : List By) : List Wo := press (pressN h0 0 d (full d)) (pad (leftOf d)) d.length true
def sumOf (h0 : List Wo) (d : List By) (wide : Nat) : List By := (outB (lastW h0 d)).take wide
theorem lastW_len (h0 : List Wo) (d : List By) : (lastW h0 d).length = h0.length := by rw [lastW, press_len, pressN_len]
theorem sumOf_len (h0 : List Wo) (d : List By) (wide : Nat) (h : h0.length = 8) (hw : wide ≤ 32) : (sumOf h0 d wide).length = wide := by
  rw [sumOf, List.length_take, outB_len, lastW_len, h]; omega
/-- The first words of a hash of this size, with a key of this length. -/
def start (wide klen : Nat) : List Wo := iv.set 0 (iv.getD 0 0#32 ^^^ BitVec.ofNat 32 (16842752 + 256 * klen + wide))
theorem start_len (wide klen : Nat) : (start wide klen).length = 8 := by simp [start, iv]
/-- What is hashed ahead of the bytes. -/
def keyB (key : List By) : List By := if key = [] then [] else pad key
theorem left_full (d : List By) : 64 * full d + (leftOf d).length = d.length := by
  have := full_le d
  unfold leftOf; simp; omega
/-- The sum of a size, with a key. -/
def keyed (wide : Nat) (key b : List By) : List By := sumOf (start wide key.length) (keyB key ++ b) wide
/-- Blocks pressed one after the other, whichever they are. -/
def stepL (D : List By) (st : List Wo × Nat) (x : Nat) : List Wo × Nat := (press st.1 (pad (blockAt D x)) (st.2 + 64) false, st.2 + 64)
def pressL (h : List Wo) (n : Nat) (D : List By) (pre : List Nat) : List Wo × Nat := pre.foldl (stepL D) (h, n)
theorem pressL_snoc (h : List Wo) (n : Nat) (D : List By) (pre : List Nat) (x : Nat) : pressL h n D (pre ++ [x]) = stepL D (pressL h n D pre) x := by
  rw [pressL, List.foldl_append]; rfl
theorem pressL_range (h : List Wo) (n : Nat) (D : List By) (k : Nat) : pressL h n D (List.range k) = (pressN h n D k, n + 64 * k) := by
  induction k with
  | zero => rfl
  | succ k ih => rw [List.range_succ, pressL_snoc, ih, stepL, pressN]; rfl
theorem pressL_n (h : List Wo) (n : Nat) (D : List By) (pre : List Nat) : (pressL h n D pre).2 = n + 64 * pre.length := by
  have : ∀ (pre : List Nat) (st : List Wo × Nat), (pre.foldl (stepL D) st).2 = st.2 + 64 * pre.length := by
    intro pre
    induction pre with
    | nil => intro st; rfl
    | cons x t ih => intro st; rw [List.foldl_cons, ih, stepL, List.length_cons]; show st.2 + 64 + 64 * t.length = _; omega
  exact this pre (h, n)
theorem pressL_len (h : List Wo) (n : Nat) (D : List By) (pre : List Nat) : (pressL h n D pre).1.length = h.length := by
  have : ∀ (pre : List Nat) (st : List Wo × Nat), (pre.foldl (stepL D) st).1.length = st.1.length := by
    intro pre
    induction pre with
    | nil => intro st; rfl
    | cons x t ih => intro st; rw [List.foldl_cons, ih, stepL, press_len]
  exact this pre (h, n)
end Go.Proofs.Yticgknjjhkgggaa
