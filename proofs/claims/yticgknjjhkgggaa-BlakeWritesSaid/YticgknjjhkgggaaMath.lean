/- Words of 32 bits: turns, mixing. Plain mathematics. -/
namespace Go.Proofs.Yticgknjjhkgggaa

abbrev Wo := BitVec 32
abbrev By := BitVec 8
/-- A word turned right by n, one after the other. -/
def rot (x : Wo) : Nat → Wo
  | 0 => x
  | n + 1 => (rot x n).rotateRight 1
theorem rot_bit (x : Wo) (n : Nat) : ∀ i, i < 32 → (rot x n).getLsbD i = x.getLsbD ((i + n) % 32) := by
  induction n with
  | zero => intro i hi; rw [rot, Nat.add_zero, Nat.mod_eq_of_lt hi]
  | succ n ih =>
    intro i hi
    rw [rot, BitVec.getLsbD_rotateRight]
    by_cases h : i < 31
    · have h1 : decide (i < 32 - 1 % 32) = true := by simpa using h
      rw [h1, cond_true, ih _ (by omega)]
      congr 1
      omega
    · obtain rfl : i = 31 := by omega
      have h1 : decide (31 < 32 - 1 % 32) = false := by decide
      rw [h1, cond_false, show (31 : Nat) - (32 - 1 % 32) = 0 by decide, ih 0 (by omega)]
      simp
      congr 1
      omega
theorem rot_left (x : Wo) (n : Nat) (h1 : 1 ≤ n) (h2 : n ≤ 31) : x.rotateLeft (32 - n) = rot x n := by
  apply BitVec.eq_of_getLsbD_eq
  intro i hi
  rw [rot_bit _ _ _ hi, BitVec.getLsbD_rotateLeft]
  have hm : (32 - n) % 32 = 32 - n := by omega
  rw [hm]
  by_cases h : i < 32 - n
  · rw [decide_eq_true h, cond_true]
    congr 1
    omega
  · rw [decide_eq_false h, cond_false, decide_eq_true hi, Bool.true_and]
    congr 1
    omega
/-- Four words, mixed with two. -/
structure Quad where
  a : Wo
  b : Wo
  c : Wo
  d : Wo
/-- Half a mixing. -/
def half (q : Quad) (z : Wo) (far near : Nat) : Quad :=
  let a := q.a + q.b + z
  let d := rot (q.d ^^^ a) far
  let c := q.c + d
  let b := rot (q.b ^^^ c) near
  ⟨a, b, c, d⟩
def mix (q : Quad) (x y : Wo) : Quad := half (half q x 16 12) y 8 7
end Go.Proofs.Yticgknjjhkgggaa
