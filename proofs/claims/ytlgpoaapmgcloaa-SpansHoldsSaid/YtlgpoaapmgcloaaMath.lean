/- The ring in which sums are made: words of 32 bits, times x, products, powers. Plain mathematics: no program. -/
namespace Go.Proofs.Ytlgpoaapmgcloaa

abbrev Wo := BitVec 32
abbrev By := BitVec 8
def poly : Wo := 0xedb88320#32
def one : Wo := 0x80000000#32
/-- A word by x. -/
def tx (x : Wo) : Wo := (x >>> 1) ^^^ (if x.getLsbD 0 then poly else 0#32)
def txn : Nat → Wo → Wo
  | 0, x => x
  | n + 1, x => txn n (tx x)

theorem txn_succ (n : Nat) : ∀ x : Wo, txn (n + 1) x = tx (txn n x) := by
  induction n with
  | zero => intro x; rfl
  | succ n ih => intro x; rw [txn, ih (tx x), txn]
theorem txn_add (m n : Nat) (x : Wo) : txn (m + n) x = txn m (txn n x) := by
  induction m with
  | zero => simp [txn]
  | succ m ih => rw [Nat.add_right_comm, txn_succ, ih, txn_succ]

theorem tx_xor (x y : Wo) : tx (x ^^^ y) = tx x ^^^ tx y := by
  unfold tx
  rw [BitVec.getLsbD_xor]
  rw [BitVec.ushiftRight_xor_distrib]
  have e : ∀ p q r s : Wo, (p ^^^ q) ^^^ (r ^^^ s) = (p ^^^ r) ^^^ (q ^^^ s) := fun p q r s => by ac_rfl
  rw [e (x >>> 1)]
  congr 1
  cases x.getLsbD 0 <;> cases y.getLsbD 0 <;> simp
theorem tx_zero : tx 0#32 = 0#32 := by decide
theorem txn_xor (n : Nat) (x y : Wo) : txn n (x ^^^ y) = txn n x ^^^ txn n y := by
  induction n generalizing x y with
  | zero => rfl
  | succ n ih => rw [txn, tx_xor, ih]; rfl
theorem txn_zero (n : Nat) : txn n 0#32 = 0#32 := by
  induction n with
  | zero => rfl
  | succ n ih => rw [txn, tx_zero, ih]

/-- The product's first k rounds. -/
def mulTo (a b : Wo) : Nat → Wo
  | 0 => 0#32
  | k + 1 => mulTo a b k ^^^ (if a.getMsbD k then txn k b else 0#32)
def mul (a b : Wo) : Wo := mulTo a b 32

theorem xor4 (a b c d : Wo) : (a ^^^ b) ^^^ (c ^^^ d) = (a ^^^ c) ^^^ (b ^^^ d) := by
  ac_rfl

theorem mulTo_tx (a b : Wo) (k : Nat) : mulTo a (tx b) k = tx (mulTo a b k) := by
  induction k with
  | zero => simp [mulTo, tx_zero]
  | succ k ih =>
    rw [mulTo, mulTo, tx_xor, ih]
    cases a.getMsbD k
    · simp [tx_zero]
    · simp only [if_true]; rw [← txn_succ, txn]
theorem mulTo_xor_right (a b c : Wo) (k : Nat) : mulTo a (b ^^^ c) k = mulTo a b k ^^^ mulTo a c k := by
  induction k with
  | zero => simp [mulTo]
  | succ k ih =>
    rw [mulTo, mulTo, mulTo, ih, xor4]
    cases a.getMsbD k
    · simp
    · simp only [if_true]; rw [txn_xor]
theorem mulTo_xor_left (a b c : Wo) (k : Nat) (hk : k ≤ 32) : mulTo (a ^^^ b) c k = mulTo a c k ^^^ mulTo b c k := by
  induction k with
  | zero => simp [mulTo]
  | succ k ih =>
    rw [mulTo, mulTo, mulTo, ih (by omega), xor4, BitVec.getMsbD_xor]
    cases a.getMsbD k <;> cases b.getMsbD k <;> simp
theorem mul_tx (a b : Wo) : mul a (tx b) = tx (mul a b) := mulTo_tx a b 32
theorem mul_txn (a b : Wo) (n : Nat) : mul a (txn n b) = txn n (mul a b) := by
  induction n generalizing b with
  | zero => rfl
  | succ n ih => rw [txn, ih, mul_tx]; rfl
theorem mul_xor_right (a b c : Wo) : mul a (b ^^^ c) = mul a b ^^^ mul a c := mulTo_xor_right a b c 32
theorem mul_xor_left (a b c : Wo) : mul (a ^^^ b) c = mul a c ^^^ mul b c := mulTo_xor_left a b c 32 (Nat.le_refl _)
theorem mul_zero_right (a : Wo) : mul a 0#32 = 0#32 := by
  have h : ∀ k, mulTo a 0#32 k = 0#32 := by
    intro k
    induction k with
    | zero => rfl
    | succ k ih => rw [mulTo, ih, txn_zero]; simp
  exact h 32
theorem mul_zero_left (b : Wo) : mul 0#32 b = 0#32 := by
  have h : ∀ k, mulTo 0#32 b k = 0#32 := by
    intro k
    induction k with
    | zero => rfl
    | succ k ih => rw [mulTo, ih]; simp
  exact h 32

theorem one_bits : ∀ i, i < 32 → ∀ j, j < 32 → (txn i one).getMsbD j = decide (i = j) := by decide +kernel
theorem mulTo_one (a : Wo) (k : Nat) (hk : k ≤ 32) : ∀ j, j < 32 → (mulTo a one k).getMsbD j = (decide (j < k) && a.getMsbD j) := by
  induction k with
  | zero => intro j hj; simp [mulTo]
  | succ k ih =>
    intro j hj
    rw [mulTo, BitVec.getMsbD_xor, ih (by omega) j hj]
    by_cases e : k = j
    · subst e
      cases ha : a.getMsbD k
      · simp
      · simp [one_bits k hj k hj]
    · cases ha : a.getMsbD k
      · have : (decide (j < k + 1)) = decide (j < k) := by simp; omega
        simp [this]
      · have : (decide (j < k + 1)) = decide (j < k) := by simp; omega
        simp [this, one_bits k (by omega) j hj, e]
theorem mul_one (a : Wo) : mul a one = a := by
  apply BitVec.eq_of_getMsbD_eq
  intro i hi
  have := mulTo_one a 32 (Nat.le_refl _) i hi
  rw [mul, this]
  simp [hi]

/-- What goes over xor goes over products' rounds. -/
theorem lin_mulTo (f : Wo → Wo) (h0 : f 0#32 = 0#32) (hx : ∀ x y, f (x ^^^ y) = f x ^^^ f y) (a b : Wo) (k : Nat) :
    f (mulTo a b k) = (List.range k).foldl (fun acc i => acc ^^^ (if a.getMsbD i then f (txn i b) else 0#32)) 0#32 := by
  induction k with
  | zero => simpa [mulTo] using h0
  | succ k ih =>
    rw [mulTo, hx, ih, List.range_succ, List.foldl_append]
    simp only [List.foldl_cons, List.foldl_nil]
    congr 1
    cases a.getMsbD k
    · simpa using h0
    · rfl
theorem mulTo_fold (a b : Wo) (k : Nat) : mulTo a b k = (List.range k).foldl (fun acc i => acc ^^^ (if a.getMsbD i then txn i b else 0#32)) 0#32 :=
  lin_mulTo (fun x => x) rfl (fun _ _ => rfl) a b k

theorem mul_comm (a b : Wo) : mul a b = mul b a := by
  have h : mul b (mul a one) = mul a b := by
    show mul b (mulTo a one 32) = mulTo a b 32
    rw [lin_mulTo (mul b) (mul_zero_right b) (mul_xor_right b) a one 32, mulTo_fold]
    have e : ∀ i, mul b (txn i one) = txn i b := fun i => by rw [mul_txn, mul_one]
    simp only [e]
  rw [mul_one] at h
  exact h.symm
theorem mul_assoc (a b c : Wo) : mul a (mul b c) = mul (mul a b) c := by
  show mulTo a (mul b c) 32 = mul (mulTo a b 32) c
  rw [lin_mulTo (fun x => mul x c) (mul_zero_left c) (fun x y => mul_xor_left x y c) a b 32, mulTo_fold]
  have e : ∀ i, txn i (mul b c) = mul (txn i b) c := fun i => by rw [mul_comm (txn i b) c, mul_txn, mul_comm c b]
  simp only [e]

/-- x to the n. -/
def xpow (n : Nat) : Wo := txn n one
theorem mul_xpow (a : Wo) (n : Nat) : mul a (xpow n) = txn n a := by rw [xpow, mul_txn, mul_one]
theorem xpow_add (m n : Nat) : mul (xpow m) (xpow n) = xpow (m + n) := by
  rw [mul_xpow, xpow, xpow, ← txn_add, Nat.add_comm]
theorem xpow_zero : xpow 0 = one := rfl
theorem xpow_one : xpow 1 = 0x40000000#32 := by decide +kernel

/-! ### Bytes -/
def stepB (x : Wo) (c : BitVec 8) : Wo := txn 8 (x ^^^ c.setWidth 32)
def run (x : Wo) (l : List (BitVec 8)) : Wo := l.foldl stepB x
def sumB (l : List (BitVec 8)) : Wo := ~~~ (run (~~~ 0#32) l)
def moreB (s : Wo) (l : List (BitVec 8)) : Wo := ~~~ (run (~~~ s) l)
theorem sum_more (l : List (BitVec 8)) : sumB l = moreB 0#32 l := rfl
theorem run_append (x : Wo) (a b : List (BitVec 8)) : run x (a ++ b) = run (run x a) b := by simp [run, List.foldl_append]
theorem more_append (s : Wo) (a b : List (BitVec 8)) : moreB (moreB s a) b = moreB s (a ++ b) := by simp [moreB, run_append]
theorem step_xor (x y : Wo) (c : BitVec 8) : stepB (x ^^^ y) c = stepB x c ^^^ txn 8 y := by
  unfold stepB
  rw [BitVec.xor_assoc, BitVec.xor_comm y, ← BitVec.xor_assoc, txn_xor]
theorem run_xor (x y : Wo) (l : List (BitVec 8)) : run (x ^^^ y) l = run x l ^^^ txn (8 * l.length) y := by
  induction l generalizing x y with
  | nil => simp [run, txn]
  | cons c l ih =>
    show run (stepB (x ^^^ y) c) l = run (stepB x c) l ^^^ _
    rw [step_xor, ih, ← txn_add]
    congr 2
def joinB (a b : Wo) (n : Nat) : Wo := mul a (xpow (8 * n)) ^^^ b
theorem not_eq (x : Wo) : ~~~ x = (~~~ 0#32) ^^^ x := by
  have h : (~~~ 0#32 : Wo) = BitVec.allOnes 32 := by decide
  rw [h, BitVec.allOnes_xor]
theorem join_sum (a b : List (BitVec 8)) : joinB (sumB a) (sumB b) b.length = sumB (a ++ b) := by
  unfold joinB
  rw [mul_xpow]
  show _ = ~~~ (run (~~~ 0#32) (a ++ b))
  rw [run_append]
  have h : run (~~~ 0#32) a = (~~~ 0#32) ^^^ sumB a := by
    rw [← not_eq, sumB, BitVec.not_not]
  rw [h, run_xor]
  show _ ^^^ ~~~ (run (~~~ 0#32) b) = _
  rw [not_eq (run (~~~ 0#32) b), not_eq (_ ^^^ _)]
  ac_rfl
end Go.Proofs.Ytlgpoaapmgcloaa

