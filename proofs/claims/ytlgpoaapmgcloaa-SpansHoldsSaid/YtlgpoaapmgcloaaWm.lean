/- Numbers as bytes: what is laid, what is taken; readers, frames: plain. -/
import Derived.Test.YtlgpoaapmgcloaaSm
namespace Go.Proofs.Ytlgpoaapmgcloaa

/-- The bytes of a number. -/
def numB (n : Nat) : List By := if n < 128 then [BitVec.ofNat 8 n] else BitVec.ofNat 8 (n % 128 + 128) :: numB (n / 128)
termination_by n
decreasing_by omega
theorem numB_lt {n : Nat} (h : n < 128) : numB n = [BitVec.ofNat 8 n] := by rw [numB, if_pos h]
theorem numB_ge {n : Nat} (h : ¬ n < 128) : numB n = BitVec.ofNat 8 (n % 128 + 128) :: numB (n / 128) := by rw [numB, if_neg h]
theorem numB_pos (n : Nat) : 0 < (numB n).length := by
  by_cases h : n < 128
  · rw [numB_lt h]; simp
  · rw [numB_ge h]; simp
theorem numB_len : ∀ (k n : Nat), n < 128 ^ (k + 1) → (numB n).length ≤ k + 1 := by
  intro k
  induction k with
  | zero => intro n h; rw [numB_lt (by simpa using h)]; simp
  | succ k ih =>
    intro n h
    by_cases h1 : n < 128
    · rw [numB_lt h1]; simp
    · rw [numB_ge h1]
      have := ih (n / 128) (by rw [Nat.div_lt_iff_lt_mul (by decide), ← Nat.pow_succ]; exact h)
      simp; omega
theorem numB_nine {n : Nat} (h : n ≤ 4611686018427387904) : (numB n).length ≤ 9 := numB_len 8 n (by omega)

/-- The number with which bytes begin, from byte i on, n being there so far. -/
def takeGo : List By → Nat → Nat → Nat × Int
  | [], i, _ => (0, if 9 ≤ i then -1 else 0)
  | c :: t, i, n =>
    if 9 ≤ i then (0, -1)
    else if c.toNat < 128 then
      if (0 < i ∧ c.toNat = 0) ∨ 4611686018427387904 < n + c.toNat * 128 ^ i then (0, -1) else (n + c.toNat * 128 ^ i, (i : Int) + 1)
    else takeGo t (i + 1) (n + c.toNat % 128 * 128 ^ i)
def takeB (l : List By) : Nat × Int := takeGo l 0 0
theorem takeGo_nil (i n : Nat) : takeGo [] i n = (0, if 9 ≤ i then -1 else 0) := rfl
theorem takeGo_nine (l : List By) (i n : Nat) (h : 9 ≤ i) : takeGo l i n = (0, -1) := by
  cases l with
  | nil => simp [takeGo, h]
  | cons c t => simp [takeGo, h]
theorem takeGo_on {c : By} (t : List By) {i n : Nat} (h : i < 9) (hc : 128 ≤ c.toNat) : takeGo (c :: t) i n = takeGo t (i + 1) (n + c.toNat % 128 * 128 ^ i) := by
  rw [takeGo, if_neg (by omega), if_neg (by omega)]
theorem takeGo_bad {c : By} (t : List By) {i n : Nat} (h : i < 9) (hc : c.toNat < 128) (hb : (0 < i ∧ c.toNat = 0) ∨ 4611686018427387904 < n + c.toNat * 128 ^ i) : takeGo (c :: t) i n = (0, -1) := by
  rw [takeGo, if_neg (by omega), if_pos hc, if_pos hb]
theorem takeGo_yes {c : By} (t : List By) {i n : Nat} (h : i < 9) (hc : c.toNat < 128) (hb : ¬ ((0 < i ∧ c.toNat = 0) ∨ 4611686018427387904 < n + c.toNat * 128 ^ i)) : takeGo (c :: t) i n = (n + c.toNat * 128 ^ i, (i : Int) + 1) := by
  rw [takeGo, if_neg (by omega), if_pos hc, if_neg hb]
theorem takeGo_bound : ∀ (l : List By) (i n : Nat), (takeGo l i n).2 ≤ ((i + l.length : Nat) : Int) ∧ (takeGo l i n).1 ≤ 4611686018427387904 ∧ -1 ≤ (takeGo l i n).2 ∧ (takeGo l i n).2 ≤ 9 ∧ ((takeGo l i n).2 ≤ 0 → (takeGo l i n).1 = 0) := by
  intro l
  induction l with
  | nil =>
    intro i n
    rw [takeGo_nil]
    split <;> simp <;> omega
  | cons c t ih =>
    intro i n
    by_cases h9 : 9 ≤ i
    · rw [takeGo_nine _ _ _ h9]; simp; omega
    · by_cases hc : c.toNat < 128
      · by_cases hb : (0 < i ∧ c.toNat = 0) ∨ 4611686018427387904 < n + c.toNat * 128 ^ i
        · rw [takeGo_bad t (by omega) hc hb]; simp; omega
        · rw [takeGo_yes t (by omega) hc hb]
          simp only [List.length_cons]
          have := (not_or.1 hb).2
          refine ⟨by omega, by omega, by omega, by omega, fun h => by omega⟩
      · rw [takeGo_on t (by omega) (by omega)]
        have := ih (i + 1) (n + c.toNat % 128 * 128 ^ i)
        simp only [List.length_cons]
        refine ⟨by have := this.1; omega, this.2.1, this.2.2.1, this.2.2.2.1, this.2.2.2.2⟩
theorem takeB_bound (l : List By) : (takeB l).2 ≤ (l.length : Int) ∧ (takeB l).1 ≤ 4611686018427387904 ∧ -1 ≤ (takeB l).2 ∧ (takeB l).2 ≤ 9 ∧ ((takeB l).2 ≤ 0 → (takeB l).1 = 0) := by
  have := takeGo_bound l 0 0
  simpa [takeB] using this

theorem takeGo_num : ∀ (k n i m : Nat) (t : List By), n < 128 ^ (k + 1) → i + k < 9 → (0 < i → 0 < n) → m + n * 128 ^ i ≤ 4611686018427387904 →
    takeGo (numB n ++ t) i m = (m + n * 128 ^ i, ((i + (numB n).length : Nat) : Int)) := by
  intro k
  induction k with
  | zero =>
    intro n i m t hn hi hp hm
    have hn' : n < 128 := by simpa using hn
    rw [numB_lt hn']
    have hc : (BitVec.ofNat 8 n).toNat = n := by simp; omega
    rw [List.cons_append, takeGo_yes _ (by omega) (by omega) (by rw [hc]; omega), hc]
    simp
  | succ k ih =>
    intro n i m t hn hi hp hm
    by_cases h1 : n < 128
    · rw [numB_lt h1]
      have hc : (BitVec.ofNat 8 n).toNat = n := by simp; omega
      rw [List.cons_append, takeGo_yes _ (by omega) (by omega) (by rw [hc]; omega), hc]
      simp
    · rw [numB_ge h1]
      have hc : (BitVec.ofNat 8 (n % 128 + 128)).toNat = n % 128 + 128 := by simp; omega
      rw [List.cons_append, takeGo_on _ (by omega) (by omega), hc]
      have e : m + (n % 128 + 128) % 128 * 128 ^ i + n / 128 * 128 ^ (i + 1) = m + n * 128 ^ i := by
        have h2 : (n % 128 + 128) % 128 = n % 128 := by omega
        rw [h2, Nat.pow_succ, Nat.mul_comm (128 ^ i) 128, ← Nat.mul_assoc, Nat.add_assoc, ← Nat.add_mul]
        congr 2
        omega
      rw [ih (n / 128) (i + 1) _ t (by rw [Nat.div_lt_iff_lt_mul (by decide), ← Nat.pow_succ]; exact hn) (by omega) (fun _ => by omega) (by rw [e]; exact hm), e]
      simp
      omega
theorem takeB_num {n : Nat} (h : n ≤ 4611686018427387904) (t : List By) : takeB (numB n ++ t) = (n, ((numB n).length : Int)) := by
  have := takeGo_num 8 n 0 0 t (by omega) (by omega) (fun h => by omega) (by simpa using h)
  simpa [takeB] using this

/-! ### A reader -/
structure RS where
  l : List By
  e : Int
def RS.fail : RS := ⟨[], 120⟩
def rnum (s : RS) (most : Int) : RS × Nat × Int :=
  if s.e ≠ 0 then (s, 0, s.e)
  else if most < 0 then (s, 0, 2)
  else if (takeB s.l).2 ≤ 0 ∨ most < ((takeB s.l).1 : Int) then (RS.fail, 0, 120)
  else (⟨s.l.drop (takeB s.l).2.toNat, 0⟩, (takeB s.l).1, 0)
def rtext (s : RS) (most : Int) : RS × List By × Int :=
  if (rnum s most).2.2 ≠ 0 then ((rnum s most).1, [], (rnum s most).2.2)
  else if (rnum s most).1.l.length < (rnum s most).2.1 then (RS.fail, [], 120)
  else (⟨(rnum s most).1.l.drop (rnum s most).2.1, 0⟩, (rnum s most).1.l.take (rnum s most).2.1, 0)
def rtruth (s : RS) : RS × Bool × Int :=
  if s.e ≠ 0 then (s, false, s.e)
  else match s.l with
    | [] => (RS.fail, false, 120)
    | c :: t => if 1 < c.toNat then (RS.fail, false, 120) else (⟨t, 0⟩, decide (c.toNat = 1), 0)
def rend (s : RS) : RS × Int := if s.e = 0 ∧ 0 < s.l.length then (RS.fail, 120) else (s, s.e)

/-! ### Frames -/
def frameB (l : List By) : List By := numB (sealB l).length ++ sealB l
/-- The first frame: its body, how many bytes, an error. -/
def splitB (l : List By) : List By × Nat × Int :=
  if (takeB l).2 = 0 then ([], 0, 0)
  else if (takeB l).2 < 0 ∨ (takeB l).1 < 4 ∨ 4100 < (takeB l).1 then ([], 0, 121)
  else if (l.length : Int) - (takeB l).2 < ((takeB l).1 : Int) then ([], 0, 0)
  else if openB ((l.drop (takeB l).2.toNat).take (takeB l).1) then (openL ((l.drop (takeB l).2.toNat).take (takeB l).1), (takeB l).2.toNat + (takeB l).1, 0)
  else ([], 0, 110)
theorem splitB_bound (l : List By) : (splitB l).2.1 ≤ l.length ∧ (splitB l).1.length ≤ 4100 ∧ (0 < (splitB l).2.1 → (splitB l).2.2 = 0) := by
  have hb := takeB_bound l
  unfold splitB
  split
  · simp
  · split
    · simp
    · split
      · simp
      · split
        · rename_i h1 h2 h3 h4
          refine ⟨by simp only; omega, ?_, fun _ => rfl⟩
          simp only [openL, h4, if_true]
          simp only [List.length_take, List.length_drop]
          omega
        · simp
/-- The frames of bytes: how many bytes each has, and its body. -/
def cutsB : Nat → List By → List (Nat × List By)
  | 0, _ => []
  | f + 1, l => if (splitB l).2.2 ≠ 0 ∨ (splitB l).2.1 = 0 then [] else ((splitB l).2.1, (splitB l).1) :: cutsB f (l.drop (splitB l).2.1)
theorem cutsB_more : ∀ (f g : Nat) (l : List By), l.length ≤ f → l.length ≤ g → cutsB f l = cutsB g l := by
  intro f
  induction f with
  | zero =>
    intro g l h _
    have : l = [] := List.eq_nil_of_length_eq_zero (by omega)
    subst this
    cases g with
    | zero => rfl
    | succ g => rfl
  | succ f ih =>
    intro g l hf hg
    cases g with
    | zero =>
      have : l = [] := List.eq_nil_of_length_eq_zero (by omega)
      subst this
      rfl
    | succ g =>
      unfold cutsB
      split
      · rfl
      · rename_i h
        have hn : 0 < (splitB l).2.1 := by omega
        rw [ih g _ (by rw [List.length_drop]; omega) (by rw [List.length_drop]; omega)]
/-- The frames of bytes: up to which byte each goes, and its body. -/
def partsB (l : List By) : List (Nat × List By) := go 0 (cutsB l.length l) where
  go : Nat → List (Nat × List By) → List (Nat × List By)
    | _, [] => []
    | at0, x :: t => (at0 + x.1, x.2) :: go (at0 + x.1) t
end Go.Proofs.Ytlgpoaapmgcloaa

