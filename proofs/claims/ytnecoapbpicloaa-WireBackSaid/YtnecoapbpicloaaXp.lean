/- What an iterator over frames gives: plain. -/
import Derived.Test.YtnecoapbpicloaaXo
namespace Go.Proofs.Ytnecoapbpicloaa
open Go.RowKit Go.Shelf
set_option linter.unusedSimpArgs false
set_option linter.unusedVariables false

/-- What the inner iterator gives: the frames' bytes and bodies; behind them, if no error, 0. -/
def givB : Nat → List By → List (Nat × List By)
  | 0, l => [((splitB l).2.1, (splitB l).1)]
  | f + 1, l => if (splitB l).2.2 ≠ 0 then [] else ((splitB l).2.1, (splitB l).1) :: (if (splitB l).2.1 = 0 then [] else givB f (l.drop (splitB l).2.1))
theorem givB_more : ∀ (f g : Nat) (l : List By), l.length ≤ f → l.length ≤ g → givB f l = givB g l := by
  intro f
  induction f with
  | zero =>
    intro g l h _
    have : l = [] := List.eq_nil_of_length_eq_zero (by omega)
    subst this
    cases g with
    | zero => rfl
    | succ g => simp [givB, split0]
  | succ f ih =>
    intro g l hf hg
    cases g with
    | zero =>
      have : l = [] := List.eq_nil_of_length_eq_zero (by omega)
      subst this
      simp [givB, split0]
    | succ g =>
      unfold givB
      split
      · rfl
      · split
        · rfl
        · rename_i h1 h2
          rw [ih g _ (by rw [List.length_drop]; omega) (by rw [List.length_drop]; omega)]
def givesB (l : List By) : List (Nat × List By) := givB l.length l
theorem givesB_err {l : List By} (h : (splitB l).2.2 ≠ 0) : givesB l = [] := by
  unfold givesB
  cases hl : l.length with
  | zero =>
    have : l = [] := List.eq_nil_of_length_eq_zero hl
    subst this
    simp [split0] at h
  | succ f => unfold givB; rw [if_pos h]
theorem givesB_stop {l : List By} (h : (splitB l).2.2 = 0) (h0 : (splitB l).2.1 = 0) : givesB l = [((splitB l).2.1, (splitB l).1)] := by
  unfold givesB
  cases hl : l.length with
  | zero => rfl
  | succ f => unfold givB; rw [if_neg (by simp [h]), if_pos h0]
theorem givesB_more {l : List By} (h : (splitB l).2.2 = 0) (h0 : (splitB l).2.1 ≠ 0) : givesB l = ((splitB l).2.1, (splitB l).1) :: givesB (l.drop (splitB l).2.1) := by
  have hb := (splitB_bound l).1
  unfold givesB
  cases hl : l.length with
  | zero =>
    have : l = [] := List.eq_nil_of_length_eq_zero hl
    subst this
    simp [split0] at h0
  | succ f =>
    conv => lhs; unfold givB
    rw [if_neg (by simp [h]), if_neg h0]
    rw [givB_more f (l.drop (splitB l).2.1).length _ (by rw [List.length_drop]; omega) (Nat.le_refl _)]
/-- Up to where k of them go. -/
def atB (ps : List (Nat × List By)) (k : Nat) : Nat := ((ps.take k).map (·.1)).sum
theorem atB_succ {ps : List (Nat × List By)} {k : Nat} {q : Nat × List By} (h : ps[k]? = some q) : atB ps (k + 1) = atB ps k + q.1 := by
  unfold atB
  rw [List.take_add_one, h]
  simp
theorem atB_cons (q : Nat × List By) (ps : List (Nat × List By)) (k : Nat) : atB (q :: ps) (k + 1) = q.1 + atB ps k := by simp [atB]
theorem gives_facts : ∀ (m : Nat) (l : List By), l.length = m → (∀ k, atB (givesB l) k ≤ l.length) ∧ (∀ off, (partsFrom off l).length ≤ (givesB l).length) ∧ ∀ (off k : Nat) (q : Nat × List By), (givesB l)[k]? = some q → (q.1 ≠ 0 → (partsFrom off l)[k]? = some (off + atB (givesB l) (k + 1), q.2)) ∧ (q.1 = 0 → (partsFrom off l).length = k) := by
  intro m
  induction m using Nat.strongRecOn with
  | _ m ih =>
    intro l hl
    have hb := (splitB_bound l).1
    by_cases he : (splitB l).2.2 = 0
    · by_cases hd : (splitB l).2.1 = 0
      · have hp : ∀ off, partsFrom off l = [] := fun off => partsFrom_stop (.inr hd)
        rw [givesB_stop he hd]
        refine ⟨fun k => ?_, fun off => by rw [hp]; simp, fun off k q hq => ?_⟩
        · cases k with
          | zero => simp [atB]
          | succ k => rw [atB_cons]; simp [atB]; omega
        · rw [hp]
          cases k with
          | zero =>
            simp at hq
            subst hq
            exact ⟨fun h => absurd hd h, fun _ => rfl⟩
          | succ k => simp at hq
      · have hne : l ≠ [] := by intro e; rw [e] at hd; simp [split0] at hd
        have hlt : (l.drop (splitB l).2.1).length < m := by
          rw [List.length_drop]
          have : 0 < l.length := List.length_pos_iff.2 hne
          omega
        obtain ⟨i1, i2, i3⟩ := ih _ hlt (l.drop (splitB l).2.1) rfl
        have hp : ∀ off, partsFrom off l = (off + (splitB l).2.1, (splitB l).1) :: partsFrom (off + (splitB l).2.1) (l.drop (splitB l).2.1) := fun off => partsFrom_more he hd hne
        rw [givesB_more he hd]
        refine ⟨fun k => ?_, fun off => by rw [hp]; simp; exact i2 _, fun off k q hq => ?_⟩
        · cases k with
          | zero => simp [atB]
          | succ k => rw [atB_cons]; have := i1 k; rw [List.length_drop] at this; simp only; omega
        · rw [hp]
          cases k with
          | zero =>
            simp at hq
            subst hq
            exact ⟨fun h => by simp [atB], fun h => absurd h hd⟩
          | succ k =>
            rw [List.getElem?_cons_succ] at hq
            obtain ⟨j1, j2⟩ := i3 (off + (splitB l).2.1) k q hq
            refine ⟨fun h => ?_, fun h => ?_⟩
            · rw [List.getElem?_cons_succ, j1 h, atB_cons]
              simp only [Option.some.injEq, Prod.mk.injEq, and_true]
              omega
            · rw [List.length_cons, j2 h]
    · have hp : ∀ off, partsFrom off l = [] := fun off => partsFrom_stop (.inl he)
      rw [givesB_err he]
      exact ⟨fun k => by simp [atB], fun off => by rw [hp]; simp, fun off k q hq => by simp at hq⟩
theorem atB_le (l : List By) (k : Nat) : atB (givesB l) k ≤ l.length := (gives_facts _ l rfl).1 k
theorem parts_le (l : List By) : (partsB l).length ≤ (givesB l).length := (gives_facts _ l rfl).2.1 0
theorem parts_at {l : List By} {k : Nat} {q : Nat × List By} (h : (givesB l)[k]? = some q) (h0 : q.1 ≠ 0) : (partsB l)[k]? = some (atB (givesB l) (k + 1), q.2) := by
  have := ((gives_facts _ l rfl).2.2 0 k q h).1 h0
  rwa [Nat.zero_add] at this
theorem parts_end {l : List By} {k : Nat} {q : Nat × List By} (h : (givesB l)[k]? = some q) (h0 : q.1 = 0) : (partsB l).length = k := ((gives_facts _ l rfl).2.2 0 k q h).2 h0
end Go.Proofs.Ytnecoapbpicloaa
