/- Frames one behind another: plain; rows of parts. -/
import Derived.Test.YtnecoapbpicloaaXa
namespace Go.Proofs.Ytnecoapbpicloaa
open Go.RowKit
set_option linter.unusedSimpArgs false
set_option linter.unusedVariables false
set_option maxRecDepth 100000

/-! ### Plain -/
def partsFrom (k : Nat) (l : List By) : List (Nat × List By) := partsB.go k (cutsB l.length l)
theorem partsB_from (l : List By) : partsB l = partsFrom 0 l := rfl
theorem partsFrom_stop {k : Nat} {l : List By} (h : (splitB l).2.2 ≠ 0 ∨ (splitB l).2.1 = 0) : partsFrom k l = [] := by
  unfold partsFrom
  cases hl : l.length with
  | zero => rfl
  | succ f => unfold cutsB; rw [if_pos h]; rfl
theorem partsFrom_nil (k : Nat) : partsFrom k [] = [] := rfl
theorem partsFrom_more {k : Nat} {l : List By} (h : (splitB l).2.2 = 0) (hn : (splitB l).2.1 ≠ 0) (hl : l ≠ []) :
    partsFrom k l = (k + (splitB l).2.1, (splitB l).1) :: partsFrom (k + (splitB l).2.1) (l.drop (splitB l).2.1) := by
  unfold partsFrom
  cases hf : l.length with
  | zero => exact absurd (List.eq_nil_of_length_eq_zero hf) hl
  | succ f =>
    rw [show cutsB (f + 1) l = ((splitB l).2.1, (splitB l).1) :: cutsB f (l.drop (splitB l).2.1) from by
      conv => lhs; unfold cutsB
      rw [if_neg (by intro e; rcases e with e | e <;> contradiction)]]
    rw [cutsB_more f (l.drop (splitB l).2.1).length _ (by rw [List.length_drop]; omega) (Nat.le_refl _)]
    rfl

/-! ### A row of parts -/
def fcells (fs : List (Nat × Value)) : List Value := fs.flatMap fun f => [.int .i64 (f.1 : Int), f.2]
theorem fcells_len (fs : List (Nat × Value)) : (fcells fs).length = fs.length * 2 := by
  induction fs with
  | nil => rfl
  | cons f t ih => simp [fcells] at ih ⊢; omega
theorem fcells_append (a b : List (Nat × Value)) : fcells (a ++ b) = fcells a ++ fcells b := by simp [fcells]
theorem fcells_at {fs : List (Nat × Value)} {i : Nat} {f : Nat × Value} (h : fs[i]? = some f) : (fcells fs)[i * 2]? = some (.int .i64 (f.1 : Int)) ∧ (fcells fs)[i * 2 + 1]? = some f.2 := by
  induction fs generalizing i with
  | nil => simp at h
  | cons x t ih =>
    cases i with
    | zero =>
      simp at h
      subst h
      exact ⟨rfl, rfl⟩
    | succ i =>
      simp at h
      obtain ⟨h1, h2⟩ := ih h
      have e : fcells (x :: t) = [.int .i64 (x.1 : Int), x.2] ++ fcells t := rfl
      rw [e, List.getElem?_append_right (show [Value.int .i64 (x.1 : Int), x.2].length ≤ (i + 1) * 2 from by simp only [List.length_cons, List.length_nil]; omega), List.getElem?_append_right (show [Value.int .i64 (x.1 : Int), x.2].length ≤ (i + 1) * 2 + 1 from by simp only [List.length_cons, List.length_nil]; omega)]
      exact ⟨by simpa [show (i + 1) * 2 - 2 = i * 2 from by omega] using h1, by simpa [show (i + 1) * 2 + 1 - 2 = i * 2 + 1 from by omega] using h2⟩
def OwnF (w : World) (base : Nat) (v : Value) (fs : List (Nat × Value)) : Prop := w.ownsRow base 73 2 v fs.length (fcells fs)
theorem OwnF.nil (w : World) (base : Nat) : OwnF w base (.slice none 0 0) [] := ⟨rfl, .inl ⟨rfl, rfl⟩⟩
end Go.Proofs.Ytnecoapbpicloaa
