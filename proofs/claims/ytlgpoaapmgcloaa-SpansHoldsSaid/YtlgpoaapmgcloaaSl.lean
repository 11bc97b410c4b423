/- Slices of bytes that are cut. -/
import Derived.Test.YtlgpoaapmgcloaaBz
namespace Go.Proofs.Ytlgpoaapmgcloaa
open Go.RowKit
set_option linter.unusedSimpArgs false
set_option linter.unusedVariables false
set_option maxRecDepth 100000

theorem slice_run (a : Option Addr) (n c i j : Nat) (hij : i ≤ j) (hjn : j ≤ n) (hnc : n ≤ c) (hnil : a = none → n = 0) :
    ∃ A C, (∀ W, (Instr.sliceAt 23 (.slice a n c) (some (.int .i64 (i : Int))) (some (.int .i64 (j : Int))) none).run Try.prog W = .ok (.slice A (j - i) C) W) ∧ j - i ≤ C ∧ ∀ W l, Bys W a n l → Bys W A (j - i) ((l.drop i).take (j - i)) := by
  have q1 : ¬ (c : Int) < (j : Int) := by omega
  have q2 : ¬ (j : Int) < (i : Int) := by omega
  have q3 : (j : Int) ≤ c := by omega
  have q4 : (i : Int) ≤ j := by omega
  cases a with
  | none =>
    have hn0 := hnil rfl
    obtain rfl : j = 0 := by omega
    obtain rfl : i = 0 := by omega
    refine ⟨none, c, fun W => ?_, by omega, fun W l h => ?_⟩
    · go_simp
    · have := List.eq_nil_of_length_eq_zero (h.1.trans hn0)
      subst this
      exact Bys.nil
  | some x =>
    by_cases hic : c = i
    · obtain rfl : j = i := by omega
      subst hic
      refine ⟨some x, c - c, fun W => ?_, by omega, fun W l h => ?_⟩
      · go_simp
      · refine ⟨by simp, fun k d hk => by simp at hk⟩
    · refine ⟨some (x.add i), c - i, fun W => ?_, by omega, fun W l h => ?_⟩
      · have hcc : c - i ≠ 0 := by omega
        go_simp
      · exact (h.drop i (by omega)).take (j - i) (by omega)
theorem slice_low (a : Option Addr) (n c i : Nat) (hin : i ≤ n) (hnc : n ≤ c) (hnil : a = none → n = 0) :
    ∃ A C, (∀ W, (Instr.sliceAt 23 (.slice a n c) (some (.int .i64 (i : Int))) none none).run Try.prog W = .ok (.slice A (n - i) C) W) ∧ n - i ≤ C ∧ ∀ W l, Bys W a n l → Bys W A (n - i) (l.drop i) := by
  have q1 : ¬ (n : Int) < (i : Int) := by omega
  have q2 : (i : Int) ≤ n := by omega
  cases a with
  | none =>
    have hn0 := hnil rfl
    subst hn0
    obtain rfl : i = 0 := by omega
    refine ⟨none, c, fun W => ?_, by omega, fun W l h => ?_⟩
    · go_simp
    · have := List.eq_nil_of_length_eq_zero h.1
      subst this
      exact Bys.nil
  | some x =>
    by_cases hic : c = i
    · obtain rfl : n = i := by omega
      subst hic
      refine ⟨some x, c - c, fun W => ?_, by omega, fun W l h => ?_⟩
      · go_simp
      · refine ⟨by simp [h.1], fun k d hk => ?_⟩
        have := (List.getElem?_eq_some_iff.1 hk).1
        simp [h.1] at this
    · refine ⟨some (x.add i), c - i, fun W => ?_, by omega, fun W l h => ?_⟩
      · have hcc : c - i ≠ 0 := by omega
        go_simp
      · exact h.drop i (by omega)
end Go.Proofs.Ytlgpoaapmgcloaa

