/- Contracts: the number with which bytes begin, by the document. -/
import Derived.Test.YtlgpoaapmgcloaaWf
namespace Go.Proofs.Ytlgpoaapmgcloaa
open Go.RowKit
set_option linter.unusedSimpArgs false
set_option linter.unusedVariables false
set_option maxRecDepth 100000

theorem w64 (n : Int) (h0 : 0 ≤ n) (h : n ≤ 9223372036854775807) : wrap64 n = n := by unfold wrap64; omega
theorem w64s (a b : Nat) (ha : a < 72057594037927936) (hb : b ≤ 9151314442816847872) : wrap64 ((a : Int) + (b : Int)) = (a : Int) + (b : Int) := w64 _ (by omega) (by omega)
theorem w64m (u x y : Nat) (hy : y = u * (x % 128)) (hb : u * (x % 128) ≤ 72057594037927936 * 127) : wrap64 ((u : Int) * ((x : Int) % 128)) = (y : Int) := by
  have e : (u : Int) * ((x : Int) % 128) = ((u * (x % 128) : Nat) : Int) := by simp
  rw [e, hy]
  exact w64 _ (by omega) (by omega)
end Go.Proofs.Ytlgpoaapmgcloaa

