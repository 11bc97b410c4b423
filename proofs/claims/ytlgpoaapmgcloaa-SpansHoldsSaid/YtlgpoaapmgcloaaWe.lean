/- Contracts: a writer, the rest. -/
import Derived.Test.YtlgpoaapmgcloaaWd
namespace Go.Proofs.Ytlgpoaapmgcloaa
open Go.RowKit
set_option linter.unusedSimpArgs false
set_option linter.unusedVariables false
set_option maxRecDepth 100000

theorem wnumber_bad (p : Nat) (v : Value) (l : List By) (a : Option Addr) (n c : Nat) (zs : List Int) (w : World) (h : IsWr w p v l) (hi : I64s w a n zs) (hn : n ≤ 1000000) (ho : okN zs = false) :
    Calls Try.prog 28 #[.pointer (some ⟨p, 0, none⟩), .slice a n c] w fun e w' => e = .returned (.int .i64 2) ∧ w = w' := by
  have H := Lib.hid h; have HI := Lib.hid hi; have HO := Lib.hid ho
  clear h hi ho
  go_enter Try.func28, Try.ntmps28
  go_wp2_with fail
  refine (wnone_no p v l _ H.out).mono ?_
  rintro e w' ⟨rfl, rfl⟩
  go_wp2_with fail
  refine (contains_c a n c zs _ HI.out hn).mono ?_
  rintro e w' ⟨rfl, rfl⟩
  rw [HO.out]
  go_wp2_with fail
  go_ret
  exact ⟨rfl, rfl⟩
theorem wnumber_none (v : Option Addr) (a : Option Addr) (n c : Nat) (w : World) (h : NoWr w v) :
    Calls Try.prog 28 #[.pointer v, .slice a n c] w fun e w' => e = .returned (.int .i64 1) ∧ w = w' := by
  go_enter Try.func28, Try.ntmps28
  go_wp2_with fail
  refine (wnone_yes v _ h).mono ?_
  rintro e w' ⟨rfl, rfl⟩
  go_wp2_with fail
  go_ret
  exact ⟨rfl, rfl⟩

/-! ### Text -/
def textB (l : List By) : List By := numB l.length ++ l
/-! ### Truth -/
def truthB (b : Bool) : List By := [if b then 1 else 0]
theorem truth_num (b : Bool) : numB (if b then 1 else 0) = truthB b := by cases b <;> rw [numB_lt (by decide)] <;> rfl
/-! ### All -/
set_option maxHeartbeats 1000000 in
theorem wall_c (p : Nat) (v : Value) (l : List By) (w : World) (h : IsWr w p v l) (hl : l.length ≤ 1000000000) :
    Calls Try.prog 29 #[.pointer (some ⟨p, 0, none⟩)] w fun e w' => ∃ r, e = .returned r ∧ OwnB w' w.heap.size r l ∧ Below w.heap.size w w' := by
  have H := Lib.hid h
  clear h
  have c0 := H.out.c0
  obtain ⟨a, c, hv, hc, hy⟩ := H.out.2.bys
  have HY := Lib.hid hy; clear hy
  subst hv
  go_enter Try.func29, Try.ntmps29
  go_wp2_with fail
  refine (wnone_no p _ l _ H.out).mono ?_
  rintro e w' ⟨rfl, rfl⟩
  go_wp2_with fail
  refine (clone_c a _ c l _ HY.out hl).mono ?_
  rintro e w2 ⟨r, rfl, ho, hb⟩
  have HO := Lib.hid ho; have HB := Lib.hid hb
  clear ho hb
  go_wp2_with fail
  go_ret
  exact ⟨r, rfl, HO.out, HB.out⟩
theorem wall_none (v : Option Addr) (w : World) (h : NoWr w v) :
    Calls Try.prog 29 #[.pointer v] w fun e w' => e = .returned (.slice none 0 0) ∧ w = w' := by
  go_enter Try.func29, Try.ntmps29
  go_wp2_with fail
  refine (wnone_yes v _ h).mono ?_
  rintro e w' ⟨rfl, rfl⟩
  go_wp2_with fail
  go_ret
  exact ⟨rfl, rfl⟩
end Go.Proofs.Ytlgpoaapmgcloaa

