/- The walks of the laws of words and bytes. -/
import Derived.Test.YtodjbgcmlpmknaaWn
namespace Go.Proofs.Ytodjbgcmlpmknaa
open Go.RowKit

theorem wf_i64 {n : Int} (h : (Lit.int .i64 n).wf = true) : -9223372036854775808 ≤ n ∧ n ≤ 9223372036854775807 := by
  simpa [Lit.wf, IntKind.min, IntKind.max, IntKind.signed, IntKind.bits] using h

set_option maxHeartbeats 2000000 in
theorem more_walk (s : Wo) (a : Option Addr) (n c : Nat) (l : List By) (w : World) (h : Bys w a n l) :
    Calls Try.prog 5 #[.int .u32 (s.toNat : Int), .slice a n c] w fun e w' => e = .returned (.bool true) ∧ Below w.heap.size w w' := by
  have H := Lib.hid h; clear h
  by_cases hn : 1000 < n
  · go_enter Try.func5, Try.ntmps5
    go_wp2_with fail
    refine (works_c _).mono ?_
    rintro e w4 ⟨rfl, B4⟩
    go_wp2_with fail
    go_ret
    exact ⟨rfl, B4⟩
  · go_enter Try.func5, Try.ntmps5
    go_wp2_with fail
    refine (more_c s a n c l _ H.out (by omega)).mono ?_
    rintro e w1 ⟨rfl, B1⟩
    have HB1 := Lib.hid B1; clear B1
    go_wp2_with fail
    refine (rmore_c s a n c l _ (H.out.below HB1.out) (by omega)).mono ?_
    rintro e w2 ⟨rfl, rfl⟩
    go_wp2_with fail
    refine (works_c _).mono ?_
    rintro e w4 ⟨rfl, B4⟩
    go_wp2_with fail
    go_ret
    exact ⟨rfl, HB1.out.trans (B4.mono HB1.out.size)⟩

set_option maxRecDepth 100000 in
set_option maxHeartbeats 2000000 in
theorem powers_walk (n : Int) (a b : Wo) (w : World) : Calls Try.prog 11 #[.int .i64 n, .int .u32 (a.toNat : Int), .int .u32 (b.toNat : Int)] w fun e w' => e = .returned (.bool true) ∧ Below w.heap.size w w' := by
  cases hr : rightB n
  · have HR := Lib.hid hr
    clear hr
    go_enter Try.func11, Try.ntmps11
    go_wp2_with fail
    refine (Power_no n _ HR.out).mono ?_
    rintro e w' ⟨rfl, rfl⟩
    go_wp2_with fail
    refine (Join_no _ _ n _ HR.out).mono ?_
    rintro e w' ⟨rfl, rfl⟩
    go_wp2_with fail
    refine (right_c n _).mono ?_
    rintro e w' ⟨rfl, rfl⟩
    rw [HR.out]
    go_wp2_with fail
    refine (num_c _ _).mono ?_; rintro e w' ⟨rfl, rfl⟩
    go_wp2_with fail
    refine (num_c _ _).mono ?_; rintro e w' ⟨rfl, rfl⟩
    go_wp2_with fail
    refine (works_c _).mono ?_
    rintro e w4 ⟨rfl, B4⟩
    go_wp2_with fail
    go_ret
    exact ⟨rfl, B4⟩
  · have h' : 0 ≤ n ∧ n ≤ 1099511627776 := by simpa [rightB] using hr
    obtain ⟨N, rfl⟩ : ∃ M : Nat, n = M := ⟨n.toNat, by omega⟩
    have HR := Lib.hid hr
    have hN : N ≤ 1099511627776 := by omega
    obtain ⟨J, hJ⟩ : ∃ J : Int, J = ((joinB a b N).toNat : Int) := ⟨_, rfl⟩
    obtain ⟨P, hP⟩ : ∃ A : Int, A = ((xpow N).toNat : Int) := ⟨_, rfl⟩
    have HJ := Lib.hid hJ; have HP := Lib.hid hP
    clear hr hJ hP h'
    go_enter Try.func11, Try.ntmps11
    go_wp2_with fail
    refine (Power_yes N _ hN).mono ?_
    rw [← HP.out]
    rintro e w1 ⟨rfl, B1⟩
    have HB1 := Lib.hid B1; clear B1
    go_wp2_with fail
    refine (Join_yes a b N _ hN).mono ?_
    rw [← HJ.out]
    rintro e w2 ⟨rfl, b2⟩
    have HB2 := Lib.hid (HB1.out.trans (b2.mono HB1.out.size)); clear HB1 b2
    go_wp2_with fail
    refine (right_c _ _).mono ?_
    rintro e w' ⟨rfl, rfl⟩
    rw [HR.out]
    go_wp2_with fail
    refine (rpower_c N (by omega) _).mono ?_
    rw [← HP.out]
    rintro e w' ⟨rfl, rfl⟩
    go_wp2_with fail
    refine (rjoin_c a b N _ hN).mono ?_
    rw [← HJ.out]
    rintro e w' ⟨rfl, rfl⟩
    go_wp2_with fail
    refine (num_c _ _).mono ?_; rintro e w' ⟨rfl, rfl⟩
    go_wp2_with fail
    refine (num_c _ _).mono ?_; rintro e w' ⟨rfl, rfl⟩
    go_wp2_with fail
    refine (works_c _).mono ?_
    rintro e w4 ⟨rfl, B4⟩
    go_wp2_with fail
    go_ret
    exact ⟨rfl, HB2.out.trans (B4.mono HB2.out.size)⟩
end Go.Proofs.Ytodjbgcmlpmknaa
