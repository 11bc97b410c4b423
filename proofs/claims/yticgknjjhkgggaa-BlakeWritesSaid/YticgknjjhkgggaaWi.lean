/- Contracts: the reference's orders and places. -/
import Derived.Test.YticgknjjhkgggaaWg
namespace Go.Proofs.Yticgknjjhkgggaa
open Go.RowKit
set_option linter.unusedSimpArgs false
set_option linter.unusedVariables false

theorem info68 : (Try.prog.info? 68).map (·.size) = some 16 := by kernel_rfl
set_option maxHeartbeats 4000000 in
theorem order_c (n : Nat) (w : World) (hn : n < 10) :
    Calls Try.prog 34 #[.int .i64 (n : Int)] w fun e w' => e = .returned (.agg (ints (ordN.getD n []))) ∧ Below w.heap.size w w' := by
  have h10 : n = 0 ∨ n = 1 ∨ n = 2 ∨ n = 3 ∨ n = 4 ∨ n = 5 ∨ n = 6 ∨ n = 7 ∨ n = 8 ∨ n = 9 := by omega
  clear hn
  rcases h10 with rfl | rfl | rfl | rfl | rfl | rfl | rfl | rfl | rfl | rfl
  all_goals
    go_enter Try.func34, Try.ntmps34
    go_wp2_with (refine wpl_store_blk rfl 68 _ _ rfl w.heap.size 68 _ _ rfl rfl (Blk.new w 68 _) rfl (by kernel_rfl) (by kernel_rfl) ?_; intro w6 hB6 hO6 hz6)
    refine bodyPost_ret (results_cell_row rfl _ _ w.heap.size 68 _ (0, 0) _ rfl hB6 Try.underlying68 rfl (by kernel_rfl)) rfl ⟨?_, ((Below.refl w.heap.size w).alloc (Nat.le_refl _) _).trans (hO6.below (B := w.heap.size) (by simp) (Nat.le_refl _))⟩
    kernel_rfl
/-- The places of a mixing, as the reference has them. -/
def placesN (k : Nat) : List Nat := [k % 4, 4 + (k % 4 + k / 4) % 4, 8 + (k % 4 + 2 * (k / 4)) % 4, 12 + (k % 4 + 3 * (k / 4)) % 4]
set_option maxHeartbeats 4000000 in
theorem places_c (n : Nat) (w : World) (hn : n < 8) :
    Calls Try.prog 35 #[.int .i64 (n : Int)] w fun e w' => e = .returned (.agg (ints (placesN n))) ∧ Below w.heap.size w w' := by
  have h10 : n = 0 ∨ n = 1 ∨ n = 2 ∨ n = 3 ∨ n = 4 ∨ n = 5 ∨ n = 6 ∨ n = 7 := by omega
  clear hn
  rcases h10 with rfl | rfl | rfl | rfl | rfl | rfl | rfl | rfl
  all_goals
    go_enter Try.func35, Try.ntmps35
    go_wp2_with (refine wpl_store_blk rfl 72 _ _ rfl w.heap.size 72 _ _ rfl rfl (Blk.new w 72 _) rfl (by kernel_rfl) (by kernel_rfl) ?_; intro w6 hB6 hO6 hz6)
    refine bodyPost_ret (results_cell_row rfl _ _ w.heap.size 72 _ (0, 0) _ rfl hB6 Try.underlying72 rfl (by kernel_rfl)) rfl ⟨?_, ((Below.refl w.heap.size w).alloc (Nat.le_refl _) _).trans (hO6.below (B := w.heap.size) (by simp) (Nat.le_refl _))⟩
    kernel_rfl
end Go.Proofs.Yticgknjjhkgggaa
