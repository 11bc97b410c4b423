/- Contracts: the first words, the orders. -/
import Derived.Test.YticgknjjhkgggaaWd
namespace Go.Proofs.Yticgknjjhkgggaa
open Go.RowKit

def iv : List Wo := [0x6a09e667#32, 0xbb67ae85#32, 0x3c6ef372#32, 0xa54ff53a#32, 0x510e527f#32, 0x9b05688c#32, 0x1f83d9ab#32, 0x5be0cd19#32]
theorem info27 : (Try.prog.info? 27).map (·.size) = some 8 := by kernel_rfl
theorem iv_cells : ws iv = #[.int .u32 1779033703, .int .u32 3144134277, .int .u32 1013904242, .int .u32 2773480762, .int .u32 1359893119, .int .u32 2600822924, .int .u32 528734635, .int .u32 1541459225] := by kernel_rfl
set_option maxHeartbeats 800000 in
theorem first_c (w : World) : Calls Try.prog 30 #[] w fun e w' => e = .returned (.agg (ws iv)) ∧ Below w.heap.size w w' := by
  go_enter Try.func30, Try.ntmps30
  go_wp2_with (refine wpl_store_blk rfl 27 _ _ rfl w.heap.size 27 _ _ rfl rfl (Blk.new w 27 _) rfl (by kernel_rfl) (by kernel_rfl) ?_; intro w6 hB6 hO6 hz6)
  refine bodyPost_ret (results_cell_row rfl _ _ w.heap.size 27 _ (0, 0) _ rfl hB6 Try.underlying27 rfl (by kernel_rfl)) rfl ⟨?_, ((Below.refl w.heap.size w).alloc (Nat.le_refl _) _).trans (hO6.below (B := w.heap.size) (by simp) (Nat.le_refl _))⟩
  rw [iv_cells]
set_option maxHeartbeats 800000 in
theorem rfirst_c (w : World) : Calls Try.prog 33 #[] w fun e w' => e = .returned (.agg (ws iv)) ∧ Below w.heap.size w w' := by
  go_enter Try.func33, Try.ntmps33
  go_wp2_with (refine wpl_store_blk rfl 27 _ _ rfl w.heap.size 27 _ _ rfl rfl (Blk.new w 27 _) rfl (by kernel_rfl) (by kernel_rfl) ?_; intro w6 hB6 hO6 hz6)
  refine bodyPost_ret (results_cell_row rfl _ _ w.heap.size 27 _ (0, 0) _ rfl hB6 Try.underlying27 rfl (by kernel_rfl)) rfl ⟨?_, ((Below.refl w.heap.size w).alloc (Nat.le_refl _) _).trans (hO6.below (B := w.heap.size) (by simp) (Nat.le_refl _))⟩
  rw [iv_cells]
end Go.Proofs.Yticgknjjhkgggaa
