/- Contracts: the orders. -/
import Derived.Test.YticgknjjhkgggaaWe
namespace Go.Proofs.Yticgknjjhkgggaa
open Go.RowKit

def ordN : List (List Nat) := [
  [0, 1, 2, 3, 4, 5, 6, 7, 8, 9, 10, 11, 12, 13, 14, 15],
  [14, 10, 4, 8, 9, 15, 13, 6, 1, 12, 0, 2, 11, 7, 5, 3],
  [11, 8, 12, 0, 5, 2, 15, 13, 10, 14, 3, 6, 7, 1, 9, 4],
  [7, 9, 3, 1, 13, 12, 11, 14, 2, 6, 5, 10, 4, 0, 15, 8],
  [9, 0, 5, 7, 2, 4, 10, 15, 14, 1, 11, 12, 6, 8, 3, 13],
  [2, 12, 6, 10, 0, 11, 8, 3, 4, 13, 7, 5, 15, 14, 1, 9],
  [12, 5, 1, 15, 14, 13, 4, 10, 0, 7, 6, 3, 9, 2, 8, 11],
  [13, 11, 7, 14, 12, 1, 3, 9, 5, 0, 15, 4, 8, 6, 2, 10],
  [6, 15, 14, 9, 11, 3, 0, 8, 12, 2, 13, 7, 1, 4, 10, 5],
  [10, 2, 8, 4, 7, 6, 1, 5, 15, 11, 9, 14, 3, 12, 13, 0]]
/-- Numbers as cells. -/
def ints (l : List Nat) : Array Value := (l.map fun x : Nat => Value.int .i64 (x : Int)).toArray
theorem zero69 (w : World) : (zeroValue 69).run Try.prog w = .ok (.agg (ints (List.replicate 160 0))) w := by kernel_rfl
/-- An operation that yields, whatever it is. -/
theorem wpl_yields {P : Program} {ops : Array Oper} {rest : List Oper} {o : Oper} {a : Act} {w : World} {Q : Exit → Act → World → Prop} {v : Value} (xs : Array (Nat × Operand)) (_hop : o.op = .build 69 xs) (hgd : o.guard = none)
    (hr : (execOp a.eval o).run P w = .ok (.value v) w) (h : wpList P ops Q rest (a.put o.dst v) w) : wpList P ops Q (o :: rest) a w :=
  wpList_plain hgd fun K hK => by unfold Oper.wp; rw [hr]; exact hK _ _ h
set_option maxRecDepth 100000 in
set_option maxHeartbeats 1000000 in
theorem orders_c (w : World) : Calls Try.prog 32 #[] w fun e w' => e = .returned (.agg (ints ordN.flatten)) ∧ Below w.heap.size w w' := by
  have hz := zero69
  obtain ⟨Z, hZ⟩ : ∃ Z, Z = ints (List.replicate 160 0) := ⟨_, rfl⟩
  rw [← hZ] at hz
  have HZ : Hid (Z.size = 160) := Lib.hid (by rw [hZ]; kernel_rfl)
  clear hZ
  go_enter Try.func32, Try.ntmps32
  go_wp2_with (first | (refine wpl_yields (v := .agg (ints ordN.flatten)) _ rfl rfl (by kernel_rfl) ?_) | refine wpl_store_blk rfl 69 _ _ rfl w.heap.size 69 Z _ rfl rfl (Blk.new w 69 Z) ?c1 ?c2 ?c3 ?c4)
  case c1 => rw [HZ.out]; kernel_rfl
  case c2 => kernel_rfl
  case c3 => kernel_rfl
  case c4 =>
    intro w6 hB6 hO6 hz6
    go_wp2_with fail
    refine bodyPost_ret (results_cell_row rfl _ _ w.heap.size 69 _ (0, 0) _ rfl hB6 Try.underlying69 rfl (by kernel_rfl)) rfl ⟨?_, ((Below.refl w.heap.size w).alloc (Nat.le_refl _) _).trans (hO6.below (B := w.heap.size) (by simp) (Nat.le_refl _))⟩
    kernel_rfl
end Go.Proofs.Yticgknjjhkgggaa
