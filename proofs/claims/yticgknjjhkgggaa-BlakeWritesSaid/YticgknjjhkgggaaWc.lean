/- Contracts: word. -/
import Derived.Test.YticgknjjhkgggaaWb
namespace Go.Proofs.Yticgknjjhkgggaa
open Go.RowKit

/-- A word of four bytes, the lowest ahead. -/
def wordN (b0 b1 b2 b3 : By) : Nat := b0.toNat + 256 * b1.toNat + 65536 * b2.toNat + 16777216 * b3.toNat
theorem wordN_lt (b0 b1 b2 b3 : By) : wordN b0 b1 b2 b3 < 4294967296 := by
  have := b0.isLt; have := b1.isLt; have := b2.isLt; have := b3.isLt
  unfold wordN; omega
theorem or_step (a c k : Nat) (ha : a < 2 ^ k) (hc : c * 2 ^ k < 4294967296) (ha2 : a < 4294967296) : bits .or .u32 (a : Int) ((c * 2 ^ k : Nat) : Int) = ((a + c * 2 ^ k : Nat) : Int) := by
  rw [u32_or_nat _ _ ha2 hc]
  have h3 := Nat.shiftLeft_add_eq_or_of_lt (i := k) (b := a) ha c
  rw [Nat.shiftLeft_eq] at h3
  rw [Nat.or_comm, ← h3, Nat.add_comm]
theorem word_or (b0 b1 b2 b3 : By) : bits .or .u32 (bits .or .u32 (bits .or .u32 (bits .or .u32 0 (b0.toNat : Int)) ((b1.toNat : Int) * 256)) ((b2.toNat : Int) * 65536)) ((b3.toNat : Int) * 16777216) = (wordN b0 b1 b2 b3 : Nat) := by
  have l0 := b0.isLt; have l1 := b1.isLt; have l2 := b2.isLt; have l3 := b3.isLt
  have s0 := or_step 0 b0.toNat 0 (by decide) (by omega) (by decide)
  have s1 := or_step b0.toNat b1.toNat 8 (by omega) (by omega) (by omega)
  have s2 := or_step (b0.toNat + b1.toNat * 256) b2.toNat 16 (by omega) (by omega) (by omega)
  have s3 := or_step (b0.toNat + b1.toNat * 256 + b2.toNat * 65536) b3.toNat 24 (by omega) (by omega) (by omega)
  have e0 : bits .or .u32 0 (b0.toNat : Int) = (b0.toNat : Int) := by simpa using s0
  have e1 : bits .or .u32 (b0.toNat : Int) ((b1.toNat : Int) * 256) = ((b0.toNat + b1.toNat * 256 : Nat) : Int) := by
    rw [← s1]; congr 1
  have e2 : bits .or .u32 ((b0.toNat + b1.toNat * 256 : Nat) : Int) ((b2.toNat : Int) * 65536) = ((b0.toNat + b1.toNat * 256 + b2.toNat * 65536 : Nat) : Int) := by
    rw [← s2]; congr 1
  have e3 : bits .or .u32 ((b0.toNat + b1.toNat * 256 + b2.toNat * 65536 : Nat) : Int) ((b3.toNat : Int) * 16777216) = ((b0.toNat + b1.toNat * 256 + b2.toNat * 65536 + b3.toNat * 16777216 : Nat) : Int) := by
    rw [← s3]; congr 1
  rw [e0, e1, e2, e3]
  unfold wordN
  congr 1
  omega

set_option maxHeartbeats 1000000 in
theorem word_c (g off n cap : Nat) (b0 b1 b2 b3 : By) (w : World) (hn : 4 ≤ n) (hc : n ≤ cap) (hm : cap ≤ 1000000)
    (h0 : w.cell? ⟨g, off, none⟩ = some (.int .u8 (b0.toNat : Int))) (h1 : w.cell? ⟨g, off + 1, none⟩ = some (.int .u8 (b1.toNat : Int))) (h2 : w.cell? ⟨g, off + 2, none⟩ = some (.int .u8 (b2.toNat : Int))) (h3 : w.cell? ⟨g, off + 3, none⟩ = some (.int .u8 (b3.toNat : Int))) :
    Calls Try.prog 29 #[.slice (some ⟨g, off, none⟩) n cap] w fun e w' => e = .returned (.int .u32 (wordN b0 b1 b2 b3 : Nat)) ∧ w = w' := by
  have k1 : ¬ (cap : Int) < 4 := by omega
  have k2 : ¬ cap < 4 := by omega
  go_enter Try.func29, Try.ntmps29
  go_wp2_with fail
  refine wp_loop_rounds 5 ?_
  rw [rounds_succ]
  go_wp2_with fail
  rw [rounds_succ]
  go_wp2_with fail
  rw [rounds_succ]
  go_wp2_with fail
  rw [rounds_succ]
  go_wp2_with fail
  rw [rounds_succ]
  go_wp2_with fail
  rw [word_or]
  go_ret
  exact ⟨rfl, rfl⟩
end Go.Proofs.Yticgknjjhkgggaa
