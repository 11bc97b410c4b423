/- Contracts: turns, Mix, the reference's Mix. -/
import Derived.Test.YticgknjjhkgggaaBase
import Derived.Test.YticgknjjhkgggaaMath
namespace Go.Proofs.Yticgknjjhkgggaa
open Go.RowKit

theorem lt32 (x : Wo) : x.toNat < 4294967296 := x.isLt
theorem bx (x y : Wo) : bits .xor .u32 (x.toNat : Int) (y.toNat : Int) = ((x ^^^ y).toNat : Int) := by
  rw [u32_xor_nat _ _ (lt32 x) (lt32 y), BitVec.toNat_xor]
theorem add32 (x y : Wo) : ((x.toNat : Int) + (y.toNat : Int)) % 4294967296 = ((x + y).toNat : Int) := by
  rw [BitVec.toNat_add]; omega

theorem turn_one (x : Wo) : (x.toNat : Int) / 2 + 2147483648 * ((x.toNat : Int) % 2) = ((x.rotateRight 1).toNat : Int) := by
  have h := lt32 x
  have e : (x.rotateRight 1).toNat = x.toNat / 2 + 2147483648 * (x.toNat % 2) := by
    rw [BitVec.toNat_rotateRight, Nat.shiftRight_eq_div_pow, Nat.shiftLeft_eq]
    have h2 : x.toNat * 2 ^ (32 - 1 % 32) % 2 ^ 32 = 2147483648 * (x.toNat % 2) := by
      show x.toNat * 2147483648 % 4294967296 = _
      omega
    rw [h2]
    have h3 := Nat.shiftLeft_add_eq_or_of_lt (i := 31) (b := x.toNat / 2) (by show _ < 2147483648; omega) (x.toNat % 2)
    rw [Nat.shiftLeft_eq] at h3
    rw [Nat.or_comm, Nat.mul_comm 2147483648]
    show x.toNat % 2 * 2147483648 ||| x.toNat / 2 = _
    have h4 : (2 : Nat) ^ 31 = 2147483648 := by decide
    rw [h4] at h3
    rw [← h3]
    omega
  rw [e]
  omega
set_option maxHeartbeats 400000 in
theorem turned_c (x : Wo) (n : Nat) (w : World) (hn : n ≤ 1000) :
    Calls Try.prog 28 #[.int .u32 (x.toNat : Int), .int .i64 (n : Int)] w fun e w' => e = .returned (.int .u32 ((rot x n).toNat : Int)) ∧ w = w' := by
  go_enter Try.func28, Try.ntmps28
  go_wp2
  go_loop [0, 5] (fun v i => ∃ k : Nat, k ≤ n ∧ i = .int .i64 k ∧ v = .int .u32 ((rot x k).toNat : Int)) (fun _ i => n - (intOf i).toNat)
  case atStart => exact ⟨0, Nat.zero_le _, rfl, rfl⟩
  case round =>
    obtain ⟨k, hk, rfl, rfl⟩ := hrel
    have hb := lt32 (rot x k)
    by_cases hlt : k < n
    · have hlt' : (k : Int) < n := by omega
      have he : ((rot x k).toNat : Int) / 2 + 2147483648 * (((rot x k).toNat : Int) % 2) = ((rot x (k + 1)).toNat : Int) := turn_one _
      go_wp2
      go_round
      case rel => exact ⟨k + 1, by omega, by go_num, rfl⟩
      case measure => simp [intOf]; omega
    · obtain rfl : k = n := by omega
      go_wp2
      go_ret
      exact ⟨rfl, rfl⟩
theorem turn_or (x : Wo) (s : Nat) (h : s ≤ 31) : bits .or .u32 ((x.toNat : Int) * 2 ^ s % 4294967296) ((x.toNat : Int) / 2 ^ (32 - s)) = ((x.rotateLeft s).toNat : Int) := by
  have e1 : ((x.toNat : Int) * 2 ^ s % 4294967296) = ((x.toNat * 2 ^ s % 4294967296 : Nat) : Int) := by
    rw [Int.natCast_emod, Int.natCast_mul, Int.natCast_pow]; rfl
  have e2 : ((x.toNat : Int) / 2 ^ (32 - s)) = ((x.toNat / 2 ^ (32 - s) : Nat) : Int) := by
    rw [Int.natCast_ediv, Int.natCast_pow]; rfl
  have hx := lt32 x
  rw [e1, e2, u32_or_nat _ _ (Nat.mod_lt _ (by decide)) (Nat.lt_of_le_of_lt (Nat.div_le_self _ _) hx), BitVec.toNat_rotateLeft, Nat.shiftLeft_eq, Nat.shiftRight_eq_div_pow, Nat.mod_eq_of_lt (by omega : s < 32)]
theorem and31 : ∀ k : Nat, k < 32 → 1 ≤ k → bits .and .u64 (IntKind.u64.wrap (-(k : Int))) 31 = ((32 - k : Nat) : Int) := by decide +kernel
set_option maxHeartbeats 400000 in
theorem rotl_c (x : Wo) (k : Nat) (w : World) (h1 : 1 ≤ k) (h2 : k ≤ 31) :
    Calls Try.prog 27 #[.int .u32 (x.toNat : Int), .int .i64 (-(k : Int))] w fun e w' => e = .returned (.int .u32 ((rot x k).toNat : Int)) ∧ w = w' := by
  have ha := and31 k (by omega) h1
  obtain ⟨s, hs⟩ : ∃ s, s = 32 - k := ⟨_, rfl⟩
  rw [← hs] at ha
  have hs1 : 1 ≤ s := by omega
  have hs2 : s ≤ 31 := by omega
  have HS : Hid (x.rotateLeft s = rot x k) := Lib.hid (by rw [hs]; exact rot_left x k h1 h2)
  clear hs
  go_enter Try.func27, Try.ntmps27
  go_wp2
  rw [turn_or x s hs2, HS.out]
  go_ret
  exact ⟨rfl, rfl⟩

/-- A quad's cells. -/
def Quad.cells (q : Quad) : Array Value := #[.int .u32 (q.a.toNat : Int), .int .u32 (q.b.toNat : Int), .int .u32 (q.c.toNat : Int), .int .u32 (q.d.toNat : Int)]

set_option maxHeartbeats 1000000 in
theorem half_c (g : Nat) (q : Quad) (z : Wo) (far near : Nat) (w : World) (h : Blk w g 23 q.cells) (h1 : 1 ≤ far) (h2 : far ≤ 31) (h3 : 1 ≤ near) (h4 : near ≤ 31) :
    Calls Try.prog 26 #[.int .u32 (z.toNat : Int), .int .i64 (far : Int), .int .i64 (near : Int), .pointer (some ⟨g, 0, none⟩)] w fun e w' => e = .returned (.tuple #[]) ∧ Blk w' g 23 (half q z far near).cells ∧ Only g w w' := by
  obtain ⟨a, b, c, d⟩ := q
  have c0 : w.cell? ⟨g, 0, none⟩ = some (.int .u32 (a.toNat : Int)) := h.cell rfl
  have c1 : w.cell? ⟨g, 1, none⟩ = some (.int .u32 (b.toNat : Int)) := h.cell rfl
  have c2 : w.cell? ⟨g, 2, none⟩ = some (.int .u32 (c.toNat : Int)) := h.cell rfl
  have c3 : w.cell? ⟨g, 3, none⟩ = some (.int .u32 (d.toNat : Int)) := h.cell rfl
  have f0 := h.frozen 0
  have f1 := h.frozen 1
  have f2 := h.frozen 2
  have f3 := h.frozen 3
  have e1 := add32 b z
  have e2 := add32 a (b + z)
  obtain ⟨a', ha'⟩ : ∃ a', a' = a + (b + z) := ⟨_, rfl⟩
  rw [← ha'] at e2
  obtain ⟨bz, hbz⟩ : ∃ x, x = b + z := ⟨_, rfl⟩
  rw [← hbz] at e1 e2
  have x1 := bx d a'
  obtain ⟨d1, hd1⟩ : ∃ x, x = d ^^^ a' := ⟨_, rfl⟩
  rw [← hd1] at x1
  have HA := Lib.hid ha'; have HBZ := Lib.hid hbz; have HD := Lib.hid hd1
  have HH := Lib.hid h
  clear h ha' hbz hd1
  go_enter Try.func26, Try.ntmps26
  go_wp2_with fail
  refine (rotl_c d1 far _ h1 h2).mono ?_
  rintro e w' ⟨rfl, rfl⟩
  obtain ⟨d', hd'⟩ : ∃ x, x = rot d1 far := ⟨_, rfl⟩
  rw [← hd']
  have e3 := add32 c d'
  obtain ⟨c', hc'⟩ : ∃ x, x = c + d' := ⟨_, rfl⟩
  rw [← hc'] at e3
  have x2 := bx b c'
  obtain ⟨b1, hb1⟩ : ∃ x, x = b ^^^ c' := ⟨_, rfl⟩
  rw [← hb1] at x2
  have HD' := Lib.hid hd'; have HC' := Lib.hid hc'; have HB1 := Lib.hid hb1
  clear hd' hc' hb1
  go_wp2_with fail
  refine (rotl_c b1 near _ h3 h4).mono ?_
  rintro e w' ⟨rfl, rfl⟩
  go_wp2_with fail
  go_end0
  have hq : half ⟨a, b, c, d⟩ z far near = ⟨a', rot b1 near, c', d'⟩ := by
    have ea : a' = a + b + z := by rw [HA.out, BitVec.add_assoc]
    unfold half
    simp only [← ea, ← HD.out, ← HD'.out, ← HC'.out, ← HB1.out]
  rw [hq]
  have hB := (((HH.out.set 0 (.int .u32 (a'.toNat : Int))).set 3 (.int .u32 (d'.toNat : Int))).set 2 (.int .u32 (c'.toNat : Int))).set 1 (.int .u32 ((rot b1 near).toNat : Int))
  exact ⟨rfl, hB, ((((Only.refl g w).setCell (p := ⟨g, 0, none⟩) (.inl rfl) _).setCell (p := ⟨g, 3, none⟩) (.inl rfl) _).setCell (p := ⟨g, 2, none⟩) (.inl rfl) _).setCell (p := ⟨g, 1, none⟩) (.inl rfl) _⟩
end Go.Proofs.Yticgknjjhkgggaa
