/- What the laws' proofs share; the laws of words alone. -/
import Derived.Test.YtodjbgcmlpmknaaWm
import Derived.ProofKit
import Derived.OpenShut
import Derived.ShutString
import Derived.ChangeOld
namespace Go.Proofs.Ytodjbgcmlpmknaa
open Go.RowKit
open Go.ChangeShapes Go.WideShapes Go.ChangeAt
open Go.ChangeMaps (open_string shut_string)

theorem own : ownKnob Try.prog.godebug = none := by kernel_rfl
theorem laidOut : laidOutB Try.prog = true := by kernel_rfl

/-- A slice of integers that came in: nil, or a row of cells. -/
def IsRow (k : IntKind) (w : World) (a : Option Addr) (len cap : Nat) (zs : List Int) : Prop :=
  (a = none ∧ len = 0 ∧ cap = 0 ∧ zs = []) ∨
  ∃ x, a = some x ∧ len ≤ cap ∧ cap ≤ maxLen ∧ zs.length = cap ∧ (∀ i, i < zs.length → w.cell? (x.add i) = some (.int k (zs.getD i 0))) ∧ ∀ n ∈ zs, (Lit.int k n).wf = true

theorem wf_word {n : Int} (h : (Lit.int .u32 n).wf = true) : ∃ x : Wo, n = (x.toNat : Int) := by
  have h' : 0 ≤ n ∧ n ≤ 4294967295 := by simpa [Lit.wf, IntKind.min, IntKind.max, IntKind.signed, IntKind.bits] using h
  refine ⟨BitVec.ofNat 32 n.toNat, ?_⟩
  simp
  omega
theorem wf_byte {n : Int} (h : (Lit.int .u8 n).wf = true) : ∃ x : By, n = (x.toNat : Int) := by
  have h' : 0 ≤ n ∧ n ≤ 255 := by simpa [Lit.wf, IntKind.min, IntKind.max, IntKind.signed, IntKind.bits] using h
  refine ⟨BitVec.ofNat 8 n.toNat, ?_⟩
  simp
  omega
/-- A slice of bytes that came in reads as some bytes. -/
theorem IsRow.bys {w : World} {a : Option Addr} {len cap : Nat} {zs : List Int} (h : IsRow .u8 w a len cap zs) : ∃ l, Bys w a len l ∧ len ≤ cap := by
  rcases h with ⟨rfl, rfl, rfl, rfl⟩ | ⟨x, rfl, hl, hm, hz, hc, hw⟩
  · exact ⟨[], ⟨rfl, fun i c h => by simp at h⟩, Nat.le_refl _⟩
  · refine ⟨(zs.take len).map fun n => BitVec.ofNat 8 n.toNat, ⟨by simp; omega, fun i c hi => ?_⟩, hl⟩
    have hlt : i < len := by
      have := (List.getElem?_eq_some_iff.1 hi).1
      simp at this; omega
    obtain ⟨b, off, spot⟩ := x
    have h0 := hc 0 (by omega)
    have hs : spot = none := by simpa [Addr.add] using World.cell?_spot h0
    subst hs
    have h1 := hc i (by omega)
    have hb : b < w.heap.size := by have := cell_lt h0; simpa [Addr.add] using this
    refine ⟨b, off, rfl, hb, ?_⟩
    rw [add_plain] at h1
    rw [h1]
    have hiz : i < zs.length := by omega
    have e1 : zs.getD i 0 = zs[i] := by simp [List.getD, hiz]
    obtain ⟨y, hy⟩ := wf_byte (hw _ (List.getElem_mem hiz))
    rw [e1, hy]
    have : c = y := by
      rw [List.getElem?_map, List.getElem?_take, if_pos hlt, List.getElem?_eq_getElem hiz, Option.map_some] at hi
      injection hi with hi
      rw [← hi, hy]
      simp
    rw [this]

theorem muls_walk (a b : Wo) (w : World) : Calls Try.prog 6 #[.int .u32 (a.toNat : Int), .int .u32 (b.toNat : Int)] w fun e w' => e = .returned (.bool true) ∧ Below w.heap.size w w' := by
  obtain ⟨A, hA⟩ : ∃ A : Int, A = (a.toNat : Int) := ⟨_, rfl⟩
  obtain ⟨B, hB⟩ : ∃ A : Int, A = (b.toNat : Int) := ⟨_, rfl⟩
  rw [← hA, ← hB]
  have HA := Lib.hid hA; have HB := Lib.hid hB
  clear hA hB
  go_enter Try.func6, Try.ntmps6
  go_wp2_with fail
  refine (mul_as a b A B _ _ HA.out HB.out rfl).mono ?_
  rintro e w1 ⟨rfl, B1⟩
  go_wp2_with fail
  rw [HA.out, HB.out]
  refine (rmul_c a b _).mono ?_
  rintro e w2 ⟨rfl, rfl⟩
  have B3 := Lib.hid B1
  clear B1
  go_wp2_with fail
  refine (works_c _).mono ?_
  rintro e w4 ⟨rfl, B4⟩
  go_wp2_with fail
  go_ret
  exact ⟨rfl, B3.out.trans (B4.mono B3.out.size)⟩

set_option maxRecDepth 100000 in
set_option maxHeartbeats 2000000 in
theorem ring_walk (a b c : Wo) (m n : Int) (w : World) (hm : -9223372036854775808 ≤ m) (hm2 : m ≤ 9223372036854775807) (hn : -9223372036854775808 ≤ n) (hn2 : n ≤ 9223372036854775807) :
    Calls Try.prog 10 #[.int .u32 (a.toNat : Int), .int .u32 (b.toNat : Int), .int .u32 (c.toNat : Int), .int .i64 m, .int .i64 n] w fun e w' => e = .returned (.bool true) ∧ Below w.heap.size w w' := by
  obtain ⟨A, hA⟩ : ∃ A : Int, A = (a.toNat : Int) := ⟨_, rfl⟩
  obtain ⟨B, hB⟩ : ∃ A : Int, A = (b.toNat : Int) := ⟨_, rfl⟩
  obtain ⟨C, hC⟩ : ∃ A : Int, A = (c.toNat : Int) := ⟨_, rfl⟩
  obtain ⟨D, hD⟩ : ∃ A : Int, A = ((mul a b).toNat : Int) := ⟨_, rfl⟩
  obtain ⟨E, hE⟩ : ∃ A : Int, A = ((mul b c).toNat : Int) := ⟨_, rfl⟩
  obtain ⟨F, hF⟩ : ∃ A : Int, A = ((mul a (mul b c)).toNat : Int) := ⟨_, rfl⟩
  obtain ⟨H, hH⟩ : ∃ A : Int, A = ((mul a (b ^^^ c)).toNat : Int) := ⟨_, rfl⟩
  obtain ⟨I, hI⟩ : ∃ A : Int, A = ((mul a c).toNat : Int) := ⟨_, rfl⟩
  have hx : bits .xor .u32 D I = H := by rw [hD, hI, hH, bx, mul_xor_right]
  have hx2 : Hid (bits .xor .u32 B C = ((b ^^^ c).toNat : Int)) := Lib.hid (by rw [hB, hC, bx])
  rw [← hA, ← hB, ← hC]
  have HA := Lib.hid hA; have HB := Lib.hid hB; have HC := Lib.hid hC; have HD := Lib.hid hD; have HE := Lib.hid hE; have HF := Lib.hid hF; have HH := Lib.hid hH; have HI := Lib.hid hI
  clear hA hB hC hD hE hF hH hI
  go_enter Try.func10, Try.ntmps10
  go_wp2_with fail
  refine (mul_as a b A B D _ HA.out HB.out HD.out).mono ?_
  rintro e w1 ⟨rfl, B1⟩
  go_wp2_with fail
  refine (mul_as b a B A D _ HB.out HA.out (by rw [HD.out, mul_comm])).mono ?_
  rintro e w2 ⟨rfl, b2⟩
  have B2 := B1.trans (b2.mono B1.size); clear B1 b2
  go_wp2_with fail
  refine (mul_as b c B C E _ HB.out HC.out HE.out).mono ?_
  rintro e w3 ⟨rfl, b2⟩
  have B3 := B2.trans (b2.mono B2.size); clear B2 b2
  go_wp2_with fail
  refine (mul_as a (mul b c) A E F _ HA.out HE.out HF.out).mono ?_
  rintro e w4 ⟨rfl, b2⟩
  have B4 := B3.trans (b2.mono B3.size); clear B3 b2
  go_wp2_with fail
  refine (mul_as a b A B D _ HA.out HB.out HD.out).mono ?_
  rintro e w5 ⟨rfl, b2⟩
  have B5 := B4.trans (b2.mono B4.size); clear B4 b2
  go_wp2_with fail
  refine (mul_as (mul a b) c D C F _ HD.out HC.out (by rw [HF.out, mul_assoc])).mono ?_
  rintro e w6 ⟨rfl, b2⟩
  have B6 := B5.trans (b2.mono B5.size); clear B5 b2
  go_wp2_with fail
  refine (mul_as a (b ^^^ c) A _ H _ HA.out hx2.out HH.out).mono ?_
  rintro e w7 ⟨rfl, b2⟩
  have B7 := B6.trans (b2.mono B6.size); clear B6 b2
  go_wp2_with fail
  refine (mul_as a b A B D _ HA.out HB.out HD.out).mono ?_
  rintro e w8 ⟨rfl, b2⟩
  have B8 := B7.trans (b2.mono B7.size); clear B7 b2
  go_wp2_with fail
  refine (mul_as a c A C I _ HA.out HC.out HI.out).mono ?_
  rintro e w9 ⟨rfl, b2⟩
  have B9 := B8.trans (b2.mono B8.size); clear B8 b2
  go_wp2_with fail
  refine (mul_as a one A _ A _ HA.out (by decide +kernel) (by rw [HA.out, mul_one])).mono ?_
  rintro e wA ⟨rfl, b2⟩
  have BA := Lib.hid (B9.trans (b2.mono B9.size)); clear B9 b2
  have hcase : (m < 0) ∨ (0 ≤ m ∧ n < 0) ∨ (0 ≤ m ∧ 0 ≤ n ∧ 549755813888 < m) ∨ (0 ≤ m ∧ 0 ≤ n ∧ m ≤ 549755813888 ∧ 549755813888 < n) ∨ (0 ≤ m ∧ 0 ≤ n ∧ m ≤ 549755813888 ∧ n ≤ 549755813888) := by omega
  rcases hcase with h1 | ⟨h1, h2⟩ | ⟨h1, h2, h3⟩ | ⟨h1, h2, h3, h4⟩ | ⟨h1, h2, h3, h4⟩
  case inr.inr.inr.inr =>
    obtain ⟨M, rfl⟩ : ∃ M : Nat, m = M := ⟨m.toNat, by omega⟩
    obtain ⟨N, rfl⟩ : ∃ M : Nat, n = M := ⟨n.toNat, by omega⟩
    obtain ⟨P, hP⟩ : ∃ A : Int, A = ((xpow M).toNat : Int) := ⟨_, rfl⟩
    obtain ⟨Q, hQ⟩ : ∃ A : Int, A = ((xpow N).toNat : Int) := ⟨_, rfl⟩
    obtain ⟨R, hR⟩ : ∃ A : Int, A = ((xpow (M + N)).toNat : Int) := ⟨_, rfl⟩
    have HP := Lib.hid hP; have HQ := Lib.hid hQ; have HR := Lib.hid hR
    clear hP hQ hR
    go_wp2_with fail
    refine (power_as M _ P _ rfl (by omega) HP.out).mono ?_
    rintro e wB ⟨rfl, b2⟩
    have BB := Lib.hid (BA.out.trans (b2.mono BA.out.size)); clear BA b2
    go_wp2_with fail
    refine (power_as N _ Q _ rfl (by omega) HQ.out).mono ?_
    rintro e wC ⟨rfl, b2⟩
    have BC := Lib.hid (BB.out.trans (b2.mono BB.out.size)); clear BB b2
    go_wp2_with fail
    refine (power_as (M + N) _ R _ (by omega) (by omega) HR.out).mono ?_
    rintro e wD ⟨rfl, b2⟩
    have BD := Lib.hid (BC.out.trans (b2.mono BC.out.size)); clear BC b2
    go_wp2_with fail
    refine (num_c _ _).mono ?_; rintro e w' ⟨rfl, rfl⟩
    go_wp2_with fail
    refine (num_c _ _).mono ?_; rintro e w' ⟨rfl, rfl⟩
    go_wp2_with fail
    refine (num_c _ _).mono ?_; rintro e w' ⟨rfl, rfl⟩
    go_wp2_with fail
    refine (mul_as (xpow M) (xpow N) P Q R _ HP.out HQ.out (by rw [HR.out, xpow_add])).mono ?_
    rintro e wE ⟨rfl, b2⟩
    have BE := Lib.hid (BD.out.trans (b2.mono BD.out.size)); clear BD b2
    go_wp2_with fail
    refine (works_c _).mono ?_
    rintro e wF ⟨rfl, B4⟩
    go_wp2_with fail
    go_ret
    exact ⟨rfl, BE.out.trans (B4.mono BE.out.size)⟩
  all_goals
    go_wp2_with fail
    refine (works_c _).mono ?_
    rintro e w4 ⟨rfl, B4⟩
    go_wp2_with fail
    go_ret
    exact ⟨rfl, BA.out.trans (B4.mono BA.out.size)⟩
end Go.Proofs.Ytodjbgcmlpmknaa
