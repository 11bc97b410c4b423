/- Words in memory, and times x. -/
import Derived.Test.YtodjbgcmlpmknaaBase
import Derived.Test.YtodjbgcmlpmknaaMath
namespace Go.Proofs.Ytodjbgcmlpmknaa
open Go.RowKit

theorem lt32 (x : Wo) : x.toNat < 4294967296 := x.isLt
theorem bx (x y : Wo) : bits .xor .u32 (x.toNat : Int) (y.toNat : Int) = ((x ^^^ y).toNat : Int) := by
  rw [u32_xor_nat _ _ (lt32 x) (lt32 y), BitVec.toNat_xor]
theorem ba (x y : Wo) : bits .and .u32 (x.toNat : Int) (y.toNat : Int) = ((x &&& y).toNat : Int) := by
  rw [u32_and_nat _ _ (lt32 x) (lt32 y), BitVec.toNat_and]
theorem half (x : Wo) : (x.toNat : Int) / (2 : Int) = ((x >>> 1).toNat : Int) := by
  rw [BitVec.toNat_ushiftRight, Nat.shiftRight_eq_div_pow]; simp
theorem low_bit (x : Wo) : bits .and .u32 (x.toNat : Int) 1 = if x.getLsbD 0 then 1 else 0 := by
  have h := ba x 1#32
  rw [show ((1#32 : Wo).toNat : Int) = 1 from rfl] at h
  rw [h, BitVec.toNat_and]
  simp only [BitVec.getLsbD, Nat.testBit_zero]
  have e : x.toNat &&& (1#32 : Wo).toNat = x.toNat % 2 := by
    show x.toNat &&& 1 = _
    exact Nat.and_one_is_mod _
  rw [e]
  have : x.toNat % 2 = 0 ∨ x.toNat % 2 = 1 := by omega
  rcases this with h | h <;> simp [h]
theorem times_eq (x : Wo) : bits .xor .u32 ((x.toNat : Int) / 2) (bits .and .u32 (x.toNat : Int) 1 * 3988292384 % 4294967296) = ((tx x).toNat : Int) := by
  rw [low_bit, half]
  have e : ((if x.getLsbD 0 then (1 : Int) else 0) * 3988292384 % 4294967296) = (((if x.getLsbD 0 then poly else 0#32) : Wo).toNat : Int) := by
    cases x.getLsbD 0
    · simp
    · simp [poly]
  rw [e, bx]
  rfl
theorem rtimes_yes (x : Wo) (h : ((x.toNat : Int) % 2 == 1) = true) : bits .xor .u32 ((x.toNat : Int) / 2) 3988292384 = ((tx x).toNat : Int) := by
  have hb : x.getLsbD 0 = true := by
    simp only [BitVec.getLsbD, Nat.testBit_zero]
    simp at h
    simp; omega
  have := bx (x >>> 1) poly
  rw [half, show (3988292384 : Int) = (poly.toNat : Int) from rfl, this]
  simp [tx, hb]
theorem rtimes_no (x : Wo) (h : ((x.toNat : Int) % 2 == 1) = false) : ((x.toNat : Int) / 2) = ((tx x).toNat : Int) := by
  have hb : x.getLsbD 0 = false := by
    simp only [BitVec.getLsbD, Nat.testBit_zero]
    simp at h
    simp; omega
  have e : tx x = x >>> 1 := by unfold tx; rw [hb]; simp
  rw [half, e]

/-- The word at the head of block b. -/
def WordAt (w : World) (b : Nat) (x : Wo) : Prop := w.cell? ⟨b, 0, none⟩ = some (.int .u32 (x.toNat : Int)) ∧ w.frozen? ⟨b, 0, none⟩ = false
theorem WordAt.set {w : World} {b : Nat} {x : Wo} (h : WordAt w b x) (y : Wo) : WordAt (w.setCell ⟨b, 0, none⟩ (.int .u32 (y.toNat : Int))) b y :=
  ⟨World.cell?_setCell_same _ _ _ h.1, by rw [World.frozen?_setCell]; exact h.2⟩
theorem WordAt.lt {w : World} {b : Nat} {x : Wo} (h : WordAt w b x) : b < w.heap.size := cell_lt h.1
theorem WordAt.below {w w' : World} {b B : Nat} {x : Wo} (h : WordAt w b x) (hb : Below B w w') (hlt : b < B) : WordAt w' b x :=
  ⟨(hb.cell (p := ⟨b, 0, none⟩) hlt).trans h.1, (hb.frozen (p := ⟨b, 0, none⟩) hlt).trans h.2⟩

set_option maxHeartbeats 400000 in
theorem times_c (b : Nat) (x : Wo) (w : World) (h : WordAt w b x) :
    Calls Try.prog 33 #[.pointer (some ⟨b, 0, none⟩)] w fun e w' => e = .returned (.tuple #[]) ∧ w' = w.setCell ⟨b, 0, none⟩ (.int .u32 ((tx x).toNat : Int)) := by
  obtain ⟨hc, hf⟩ := h
  go_enter Try.func33, Try.ntmps33
  go_wp2
  go_end0
  exact ⟨rfl, by rw [times_eq]⟩
set_option maxHeartbeats 400000 in
theorem rtimes_c (x : Wo) (w : World) :
    Calls Try.prog 34 #[.int .u32 (x.toNat : Int)] w fun e w' => e = .returned (.int .u32 ((tx x).toNat : Int)) ∧ w = w' := by
  go_enter Try.func34, Try.ntmps34
  go_wp2
  · have h : ((x.toNat : Int) % 2 == 1) = true := by assumption
    rw [rtimes_yes x h]
    go_ret
    exact ⟨rfl, rfl⟩
  · have h : ((x.toNat : Int) % 2 == 1) = false := by assumption
    rw [rtimes_no x h]
    go_ret
    exact ⟨rfl, rfl⟩
theorem byte_word (c : BitVec 8) : (c.toNat : Int) = ((c.setWidth 32).toNat : Int) := by
  rw [BitVec.toNat_setWidth]; have := c.isLt; omega
set_option maxHeartbeats 400000 in
theorem step1_c (b bo : Nat) (x : Wo) (c : BitVec 8) (w : World) (h : WordAt w b x) (h0 : w.cell? ⟨bo, 0, none⟩ = some (.pointer (some ⟨b, 0, none⟩))) :
    Calls Try.prog 40 #[.int .u8 (c.toNat : Int), .pointer (some ⟨bo, 0, none⟩)] w fun e w' => e = .returned (.tuple #[]) ∧ w' = w.setCell ⟨b, 0, none⟩ (.int .u32 ((x ^^^ c.setWidth 32).toNat : Int)) := by
  obtain ⟨hc, hf⟩ := h
  go_enter Try.func40, Try.ntmps40
  go_wp2
  go_end0
  exact ⟨rfl, by rw [byte_word c, bx]⟩
set_option maxHeartbeats 400000 in
theorem step2_c (b bo : Nat) (x : Wo) (c : BitVec 8) (w : World) (h : WordAt w b x) (hne : bo ≠ b) (h0 : w.cell? ⟨bo, 0, none⟩ = some (.pointer (some ⟨b, 0, none⟩))) :
    Calls Try.prog 41 #[.int .u8 (c.toNat : Int), .pointer (some ⟨bo, 0, none⟩)] w fun e w' => e = .returned (.tuple #[]) ∧ WordAt w' b (txn 8 x) ∧ Only b w w' := by
  go_enter Try.func41, Try.ntmps41
  go_wp2
  go_loopw [3] (fun i wr => ∃ k : Nat, k ≤ 8 ∧ i = .int .i64 k ∧ WordAt wr b (txn k x) ∧ Only b w wr) (fun i _ => 8 - (intOf i).toNat)
  case atStart => exact ⟨0, Nat.zero_le _, rfl, h, Only.refl _ _⟩
  case round =>
    obtain ⟨k, hk, rfl, hW, hO⟩ := hrel
    have h0' := (World.cell?_of_block (a := ⟨bo, 0, none⟩) (hO.block bo (cell_lt h0) (fun e => hne (by injection e)))).trans h0
    have HW := Lib.hid hW; clear hW
    have HO := Lib.hid hO; clear hO
    have H0 := Lib.hid h0; clear h0
    have Hh := Lib.hid h; clear h
    by_cases hlt : k < 8
    · go_wp2_with fail
      refine (times_c b _ _ HW.out).mono ?_
      rintro e w1 ⟨rfl, rfl⟩
      have HW' : Hid (WordAt (wr.setCell ⟨b, 0, none⟩ (.int .u32 ((tx (txn k x)).toNat : Int))) b (txn (k + 1) x)) := Lib.hid (by rw [txn_succ]; exact HW.out.set _)
      have HO' := Lib.hid (HO.out.setCell (p := ⟨b, 0, none⟩) (.inl rfl) (.int .u32 ((tx (txn k x)).toNat : Int)))
      go_wp2_with fail
      go_roundw
      case rel => exact ⟨k + 1, by omega, by go_num, HW'.out, HO'.out⟩
      case measure => simp [intOf]; omega
    · obtain rfl : k = 8 := by omega
      go_wp2
      go_end0
      exact ⟨rfl, HW.out, HO.out⟩
end Go.Proofs.Ytodjbgcmlpmknaa
