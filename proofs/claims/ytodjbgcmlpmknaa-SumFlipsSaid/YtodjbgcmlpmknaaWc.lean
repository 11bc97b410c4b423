/- Sums, by the program and by the document. -/
import Derived.Test.YtodjbgcmlpmknaaWb
namespace Go.Proofs.Ytodjbgcmlpmknaa
open Go.RowKit

theorem bsub (x : Wo) : (4294967295 - (x.toNat : Int)) = ((~~~ x).toNat : Int) := by
  rw [BitVec.toNat_not]; have := lt32 x; omega

theorem bnot (x : Wo) : bits .xor .u32 IntKind.u32.max (x.toNat : Int) = ((~~~ x).toNat : Int) := by
  have h := bx (BitVec.allOnes 32) x
  rw [show ((BitVec.allOnes 32).toNat : Int) = IntKind.u32.max from rfl, BitVec.allOnes_xor] at h
  exact h
set_option maxHeartbeats 1000000 in
theorem more_c (s : Wo) (a : Option Addr) (n cp : Nat) (l : List By) (w : World) (hl : Bys w a n l) (hn : n ≤ 1000000000) :
    Calls Try.prog 16 #[.int .u32 (s.toNat : Int), .slice a n cp] w fun e w' => e = .returned (.int .u32 ((moreB s l).toNat : Int)) ∧ Below w.heap.size w w' := by
  have HL := Lib.hid hl; clear hl
  obtain ⟨y, hy⟩ : ∃ y, y = ~~~ s := ⟨_, rfl⟩
  have hx : Hid (bits .xor .u32 IntKind.u32.max (s.toNat : Int) = (y.toNat : Int)) := Lib.hid (by rw [hy]; exact bnot s)
  have hr : Hid (bits .xor .u32 IntKind.u32.max ((run y l).toNat : Int) = ((moreB s l).toNat : Int)) := Lib.hid (by rw [bnot, hy]; rfl)
  clear hy
  have hsg : ¬ IntKind.u32.signed = true := by decide
  go_enter Try.func16, Try.ntmps16
  go_wp2_with fail
  rw [hx.out]
  have hW : WordAt (w.alloc (.cells #[.int .u32 (y.toNat : Int)] 55)) w.heap.size y := ⟨blk0 rfl, by simp [go_sem]⟩
  have hB := (Below.refl w.heap.size w).alloc (Nat.le_refl _) (.cells #[.int .u32 (y.toNat : Int)] 55)
  refine (take_c _ y a n cp l _ hW (HL.out.below hB) ?_ hn).mono ?_
  · intro g off e h0
    obtain ⟨c, hc⟩ : ∃ c, l[0]? = some c := ⟨l[0]'(by rw [HL.out.1]; exact h0), List.getElem?_eq_getElem _⟩
    obtain ⟨g', off', e', hg', _⟩ := HL.out.2 0 c hc
    rw [e] at e'
    injection e' with e'
    injection e' with e1
    omega
  rintro e w2 ⟨rfl, hW2, hO2⟩
  have hB2 := Lib.hid (hB.trans (hO2.below (by simp) (Nat.le_refl _)))
  obtain ⟨hc, _⟩ := hW2
  clear hW hB hO2
  go_wp2_with fail
  rw [hr.out]
  go_ret
  exact ⟨rfl, hB2.out⟩

set_option maxHeartbeats 1000000 in
theorem rrun_c (x : Wo) (a : Option Addr) (n cp : Nat) (l : List By) (w : World) (hl : Bys w a n l) (hn : n ≤ 1000000000) :
    Calls Try.prog 30 #[.int .u32 (x.toNat : Int), .slice a n cp] w fun e w' => e = .returned (.int .u32 ((run x l).toNat : Int)) ∧ w = w' := by
  have HL := Lib.hid hl; clear hl
  go_enter Try.func30, Try.ntmps30
  go_wp2
  go_loop [0, 5] (fun xv i => ∃ k : Nat, k ≤ n ∧ i = .int .i64 k ∧ xv = .int .u32 ((run x (l.take k)).toNat : Int)) (fun _ i => n - (intOf i).toNat)
  case atStart => exact ⟨0, Nat.zero_le _, rfl, rfl⟩
  case round =>
    obtain ⟨k, hk, rfl, rfl⟩ := hrel
    by_cases hlt : k < n
    · obtain ⟨c, hc⟩ : ∃ c, l[k]? = some c := ⟨l[k]'(by rw [HL.out.1]; exact hlt), List.getElem?_eq_getElem _⟩
      obtain ⟨g, off, rfl, hg, hcell⟩ := HL.out.2 k c hc
      have HC := Lib.hid hc; clear hc
      obtain ⟨y, hy⟩ : ∃ y, y = run x (l.take k) ^^^ c.setWidth 32 := ⟨_, rfl⟩
      have hx : Hid (bits .xor .u32 ((run x (l.take k)).toNat : Int) (c.toNat : Int) = (y.toNat : Int)) := Lib.hid (by rw [hy, byte_word c, bx])
      have he : Hid (txn 8 y = run x (l.take (k + 1))) := Lib.hid (by
        rw [List.take_add_one, HC.out, Option.toList_some, run_append, hy]; rfl)
      clear hy
      go_wp2_with fail
      rw [hx.out]
      go_loop [0, 6] (fun xv j => ∃ q : Nat, q ≤ 8 ∧ j = .int .i64 q ∧ xv = .int .u32 ((txn q y).toNat : Int)) (fun _ j => 8 - (intOf j).toNat)
      case atStart => exact ⟨0, Nat.zero_le _, rfl, rfl⟩
      case round =>
        obtain ⟨q, hq, rfl, rfl⟩ := hrel
        by_cases hql : q < 8
        · go_wp2_with fail
          refine (rtimes_c _ _).mono ?_
          rintro e w' ⟨rfl, rfl⟩
          go_wp2_with fail
          go_round
          case rel => exact ⟨q + 1, by omega, by go_num, by rw [txn_succ]⟩
          case measure => simp [intOf]; omega
        · obtain rfl : q = 8 := by omega
          go_wp2_with fail
          rw [he.out]
          go_round
          case rel => exact ⟨k + 1, by omega, by go_num, rfl⟩
          case measure => simp [intOf]; omega
    · obtain rfl : k = n := by omega
      have e : Hid (l.take k = l) := Lib.hid (List.take_of_length_le (by rw [HL.out.1]; exact Nat.le_refl _))
      go_wp2
      go_ret
      exact ⟨by rw [e.out]; rfl, rfl⟩

set_option maxHeartbeats 1000000 in
theorem rsum_c (a : Option Addr) (n cp : Nat) (l : List By) (w : World) (hl : Bys w a n l) (hn : n ≤ 1000000000) :
    Calls Try.prog 15 #[.slice a n cp] w fun e w' => e = .returned (.int .u32 ((sumB l).toNat : Int)) ∧ w = w' := by
  have HL := Lib.hid hl; clear hl
  have h0 : Hid ((4294967295 : Int) = ((~~~ 0#32 : Wo).toNat : Int)) := Lib.hid rfl
  have hr : Hid (4294967295 - ((run (~~~ 0#32) l).toNat : Int) = ((sumB l).toNat : Int)) := Lib.hid (by rw [bsub]; rfl)
  have hlo := lt32 (run (~~~ 0#32) l)
  go_enter Try.func15, Try.ntmps15
  go_wp2_with fail
  refine (rrun_c (~~~ 0#32) a n cp l _ HL.out hn).mono ?_
  rintro e w' ⟨rfl, rfl⟩
  generalize run (~~~ 0#32) l = y at hr hlo ⊢
  go_wp2_with fail
  go_ret
  exact ⟨by rw [← hr.out]; rfl, rfl⟩

set_option maxHeartbeats 1000000 in
theorem rmore_c (s : Wo) (a : Option Addr) (n cp : Nat) (l : List By) (w : World) (hl : Bys w a n l) (hn : n ≤ 1000000000) :
    Calls Try.prog 17 #[.int .u32 (s.toNat : Int), .slice a n cp] w fun e w' => e = .returned (.int .u32 ((moreB s l).toNat : Int)) ∧ w = w' := by
  have HL := Lib.hid hl; clear hl
  obtain ⟨z, hz⟩ : ∃ z, z = ~~~ s := ⟨_, rfl⟩
  have h0 : Hid (4294967295 - (s.toNat : Int) = (z.toNat : Int)) := Lib.hid (by rw [hz, bsub])
  have hr : Hid (4294967295 - ((run z l).toNat : Int) = ((moreB s l).toNat : Int)) := Lib.hid (by rw [bsub, hz]; rfl)
  clear hz
  have hlo := lt32 (run z l)
  have hlo2 := lt32 s
  go_enter Try.func17, Try.ntmps17
  go_wp2_with fail
  rw [h0.out]
  refine (rrun_c z a n cp l _ HL.out hn).mono ?_
  rintro e w' ⟨rfl, rfl⟩
  generalize run z l = y at hr hlo ⊢
  go_wp2_with fail
  go_ret
  exact ⟨by rw [← hr.out]; rfl, rfl⟩

/-- A slice of slices of bytes. -/
def Prs (w : World) (a : Option Addr) (n : Nat) (ps : List (List By)) : Prop :=
  ps.length = n ∧ ∀ i p, ps[i]? = some p → p.length ≤ 1000000000 ∧ ∃ g off a' c', a = some ⟨g, off, none⟩ ∧ g < w.heap.size ∧ w.cell? ⟨g, off + i, none⟩ = some (.slice a' p.length c') ∧ Bys w a' p.length p
theorem Prs.below {w w' : World} {a : Option Addr} {n : Nat} {ps : List (List By)} (h : Prs w a n ps) (hb : Below w.heap.size w w') : Prs w' a n ps := by
  refine ⟨h.1, fun i p hi => ?_⟩
  obtain ⟨hp, g, off, a', c', e, hg, hc, hB⟩ := h.2 i p hi
  exact ⟨hp, g, off, a', c', e, Nat.lt_of_lt_of_le hg hb.size, (hb.cell (p := ⟨g, off + i, none⟩) hg).trans hc, hB.below hb⟩

theorem more_nil : (moreB 0#32 []).toNat = 0 := by decide +kernel
theorem more_flat (s : Wo) (ps : List (List By)) (k : Nat) (p : List By) (h : ps[k]? = some p) : moreB (moreB s (ps.take k).flatten) p = moreB s (ps.take (k + 1)).flatten := by
  rw [List.take_add_one, h, more_append]; simp

set_option maxHeartbeats 1000000 in
theorem sum_c (a : Option Addr) (n cp : Nat) (ps : List (List By)) (w : World) (hl : Prs w a n ps) (hn : n ≤ 1000000000) :
    Calls Try.prog 14 #[.slice a n cp] w fun e w' => e = .returned (.int .u32 ((sumB ps.flatten).toNat : Int)) ∧ Below w.heap.size w w' := by
  have HL := Lib.hid hl; clear hl
  go_enter Try.func14, Try.ntmps14
  go_wp2
  go_loopw [3, 8] (fun sv i wr => ∃ k : Nat, k ≤ n ∧ i = .int .i64 k ∧ sv = .int .u32 ((moreB 0#32 (ps.take k).flatten).toNat : Int) ∧ Below w.heap.size w wr) (fun _ i _ => n - (intOf i).toNat)
  case atStart => exact ⟨0, Nat.zero_le _, rfl, by rw [List.take_zero, List.flatten_nil, more_nil]; rfl, Below.refl _ _⟩
  case round =>
    obtain ⟨k, hk, rfl, rfl, hB⟩ := hrel
    have HB := Lib.hid hB; clear hB
    by_cases hlt : k < n
    · obtain ⟨p, hp⟩ : ∃ p, ps[k]? = some p := ⟨ps[k]'(by rw [HL.out.1]; exact hlt), List.getElem?_eq_getElem _⟩
      obtain ⟨hpl, g, off, a', c', rfl, hg, hcell, hbys⟩ := (HL.out.below HB.out).2 k p hp
      have HP := Lib.hid hp; clear hp
      have HY := Lib.hid hbys; clear hbys
      go_wp2_with fail
      refine (more_c _ a' p.length c' p _ HY.out hpl).mono ?_
      rintro e w2 ⟨rfl, hB2⟩
      have HB2 := Lib.hid (HB.out.trans (hB2.mono HB.out.size))
      clear hB2 hcell
      rw [more_flat _ _ _ _ HP.out]
      go_wp2_with fail
      go_roundw
      case rel => exact ⟨k + 1, by omega, by go_num, rfl, HB2.out⟩
      case measure => simp [intOf]; omega
    · obtain rfl : k = n := by omega
      have e : Hid (ps.take k = ps) := Lib.hid (List.take_of_length_le (by rw [HL.out.1]; exact Nat.le_refl _))
      go_wp2
      go_ret
      exact ⟨by rw [e.out]; rfl, HB.out⟩
end Go.Proofs.Ytodjbgcmlpmknaa
