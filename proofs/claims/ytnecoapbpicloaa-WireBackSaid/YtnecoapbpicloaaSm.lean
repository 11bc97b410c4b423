/- Sums, sealed bytes: what the code computes. -/
import Derived.Test.YtnecoapbpicloaaBz
namespace Go.Proofs.Ytnecoapbpicloaa
open Go.RowKit
set_option linter.unusedSimpArgs false
set_option linter.unusedVariables false
set_option maxRecDepth 100000

theorem lt32 (x : Wo) : x.toNat < 4294967296 := x.isLt

theorem bx (x y : Wo) : bits .xor .u32 (x.toNat : Int) (y.toNat : Int) = ((x ^^^ y).toNat : Int) := by
  rw [u32_xor_nat _ _ (lt32 x) (lt32 y), BitVec.toNat_xor]

theorem ba (x y : Wo) : bits .and .u32 (x.toNat : Int) (y.toNat : Int) = ((x &&& y).toNat : Int) := by
  rw [u32_and_nat _ _ (lt32 x) (lt32 y), BitVec.toNat_and]

theorem half (x : Wo) : (x.toNat : Int) / (2 : Int) = ((x >>> 1).toNat : Int) := by
  rw [BitVec.toNat_ushiftRight, Nat.shiftRight_eq_div_pow]; simp

theorem low_bit (x : Wo) : bits .and .u32 (x.toNat : Int) 1 = if x.getLsbD 0 then 1 else 0 := by
  have h := ba x 1#32
  rw [show ((1#32 : Wo).toNat : Int) = 1 from rfl] at h
  rw [h, BitVec.toNat_and]
  simp only [BitVec.getLsbD, Nat.testBit_zero]
  have e : x.toNat &&& (1#32 : Wo).toNat = x.toNat % 2 := by
    show x.toNat &&& 1 = _
    exact Nat.and_one_is_mod _
  rw [e]
  have : x.toNat % 2 = 0 ∨ x.toNat % 2 = 1 := by omega
  rcases this with h | h <;> simp [h]

theorem times_eq (x : Wo) : bits .xor .u32 ((x.toNat : Int) / 2) (bits .and .u32 (x.toNat : Int) 1 * 3988292384 % 4294967296) = ((tx x).toNat : Int) := by
  rw [low_bit, half]
  have e : ((if x.getLsbD 0 then (1 : Int) else 0) * 3988292384 % 4294967296) = (((if x.getLsbD 0 then poly else 0#32) : Wo).toNat : Int) := by
    cases x.getLsbD 0
    · simp
    · simp [poly]
  rw [e, bx]
  rfl

theorem rtimes_yes (x : Wo) (h : ((x.toNat : Int) % 2 == 1) = true) : bits .xor .u32 ((x.toNat : Int) / 2) 3988292384 = ((tx x).toNat : Int) := by
  have hb : x.getLsbD 0 = true := by
    simp only [BitVec.getLsbD, Nat.testBit_zero]
    simp at h
    simp; omega
  have := bx (x >>> 1) poly
  rw [half, show (3988292384 : Int) = (poly.toNat : Int) from rfl, this]
  simp [tx, hb]

theorem rtimes_no (x : Wo) (h : ((x.toNat : Int) % 2 == 1) = false) : ((x.toNat : Int) / 2) = ((tx x).toNat : Int) := by
  have hb : x.getLsbD 0 = false := by
    simp only [BitVec.getLsbD, Nat.testBit_zero]
    simp at h
    simp; omega
  have e : tx x = x >>> 1 := by unfold tx; rw [hb]; simp
  rw [half, e]

/-- The word at the head of block b. -/
def WordAt (w : World) (b : Nat) (x : Wo) : Prop := w.cell? ⟨b, 0, none⟩ = some (.int .u32 (x.toNat : Int)) ∧ w.frozen? ⟨b, 0, none⟩ = false

theorem WordAt.set {w : World} {b : Nat} {x : Wo} (h : WordAt w b x) (y : Wo) : WordAt (w.setCell ⟨b, 0, none⟩ (.int .u32 (y.toNat : Int))) b y :=
  ⟨World.cell?_setCell_same _ _ _ h.1, by rw [World.frozen?_setCell]; exact h.2⟩

theorem WordAt.lt {w : World} {b : Nat} {x : Wo} (h : WordAt w b x) : b < w.heap.size := cell_lt h.1

theorem WordAt.below {w w' : World} {b B : Nat} {x : Wo} (h : WordAt w b x) (hb : Below B w w') (hlt : b < B) : WordAt w' b x :=
  ⟨(hb.cell (p := ⟨b, 0, none⟩) hlt).trans h.1, (hb.frozen (p := ⟨b, 0, none⟩) hlt).trans h.2⟩

set_option maxHeartbeats 400000 in
theorem times_c (b : Nat) (x : Wo) (w : World) (h : WordAt w b x) :
    Calls Try.prog 80 #[.pointer (some ⟨b, 0, none⟩)] w fun e w' => e = .returned (.tuple #[]) ∧ w' = w.setCell ⟨b, 0, none⟩ (.int .u32 ((tx x).toNat : Int)) := by
  obtain ⟨hc, hf⟩ := h
  go_enter Try.func80, Try.ntmps80
  go_wp2
  go_end0
  exact ⟨rfl, by rw [times_eq]⟩

set_option maxHeartbeats 400000 in
theorem rtimes_c (x : Wo) (w : World) :
    Calls Try.prog 76 #[.int .u32 (x.toNat : Int)] w fun e w' => e = .returned (.int .u32 ((tx x).toNat : Int)) ∧ w = w' := by
  go_enter Try.func76, Try.ntmps76
  go_wp2
  · have h : ((x.toNat : Int) % 2 == 1) = true := by assumption
    rw [rtimes_yes x h]
    go_ret
    exact ⟨rfl, rfl⟩
  · have h : ((x.toNat : Int) % 2 == 1) = false := by assumption
    rw [rtimes_no x h]
    go_ret
    exact ⟨rfl, rfl⟩

theorem byte_word (c : BitVec 8) : (c.toNat : Int) = ((c.setWidth 32).toNat : Int) := by
  rw [BitVec.toNat_setWidth]; have := c.isLt; omega

set_option maxHeartbeats 400000 in
theorem step1_c (b bo : Nat) (x : Wo) (c : BitVec 8) (w : World) (h : WordAt w b x) (h0 : w.cell? ⟨bo, 0, none⟩ = some (.pointer (some ⟨b, 0, none⟩))) :
    Calls Try.prog 78 #[.int .u8 (c.toNat : Int), .pointer (some ⟨bo, 0, none⟩)] w fun e w' => e = .returned (.tuple #[]) ∧ w' = w.setCell ⟨b, 0, none⟩ (.int .u32 ((x ^^^ c.setWidth 32).toNat : Int)) := by
  obtain ⟨hc, hf⟩ := h
  go_enter Try.func78, Try.ntmps78
  go_wp2
  go_end0
  exact ⟨rfl, by rw [byte_word c, bx]⟩

set_option maxHeartbeats 400000 in
theorem step2_c (b bo : Nat) (x : Wo) (c : BitVec 8) (w : World) (h : WordAt w b x) (hne : bo ≠ b) (h0 : w.cell? ⟨bo, 0, none⟩ = some (.pointer (some ⟨b, 0, none⟩))) :
    Calls Try.prog 79 #[.int .u8 (c.toNat : Int), .pointer (some ⟨bo, 0, none⟩)] w fun e w' => e = .returned (.tuple #[]) ∧ WordAt w' b (txn 8 x) ∧ Only b w w' := by
  go_enter Try.func79, Try.ntmps79
  go_wp2
  go_loopw [3] (fun i wr => ∃ k : Nat, k ≤ 8 ∧ i = .int .i64 k ∧ WordAt wr b (txn k x) ∧ Only b w wr) (fun i _ => 8 - (intOf i).toNat)
  case atStart => exact ⟨0, Nat.zero_le _, rfl, h, Only.refl _ _⟩
  case round =>
    obtain ⟨k, hk, rfl, hW, hO⟩ := hrel
    have h0' := (World.cell?_of_block (a := ⟨bo, 0, none⟩) (hO.block bo (cell_lt h0) (fun e => hne (by injection e)))).trans h0
    have HW := Lib.hid hW; clear hW
    have HO := Lib.hid hO; clear hO
    have H0 := Lib.hid h0; clear h0
    have Hh := Lib.hid h; clear h
    by_cases hlt : k < 8
    · go_wp2_with fail
      refine (times_c b _ _ HW.out).mono ?_
      rintro e w1 ⟨rfl, rfl⟩
      have HW' : Hid (WordAt (wr.setCell ⟨b, 0, none⟩ (.int .u32 ((tx (txn k x)).toNat : Int))) b (txn (k + 1) x)) := Lib.hid (by rw [txn_succ]; exact HW.out.set _)
      have HO' := Lib.hid (HO.out.setCell (p := ⟨b, 0, none⟩) (.inl rfl) (.int .u32 ((tx (txn k x)).toNat : Int)))
      go_wp2_with fail
      go_roundw
      case rel => exact ⟨k + 1, by omega, by go_num, HW'.out, HO'.out⟩
      case measure => simp [intOf]; omega
    · obtain rfl : k = 8 := by omega
      go_wp2
      go_end0
      exact ⟨rfl, HW.out, HO.out⟩

theorem step1_w (b bo : Nat) (x : Wo) (c : BitVec 8) (w : World) (h : WordAt w b x) (h0 : w.cell? ⟨bo, 0, none⟩ = some (.pointer (some ⟨b, 0, none⟩))) :
    Calls Try.prog 78 #[.int .u8 (c.toNat : Int), .pointer (some ⟨bo, 0, none⟩)] w fun e w' => e = .returned (.tuple #[]) ∧ WordAt w' b (x ^^^ c.setWidth 32) ∧ Only b w w' :=
  (step1_c b bo x c w h h0).mono fun e w' ⟨he, hw⟩ => by
    subst hw
    exact ⟨he, h.set _, (Only.refl b w).setCell (.inl rfl) _⟩

set_option maxRecDepth 100000 in
set_option maxHeartbeats 1000000 in
theorem take_c (b : Nat) (x : Wo) (a : Option Addr) (n cp : Nat) (l : List By) (w : World) (h : WordAt w b x) (hl : Bys w a n l) (hb : ∀ g off, a = some ⟨g, off, none⟩ → 0 < n → g ≠ b) (hn : n ≤ 1000000000) :
    Calls Try.prog 77 #[.pointer (some ⟨b, 0, none⟩), .slice a n cp] w fun e w' => e = .returned (.tuple #[]) ∧ WordAt w' b (run x l) ∧ Only b w w' := by
  have hmf : ∀ (fn : Fn) (first cap : Array Value) (w : World), (Instr.makeFunc fn first cap).run Try.prog w = .ok (.func fn first cap) w := fun _ _ _ _ => rfl
  have HW := Lib.hid h
  have HL := Lib.hid hl
  have HB := Lib.hid hb
  have hblt := h.lt
  clear h hl hb
  go_enter Try.func77, Try.ntmps77
  go_wp2
  clear hmf
  have hx1 : Blk ((w.alloc (.cells #[.pointer (some ⟨b, 0, none⟩)] 128)).alloc (.cells #[.func (.func 78) #[] #[.pointer (some ⟨w.heap.size, 0, none⟩)], .func (.func 79) #[] #[.pointer (some ⟨w.heap.size, 0, none⟩)]] 129)) w.heap.size 128 #[.pointer (some ⟨b, 0, none⟩)] := (Blk.new _ _ _).alloc _
  have hx2 : Blk ((w.alloc (.cells #[.pointer (some ⟨b, 0, none⟩)] 128)).alloc (.cells #[.func (.func 78) #[] #[.pointer (some ⟨w.heap.size, 0, none⟩)], .func (.func 79) #[] #[.pointer (some ⟨w.heap.size, 0, none⟩)]] 129)) (w.heap.size + 1) 129 #[.func (.func 78) #[] #[.pointer (some ⟨w.heap.size, 0, none⟩)], .func (.func 79) #[] #[.pointer (some ⟨w.heap.size, 0, none⟩)]] := by
    have := Blk.new (w.alloc (.cells #[.pointer (some ⟨b, 0, none⟩)] 128)) 129 #[.func (.func 78) #[] #[.pointer (some ⟨w.heap.size, 0, none⟩)], .func (.func 79) #[] #[.pointer (some ⟨w.heap.size, 0, none⟩)]]
    rwa [World.size_alloc] at this
  have hO2 := ((Only.refl b w).alloc (.cells #[.pointer (some ⟨b, 0, none⟩)] 128)).alloc (.cells #[.func (.func 78) #[] #[.pointer (some ⟨w.heap.size, 0, none⟩)], .func (.func 79) #[] #[.pointer (some ⟨w.heap.size, 0, none⟩)]] 129)
  have hB2 := ((Below.refl w.heap.size w).alloc (Nat.le_refl _) (.cells #[.pointer (some ⟨b, 0, none⟩)] 128)).alloc (by simp) (.cells #[.func (.func 78) #[] #[.pointer (some ⟨w.heap.size, 0, none⟩)], .func (.func 79) #[] #[.pointer (some ⟨w.heap.size, 0, none⟩)]] 129)
  have hW2 := HW.out.below hB2 hblt
  have hL2 := HL.out.below hB2
  generalize ((w.alloc (.cells #[.pointer (some ⟨b, 0, none⟩)] 128)).alloc (.cells #[.func (.func 78) #[] #[.pointer (some ⟨w.heap.size, 0, none⟩)], .func (.func 79) #[] #[.pointer (some ⟨w.heap.size, 0, none⟩)]] 129)) = w2 at hx1 hx2 hO2 hB2 hW2 hL2 ⊢
  have HX1 := Lib.hid hx1; have HX2 := Lib.hid hx2; have HO2 := Lib.hid hO2; have HW2 := Lib.hid hW2; have HL2 := Lib.hid hL2
  clear hx1 hx2 hO2 hB2 hW2 hL2 HW HL
  go_loopw [14] (fun i wr => ∃ k : Nat, k ≤ n ∧ i = .int .i64 k ∧ WordAt wr b (run x (l.take k)) ∧ Only b w2 wr) (fun i _ => n - (intOf i).toNat)
  case atStart => exact ⟨0, Nat.zero_le _, rfl, HW2.out, Only.refl _ _⟩
  case round =>
    obtain ⟨k, hk, rfl, hW, hO⟩ := hrel
    have HWr := Lib.hid hW; have HOr := Lib.hid hO
    clear hW hO
    by_cases hlt : k < n
    · obtain ⟨c, hc⟩ : ∃ c, l[k]? = some c := ⟨l[k]'(by rw [HL2.out.1]; exact hlt), List.getElem?_eq_getElem _⟩
      obtain ⟨g, off, rfl, hg, hcell⟩ := HL2.out.2 k c hc
      have HC := Lib.hid hc; clear hc
      have hgb : g ≠ b := HB.out g off rfl (by omega)
      have c1 := (World.cell?_of_block (a := ⟨g, off + k, none⟩) (HOr.out.block g hg (fun e => hgb (by injection e)))).trans hcell
      have y1 : wr.cell? ⟨w.heap.size + 1, 0, none⟩ = some (.func (.func 78) #[] #[.pointer (some ⟨w.heap.size, 0, none⟩)]) := (HOr.out.blk HX2.out (by omega)).cell (i := 0) rfl
      have X1 : Hid (wr.cell? ⟨w.heap.size, 0, none⟩ = some (.pointer (some ⟨b, 0, none⟩))) := Lib.hid ((HOr.out.blk HX1.out (by omega)).cell (i := 0) rfl)
      clear hcell
      go_wp2_with fail
      refine wp_loop_rounds 3 ?_
      rw [rounds_succ]
      go_wp2_with fail
      refine (step1_w b _ _ c _ HWr.out X1.out).mono ?_
      rintro e w3 ⟨rfl, hW3, hO3⟩
      have HW3 := Lib.hid hW3
      have HO3 := Lib.hid (HOr.out.trans hO3)
      clear hW3 hO3 y1 c1
      have y2 : w3.cell? ⟨w.heap.size + 1, 1, none⟩ = some (.func (.func 79) #[] #[.pointer (some ⟨w.heap.size, 0, none⟩)]) := (HO3.out.blk HX2.out (by omega)).cell (i := 1) rfl
      have X3 : Hid (w3.cell? ⟨w.heap.size, 0, none⟩ = some (.pointer (some ⟨b, 0, none⟩))) := Lib.hid ((HO3.out.blk HX1.out (by omega)).cell (i := 0) rfl)
      go_wp2_with fail
      rw [rounds_succ]
      go_wp2_with fail
      refine (step2_c b _ _ c _ HW3.out (by omega) X3.out).mono ?_
      rintro e w4 ⟨rfl, hW4, hO4⟩
      have HW4 : Hid (WordAt w4 b (run x (l.take (k + 1)))) := by
        refine Lib.hid ?_
        rw [List.take_add_one, HC.out, Option.toList_some, run_append]
        exact hW4
      have HO4 := Lib.hid (HO3.out.trans hO4)
      clear hW4 hO4 y2
      go_wp2_with fail
      rw [rounds_succ]
      go_wp2_with fail
      go_roundw
      case rel => exact ⟨k + 1, by omega, by go_num, HW4.out, HO4.out⟩
      case measure => simp [intOf]; omega
    · obtain rfl : k = n := by omega
      go_wp2
      go_end0
      have e : l.take k = l := List.take_of_length_le (by rw [HL2.out.1]; exact Nat.le_refl _)
      rw [← e]
      exact ⟨rfl, HWr.out, HO2.out.trans HOr.out⟩

theorem bsub (x : Wo) : (4294967295 - (x.toNat : Int)) = ((~~~ x).toNat : Int) := by
  rw [BitVec.toNat_not]; have := lt32 x; omega

theorem bnot (x : Wo) : bits .xor .u32 IntKind.u32.max (x.toNat : Int) = ((~~~ x).toNat : Int) := by
  have h := bx (BitVec.allOnes 32) x
  rw [show ((BitVec.allOnes 32).toNat : Int) = IntKind.u32.max from rfl, BitVec.allOnes_xor] at h
  exact h

set_option maxHeartbeats 1000000 in
theorem more_c (s : Wo) (a : Option Addr) (n cp : Nat) (l : List By) (w : World) (hl : Bys w a n l) (hn : n ≤ 1000000000) :
    Calls Try.prog 74 #[.int .u32 (s.toNat : Int), .slice a n cp] w fun e w' => e = .returned (.int .u32 ((moreB s l).toNat : Int)) ∧ Below w.heap.size w w' := by
  have HL := Lib.hid hl; clear hl
  obtain ⟨y, hy⟩ : ∃ y, y = ~~~ s := ⟨_, rfl⟩
  have hx : Hid (bits .xor .u32 IntKind.u32.max (s.toNat : Int) = (y.toNat : Int)) := Lib.hid (by rw [hy]; exact bnot s)
  have hr : Hid (bits .xor .u32 IntKind.u32.max ((run y l).toNat : Int) = ((moreB s l).toNat : Int)) := Lib.hid (by rw [bnot, hy]; rfl)
  clear hy
  have hsg : ¬ IntKind.u32.signed = true := by decide
  go_enter Try.func74, Try.ntmps74
  go_wp2_with fail
  rw [hx.out]
  have hW : WordAt (w.alloc (.cells #[.int .u32 (y.toNat : Int)] 126)) w.heap.size y := ⟨blk0 rfl, by simp [go_sem]⟩
  have hB := (Below.refl w.heap.size w).alloc (Nat.le_refl _) (.cells #[.int .u32 (y.toNat : Int)] 126)
  refine (take_c _ y a n cp l _ hW (HL.out.below hB) ?_ hn).mono ?_
  · intro g off e h0
    obtain ⟨c, hc⟩ : ∃ c, l[0]? = some c := ⟨l[0]'(by rw [HL.out.1]; exact h0), List.getElem?_eq_getElem _⟩
    obtain ⟨g', off', e', hg', _⟩ := HL.out.2 0 c hc
    rw [e] at e'
    injection e' with e'
    injection e' with e1
    omega
  rintro e w2 ⟨rfl, hW2, hO2⟩
  have hB2 := Lib.hid (hB.trans (hO2.below (by simp) (Nat.le_refl _)))
  obtain ⟨hc, _⟩ := hW2
  clear hW hB hO2
  go_wp2_with fail
  rw [hr.out]
  go_ret
  exact ⟨rfl, hB2.out⟩

set_option maxHeartbeats 1000000 in
theorem rrun_c (x : Wo) (a : Option Addr) (n cp : Nat) (l : List By) (w : World) (hl : Bys w a n l) (hn : n ≤ 1000000000) :
    Calls Try.prog 73 #[.int .u32 (x.toNat : Int), .slice a n cp] w fun e w' => e = .returned (.int .u32 ((run x l).toNat : Int)) ∧ w = w' := by
  have HL := Lib.hid hl; clear hl
  go_enter Try.func73, Try.ntmps73
  go_wp2
  go_loop [0, 5] (fun xv i => ∃ k : Nat, k ≤ n ∧ i = .int .i64 k ∧ xv = .int .u32 ((run x (l.take k)).toNat : Int)) (fun _ i => n - (intOf i).toNat)
  case atStart => exact ⟨0, Nat.zero_le _, rfl, rfl⟩
  case round =>
    obtain ⟨k, hk, rfl, rfl⟩ := hrel
    by_cases hlt : k < n
    · obtain ⟨c, hc⟩ : ∃ c, l[k]? = some c := ⟨l[k]'(by rw [HL.out.1]; exact hlt), List.getElem?_eq_getElem _⟩
      obtain ⟨g, off, rfl, hg, hcell⟩ := HL.out.2 k c hc
      have HC := Lib.hid hc; clear hc
      obtain ⟨y, hy⟩ : ∃ y, y = run x (l.take k) ^^^ c.setWidth 32 := ⟨_, rfl⟩
      have hx : Hid (bits .xor .u32 ((run x (l.take k)).toNat : Int) (c.toNat : Int) = (y.toNat : Int)) := Lib.hid (by rw [hy, byte_word c, bx])
      have he : Hid (txn 8 y = run x (l.take (k + 1))) := Lib.hid (by
        rw [List.take_add_one, HC.out, Option.toList_some, run_append, hy]; rfl)
      clear hy
      go_wp2_with fail
      rw [hx.out]
      go_loop [0, 6] (fun xv j => ∃ q : Nat, q ≤ 8 ∧ j = .int .i64 q ∧ xv = .int .u32 ((txn q y).toNat : Int)) (fun _ j => 8 - (intOf j).toNat)
      case atStart => exact ⟨0, Nat.zero_le _, rfl, rfl⟩
      case round =>
        obtain ⟨q, hq, rfl, rfl⟩ := hrel
        by_cases hql : q < 8
        · go_wp2_with fail
          refine (rtimes_c _ _).mono ?_
          rintro e w' ⟨rfl, rfl⟩
          go_wp2_with fail
          go_round
          case rel => exact ⟨q + 1, by omega, by go_num, by rw [txn_succ]⟩
          case measure => simp [intOf]; omega
        · obtain rfl : q = 8 := by omega
          go_wp2_with fail
          rw [he.out]
          go_round
          case rel => exact ⟨k + 1, by omega, by go_num, rfl⟩
          case measure => simp [intOf]; omega
    · obtain rfl : k = n := by omega
      have e : Hid (l.take k = l) := Lib.hid (List.take_of_length_le (by rw [HL.out.1]; exact Nat.le_refl _))
      go_wp2
      go_ret
      exact ⟨by rw [e.out]; rfl, rfl⟩

set_option maxHeartbeats 1000000 in
theorem rsum_c (a : Option Addr) (n cp : Nat) (l : List By) (w : World) (hl : Bys w a n l) (hn : n ≤ 1000000000) :
    Calls Try.prog 68 #[.slice a n cp] w fun e w' => e = .returned (.int .u32 ((sumB l).toNat : Int)) ∧ w = w' := by
  have HL := Lib.hid hl; clear hl
  have h0 : Hid ((4294967295 : Int) = ((~~~ 0#32 : Wo).toNat : Int)) := Lib.hid rfl
  have hr : Hid (4294967295 - ((run (~~~ 0#32) l).toNat : Int) = ((sumB l).toNat : Int)) := Lib.hid (by rw [bsub]; rfl)
  have hlo := lt32 (run (~~~ 0#32) l)
  go_enter Try.func68, Try.ntmps68
  go_wp2_with fail
  refine (rrun_c (~~~ 0#32) a n cp l _ HL.out hn).mono ?_
  rintro e w' ⟨rfl, rfl⟩
  generalize run (~~~ 0#32) l = y at hr hlo ⊢
  go_wp2_with fail
  go_ret
  exact ⟨by rw [← hr.out]; rfl, rfl⟩

theorem more_nil : (moreB 0#32 []).toNat = 0 := by decide +kernel

theorem more_flat (s : Wo) (ps : List (List By)) (k : Nat) (p : List By) (h : ps[k]? = some p) : moreB (moreB s (ps.take k).flatten) p = moreB s (ps.take (k + 1)).flatten := by
  rw [List.take_add_one, h, more_append]; simp

set_option maxHeartbeats 1000000 in
theorem sum_c (a : Option Addr) (n cp : Nat) (ps : List (List By)) (w : World) (hl : Prs w a n ps) (hn : n ≤ 1000000000) :
    Calls Try.prog 71 #[.slice a n cp] w fun e w' => e = .returned (.int .u32 ((sumB ps.flatten).toNat : Int)) ∧ Below w.heap.size w w' := by
  have HL := Lib.hid hl; clear hl
  go_enter Try.func71, Try.ntmps71
  go_wp2
  go_loopw [3, 8] (fun sv i wr => ∃ k : Nat, k ≤ n ∧ i = .int .i64 k ∧ sv = .int .u32 ((moreB 0#32 (ps.take k).flatten).toNat : Int) ∧ Below w.heap.size w wr) (fun _ i _ => n - (intOf i).toNat)
  case atStart => exact ⟨0, Nat.zero_le _, rfl, by rw [List.take_zero, List.flatten_nil, more_nil]; rfl, Below.refl _ _⟩
  case round =>
    obtain ⟨k, hk, rfl, rfl, hB⟩ := hrel
    have HB := Lib.hid hB; clear hB
    by_cases hlt : k < n
    · obtain ⟨p, hp⟩ : ∃ p, ps[k]? = some p := ⟨ps[k]'(by rw [HL.out.1]; exact hlt), List.getElem?_eq_getElem _⟩
      obtain ⟨hpl, g, off, a', c', rfl, hg, hcell, hbys⟩ := (HL.out.below HB.out).2 k p hp
      have HP := Lib.hid hp; clear hp
      have HY := Lib.hid hbys; clear hbys
      go_wp2_with fail
      refine (more_c _ a' p.length c' p _ HY.out hpl).mono ?_
      rintro e w2 ⟨rfl, hB2⟩
      have HB2 := Lib.hid (HB.out.trans (hB2.mono HB.out.size))
      clear hB2 hcell
      rw [more_flat _ _ _ _ HP.out]
      go_wp2_with fail
      go_roundw
      case rel => exact ⟨k + 1, by omega, by go_num, rfl, HB2.out⟩
      case measure => simp [intOf]; omega
    · obtain rfl : k = n := by omega
      have e : Hid (ps.take k = ps) := Lib.hid (List.take_of_length_le (by rw [HL.out.1]; exact Nat.le_refl _))
      go_wp2
      go_ret
      exact ⟨by rw [e.out]; rfl, HB.out⟩

theorem bnat (x y : By) : ((x.toNat : Int) != (y.toNat : Int)) = decide (x ≠ y) := by
  by_cases h : x = y
  · subst h; simp
  · have : x.toNat ≠ y.toNat := fun e => h (BitVec.eq_of_toNat_eq e)
    simp [h]; omega

set_option maxHeartbeats 1000000 in
theorem equal_c (a1 a2 : Option Addr) (n1 n2 c1 c2 : Nat) (xs ys : List By) (w : World) (h1 : Bys w a1 n1 xs) (h2 : Bys w a2 n2 ys) (hm : n1 ≤ 1000000000) :
    Calls Try.prog 69 #[.slice a1 n1 c1, .slice a2 n2 c2] w fun e w' => e = .returned (.bool (decide (xs = ys))) ∧ Below w.heap.size w w' := by
  have h1l := h1.1
  have h2l := h2.1
  subst h1l; subst h2l
  by_cases hl : xs.length = ys.length
  · have hq : ((xs.length : Int) != (ys.length : Int)) = false := by simp [hl]
    have Hl := Lib.hid hl
    have H1 := Lib.hid h1; clear h1
    have H2 := Lib.hid h2; clear h2
    clear hl
    go_enter Try.func69, Try.ntmps69
    go_wp2
    go_loopw [13] (fun i wr => ∃ k : Nat, k ≤ xs.length ∧ i = .int .i64 k ∧ (∀ j, j < k → xs[j]? = ys[j]?) ∧ ∃ m, wr = w.drewN m) (fun i _ => xs.length - (intOf i).toNat)
    case atStart => exact ⟨0, Nat.zero_le _, rfl, fun j hj => by omega, 0, rfl⟩
    case round =>
      obtain ⟨k, hk, rfl, hs, m, rfl⟩ := hrel
      have HS := Lib.hid hs; clear hs
      by_cases hlt : k < xs.length
      · have hx : xs[k]? = some xs[k] := List.getElem?_eq_getElem hlt
        have hlt2 : k < ys.length := by have := Hl.out; omega
        have hy : ys[k]? = some ys[k] := List.getElem?_eq_getElem hlt2
        obtain ⟨g1, o1, rfl, _, d1⟩ := H1.out.2 k _ hx
        obtain ⟨g2, o2, rfl, _, d2⟩ := H2.out.2 k _ hy
        have Hx := Lib.hid hx; clear hx
        have Hy := Lib.hid hy; clear hy
        obtain ⟨x, hxx⟩ : ∃ x, x = xs[k] := ⟨_, rfl⟩
        obtain ⟨y, hyy⟩ : ∃ y, y = ys[k] := ⟨_, rfl⟩
        rw [← hxx] at d1 Hx
        rw [← hyy] at d2 Hy
        clear hxx hyy
        have q0 := bnat x y
        by_cases hxy : x = y
        · have q1 : ((x.toNat : Int) != (y.toNat : Int)) = false := by rw [q0]; simp [hxy]
          have Hxy := Lib.hid hxy; clear hxy q0
          go_wp2
          go_quiet (fail)
          go_wp2
          go_roundw
          case rel =>
            refine ⟨k + 1, by omega, by go_num, fun j hj => ?_, ⟨_, rfl⟩⟩
            by_cases e : j = k
            · rw [e, Hx.out, Hy.out, Hxy.out]
            · exact HS.out j (by omega)
          case measure => simp [intOf]; omega
        · have q1 : ((x.toNat : Int) != (y.toNat : Int)) = true := by rw [q0]; simp [hxy]
          have Hxy := Lib.hid hxy; clear hxy q0
          go_wp2
          go_quiet (fail)
          go_wp2
          go_ret
          refine ⟨?_, (by rw [World.drewN_drewN]; exact below_drewN (Below.refl _ _) _)⟩
          have : ¬ xs = ys := fun e => by have h1 := Hx.out; have h2 := Hy.out; rw [e, h2] at h1; exact Hxy.out (by injection h1 with h; exact h.symm)
          simp [this]
      · obtain rfl : k = xs.length := by omega
        go_wp2
        go_ret
        refine ⟨?_, below_drewN (Below.refl _ _) _⟩
        have : xs = ys := by
          apply List.ext_getElem?
          intro j
          by_cases hj : j < xs.length
          · exact HS.out j hj
          · rw [List.getElem?_eq_none (by omega), List.getElem?_eq_none (by have := Hl.out; omega)]
        simp [this]
  · have hq : ((xs.length : Int) != (ys.length : Int)) = true := by simp; omega
    have hne : ¬ xs = ys := fun e => hl (by rw [e])
    have Hne := Lib.hid hne; clear hne hl h1 h2
    go_enter Try.func69, Try.ntmps69
    go_wp2
    go_ret
    exact ⟨by simp [Hne.out], Below.refl _ _⟩

/-- A word's four bytes, the lowest first. -/
def lowB (x : Wo) : List By := [BitVec.ofNat 8 x.toNat, BitVec.ofNat 8 (x.toNat / 256), BitVec.ofNat 8 (x.toNat / 65536), BitVec.ofNat 8 (x.toNat / 16777216)]

theorem run_make4 (W : World) : (Instr.makeSlice 22 (.int .i64 4) (.int .i64 4)).run Try.prog W = .ok (.slice (some ⟨W.heap.size, 0, none⟩) 4 4) (W.alloc (.cells #[.int .u8 0, .int .u8 0, .int .u8 0, .int .u8 0] 5)) := by
  obtain ⟨i0, hi, hz0, hz1, hz2⟩ := info_parts info5
  have h := run_make (P := Try.prog) W 22 5 i0 _ Try.underlying22 hi hz0 .i64 .i64 4 4 (by decide) (by decide) (by rw [hz2]; decide) (by decide)
  have e : madeCells (Value.int .u8 0).cells (Int.toNat 4 * 1) = #[.int .u8 0, .int .u8 0, .int .u8 0, .int .u8 0] := by kernel_rfl
  rw [hz1, e] at h
  exact h

set_option maxHeartbeats 1000000 in
theorem low_c (x : Wo) (w : World) :
    Calls Try.prog 70 #[.int .u32 (x.toNat : Int)] w fun e w' => ∃ v, e = .returned v ∧ OwnB w' w.heap.size v (lowB x) ∧ Below w.heap.size w w' := by
  have hx := lt32 x
  have hmk := run_make4
  go_enter Try.func70, Try.ntmps70
  go_wp2
  have hB := (Below.refl w.heap.size w).alloc (Nat.le_refl _) (.cells #[.int .u8 0, .int .u8 0, .int .u8 0, .int .u8 0] 5)
  have hX := Blk.new w 5 #[.int .u8 0, .int .u8 0, .int .u8 0, .int .u8 0]
  generalize (w.alloc (.cells #[.int .u8 0, .int .u8 0, .int .u8 0, .int .u8 0] 5)) = w1 at hB hX ⊢
  have HB := Lib.hid hB
  have z0 := hX.frozen 0
  have z1 := hX.frozen 1
  have z2 := hX.frozen 2
  have z3 := hX.frozen 3
  have y0 := hX.cell (i := 0) rfl
  have y1 := hX.cell (i := 1) rfl
  have y2 := hX.cell (i := 2) rfl
  have y3 := hX.cell (i := 3) rfl
  have HX := Lib.hid hX
  clear hB hX hmk
  refine wp_loop_rounds 5 ?_
  rw [rounds_succ]; go_wp2
  rw [rounds_succ]; go_wp2
  rw [rounds_succ]; go_wp2
  rw [rounds_succ]; go_wp2
  rw [rounds_succ]; go_wp2
  go_ret
  refine ⟨_, rfl, own_blk ((((HX.out.set 0 (.int .u8 ((x.toNat : Int) % 256))).set 1 (.int .u8 ((x.toNat : Int) / 256 % 256))).set 2 (.int .u8 ((x.toNat : Int) / 65536 % 256))).set 3 (.int .u8 ((x.toNat : Int) / 16777216))) (Nat.le_refl _) ?_ rfl (by decide), ?_⟩
  · simp [bl, lowB]
    omega
  · exact ((((HB.out.setCell (Nat.le_refl _) _).setCell (Nat.le_refl _) _).setCell (Nat.le_refl _) _).setCell (Nat.le_refl _) _)

def sealB (l : List By) : List By := l ++ lowB (sumB l)

theorem low_len (x : Wo) : (lowB x).length = 4 := rfl

set_option maxHeartbeats 1000000 in
theorem seal_c (a : Option Addr) (n c : Nat) (l : List By) (w : World) (h : Bys w a n l) (hn : n ≤ 1000000) :
    Calls Try.prog 64 #[.slice a n c] w fun e w' => ∃ v, e = .returned v ∧ OwnB w' w.heap.size v (sealB l) ∧ Below w.heap.size w w' := by
  have H := Lib.hid h; clear h
  go_enter Try.func64, Try.ntmps64
  go_wp2_with fail
  refine (sum_c _ 1 _ [l] _ (Prs.one c 22 H.out (by omega)) (by omega)).mono ?_
  rintro e w1 ⟨rfl, hb⟩
  have HB := Lib.hid (((Below.refl w.heap.size w).alloc (Nat.le_refl _) (.cells #[.slice a n c] 22)).trans (hb.mono (by simp)))
  clear hb
  have e1 : [l].flatten = l := by simp
  rw [e1]
  go_wp2_with fail
  refine (low_c _ _).mono ?_
  rintro e w2 ⟨v, rfl, ho, hb⟩
  obtain ⟨a2, c2, rfl, _, hy⟩ := ho.bys
  have HB2 := Lib.hid (HB.out.trans (hb.mono HB.out.size))
  have HY := Lib.hid hy
  clear ho hb hy
  have HP := Lib.hid (Prs.two c c2 22 (H.out.below HB2.out) HY.out (by omega) (by rw [low_len]; omega))
  rw [low_len]
  rw [low_len] at HP
  go_wp2_with fail
  refine (concat_c _ 2 _ [l, lowB (sumB l)] _ HP.out (by omega) ?hf).mono ?_
  case hf =>
    have := H.out.1
    simp [low_len]
    omega
  rintro e w3 ⟨v, rfl, ho, hb⟩
  have HO := Lib.hid ho; have HB3 := Lib.hid (HB2.out.trans (((Below.refl w2.heap.size w2).alloc (Nat.le_refl _) (.cells #[.slice a n c, .slice a2 4 c2] 22)).trans (hb.mono (by simp)) |>.mono HB2.out.size))
  clear ho hb
  go_wp2_with fail
  go_ret
  refine ⟨v, rfl, ?_, HB3.out⟩
  have := HO.out
  have e2 : [l, lowB (sumB l)].flatten = sealB l := by simp [sealB]
  rw [e2] at this
  exact own_low this (by have := HB2.out.size; simp; omega)

set_option maxHeartbeats 1000000 in
theorem rseal_c (a : Option Addr) (n c : Nat) (l : List By) (w : World) (h : Bys w a n l) (hn : n ≤ 1000000) :
    Calls Try.prog 60 #[.slice a n c] w fun e w' => ∃ v, e = .returned v ∧ OwnB w' w.heap.size v (sealB l) ∧ Below w.heap.size w w' ∧ v ≠ .slice none 0 0 := by
  have H := Lib.hid h; clear h
  go_enter Try.func60, Try.ntmps60
  go_wp2_with fail
  refine (rsum_c a n c l _ H.out (by omega)).mono ?_
  rintro e w1 ⟨rfl, rfl⟩
  have hs := lt32 (sumB l)
  obtain ⟨x, hx⟩ : ∃ x, x = sumB l := ⟨_, rfl⟩
  rw [← hx] at hs ⊢
  have HX := Lib.hid hx; clear hx
  go_wp2_with (at_builtin; refine wpl_append_bys rfl _ _ rfl w.heap.size _ [] rfl (own_empty w) a n c l rfl (H.out.below ((Below.refl _ _).alloc (Nat.le_refl _) _)) ?c1 ?c2 ?_)
  case c1 => simp; omega
  case c2 => simp
  intro v w1 hown hg hnl
  have HB := Lib.hid (((Below.refl w.heap.size w).alloc (Nat.le_refl _) (.cells #[] 5)).grown hg (by simp) (fun k e => by simp [Value.ownBlock] at e; omega))
  have HO := Lib.hid hown
  have HN := Lib.hid hnl
  clear hown hg hnl
  go_wp2_with (at_builtin; refine wpl_append_bys rfl _ _ rfl w.heap.size _ l rfl (HO.out.below ((Below.refl _ _).alloc (Nat.le_refl _) _)) _ 4 _ (lowB x) rfl (Bys.lit _ ?c0 rfl) ?c1 ?c2 ?_)
  case c0 => simp [bl, lowB]; omega
  case c1 => have := H.out.1; omega
  case c2 => have := HB.out.size; simp; omega
  intro v2 w2 hown hg hnl
  have HO2 := Lib.hid hown
  have HN2 := Lib.hid (hnl HN.out)
  have HB2 := Lib.hid (HB.out.trans (((Below.refl w.heap.size w1).alloc HB.out.size _).trans (own_grown (base := w.heap.size) (B := w.heap.size) (HO.out.below ((Below.refl _ _).alloc (Nat.le_refl _) _)) hg (Nat.le_refl _) (by have := HB.out.size; simp; omega))))
  clear hown hg hnl
  go_wp2_with fail
  go_ret
  have h2 := HO2.out
  rw [HX.out] at h2
  exact ⟨v2, rfl, h2, HB2.out, HN2.out⟩

/-- Whether bytes are sealed ones. -/
def openB (l : List By) : Bool := decide (4 ≤ l.length) && decide (lowB (sumB (l.take (l.length - 4))) = l.drop (l.length - 4))

set_option maxHeartbeats 1000000 in
theorem open_short (a : Option Addr) (n c : Nat) (w : World) (hn : n < 4) :
    Calls Try.prog 62 #[.slice a n c] w fun e w' => e = .returned (.tuple #[.slice none 0 0, .int .i64 110]) ∧ Below w.heap.size w w' := by
  have hq : (n : Int) - 4 < 0 := by omega
  go_enter Try.func62, Try.ntmps62
  go_wp2
  go_quiet (fail)
  go_wp2
  go_ret2
  exact ⟨rfl, below_drewN (Below.refl _ _) _⟩

set_option maxHeartbeats 1000000 in
theorem open_long (a : Option Addr) (n c : Nat) (l : List By) (w : World) (h : Bys w a n l) (h4 : 4 ≤ n) (hn : n ≤ 1000000) (hc : n ≤ c) (u : Bool) (hu : u = openB l) :
    Calls Try.prog 62 #[.slice a n c] w fun e w' => Below w.heap.size w w' ∧ if u then ∃ v, e = .returned (.tuple #[v, .int .i64 0]) ∧ OwnB w' w.heap.size v (l.take (n - 4)) else e = .returned (.tuple #[.slice none 0 0, .int .i64 110]) := by
  have HU := Lib.hid hu; clear hu
  obtain ⟨g, off, rfl, hg, _⟩ := h.cells (by omega)
  have H := Lib.hid h; clear h
  obtain ⟨m, rfl⟩ : ∃ m, n = m + 4 := ⟨n - 4, by omega⟩
  have k1 : c ≠ m := by omega
  have k2 : ¬ c < m := by omega
  have k3 : ¬ (m : Int) + 4 < m := by omega
  have k4 : c - m ≠ 0 := by omega
  go_enter Try.func62, Try.ntmps62
  go_wp2
  refine wp_region_any (by kernel_rfl) ?_
  change wpAny _ _ _ _ _ _ _ (World.drew _)
  refine wpAny_take (i := 0) (v := .int .i64 (m : Int)) rfl (by kernel_rfl) (by kernel_rfl) (by kernel_rfl) (fun _ _ _ h => h) (Or.inl ⟨by kernel_rfl, fun w => ?_⟩) ?_
  · go_simp
  refine wpAny_take (i := 1) (v := .bool false) rfl (by kernel_rfl) (by kernel_rfl) (by kernel_rfl) (fun _ _ _ h => h) (Or.inl ⟨by kernel_rfl, fun w => ?_⟩) ?_
  · go_simp
  refine wpAny_take (i := 2) (v := .bool false) rfl (by kernel_rfl) (by kernel_rfl) (by kernel_rfl) (fun _ _ _ h => h) (Or.inl ⟨by kernel_rfl, fun w => ?_⟩) ?_
  · go_simp
  refine wpAny_take (i := 3) (v := .slice (some ⟨g, off, none⟩) (m + 4) c) rfl (by kernel_rfl) (by kernel_rfl) (by kernel_rfl) (fun _ _ _ h => h) (Or.inl ⟨by kernel_rfl, fun w => ?_⟩) ?_
  · go_simp
  refine wpAny_take (i := 4) (v := .int .i64 (m : Int)) rfl (by kernel_rfl) (by kernel_rfl) (by kernel_rfl) (fun _ _ _ h => h) (Or.inl ⟨by kernel_rfl, fun w => ?_⟩) ?_
  · go_simp
  refine wpAny_take (i := 5) (v := .slice (some ⟨g, off, none⟩) m c) rfl (by kernel_rfl) (by kernel_rfl) (by kernel_rfl) (fun _ _ _ h => h) (Or.inl ⟨by kernel_rfl, fun w => ?_⟩) ?_
  · go_simp
  refine wpAny_take (i := 9) (v := .slice (some ⟨g, off, none⟩) (m + 4) c) rfl (by kernel_rfl) (by kernel_rfl) (by kernel_rfl) (fun _ _ _ h => h) (Or.inl ⟨by kernel_rfl, fun w => ?_⟩) ?_
  · go_simp
  refine wpAny_take (i := 10) (v := .int .i64 (m : Int)) rfl (by kernel_rfl) (by kernel_rfl) (by kernel_rfl) (fun _ _ _ h => h) (Or.inl ⟨by kernel_rfl, fun w => ?_⟩) ?_
  · go_simp
  refine wpAny_take (i := 11) (v := .slice (some ⟨g, off + m, none⟩) 4 (c - m)) rfl (by kernel_rfl) (by kernel_rfl) (by kernel_rfl) (fun _ _ _ h => h) (Or.inl ⟨by kernel_rfl, fun w => ?_⟩) ?_
  · go_simp
  refine wpAny_ready (rs := [6]) (by kernel_rfl) (by simp) ?_
  refine AllReady.cons rfl (fun K hK => ?_) AllReady.nil
  go_simp
  refine hK _ _ ?_
  clear hK K
  have HP := Lib.hid ((Prs.one c 22 (H.out.take m (by omega)) (by omega)).below ((Below.refl _ _).drew))
  have HB := Lib.hid (((Below.refl w.heap.size w).alloc (Nat.le_refl _) (.cells #[.slice (some ⟨g, off, none⟩) m c] 22)).drew)
  generalize (w.alloc (.cells #[.slice (some ⟨g, off, none⟩) m c] 22)).drew = w1 at HP HB ⊢
  refine wpAny_ready (rs := [7]) (by kernel_rfl) (by simp) ?_
  refine AllReady.cons rfl (fun K hK => ?_) AllReady.nil
  go_simp
  refine (sum_c _ 1 _ [l.take m] _ HP.out (by omega)).mono ?_
  rintro e w2 ⟨rfl, hb⟩
  have HB2 := Lib.hid (HB.out.trans (hb.mono HB.out.size))
  clear hb HP HB
  have e1 : [l.take m].flatten = l.take m := by simp
  rw [e1]
  clear e1
  obtain ⟨x, hx⟩ : ∃ x, x = sumB (l.take m) := ⟨_, rfl⟩
  rw [← hx]
  have HX := Lib.hid hx; clear hx
  refine hK _ _ ?_
  clear hK K
  refine wpAny_ready (rs := [8]) (by kernel_rfl) (by simp) ?_
  refine AllReady.cons rfl (fun K hK => ?_) AllReady.nil
  go_simp
  refine (low_c _ _).mono ?_
  rintro e w3 ⟨v, rfl, ho, hb⟩
  obtain ⟨a2, c2, rfl, _, hy⟩ := ho.bys
  have HB3 := Lib.hid (HB2.out.trans (hb.mono HB2.out.size))
  have HY := Lib.hid hy
  clear ho hb hy HB2
  rw [low_len] at HY ⊢
  refine hK _ _ ?_
  clear hK K
  refine wpAny_ready (rs := [12]) (by kernel_rfl) (by simp) ?_
  refine AllReady.cons rfl (fun K hK => ?_) AllReady.nil
  go_simp
  have HD : Hid (Bys w3 (some ⟨g, off + m, none⟩) 4 (l.drop m)) := by
    have := (H.out.below HB3.out).drop m (by omega)
    rw [add_plain, show m + 4 - m = 4 by omega] at this
    exact Lib.hid this
  refine (equal_c _ _ _ _ _ _ _ _ _ HY.out HD.out (by omega)).mono ?_
  rintro e w4 ⟨rfl, hb⟩
  have HB4 := Lib.hid (HB3.out.trans (hb.mono HB3.out.size))
  clear hb HB3 HY HD
  have eu : decide (lowB x = l.drop m) = u := by
    rw [HU.out, HX.out]
    have hl := H.out.1
    simp [openB, hl]
  rw [eu]
  refine hK _ _ ?_
  clear hK K
  refine wpAny_ready (rs := [13]) (by kernel_rfl) (by simp) ?_
  refine AllReady.cons rfl (fun K hK => ?_) AllReady.nil
  go_simp
  refine hK _ _ ?_
  clear hK K
  refine wpAny_ready (rs := [14]) (by kernel_rfl) (by simp) ?_
  refine AllReady.cons rfl (fun K hK => ?_) AllReady.nil
  go_simp
  refine hK _ _ ?_
  clear hK K
  refine wpAny_done (by kernel_rfl) ?_ _
  clear eu HU
  cases u
  · go_wp2
    go_ret2
    exact ⟨HB4.out, rfl⟩
  · go_wp2_with fail
    refine (clone_c _ _ _ (l.take m) _ ((H.out.below HB4.out).take m (by omega)) (by omega)).mono ?_
    rintro e w5 ⟨v, rfl, ho, hb⟩
    have HO := Lib.hid ho
    have HB5 := Lib.hid (HB4.out.trans (hb.mono HB4.out.size))
    clear ho hb
    go_wp2_with fail
    go_ret2
    refine ⟨HB5.out, v, rfl, ?_⟩
    have := HO.out
    exact own_low this HB4.out.size

theorem seal_eq (l : List By) (h : 4 ≤ l.length) : decide (sealB (l.take (l.length - 4)) = l) = openB l := by
  unfold openB
  rw [Bool.eq_iff_iff]
  simp only [decide_eq_true_eq, Bool.and_eq_true]
  constructor
  · intro e
    refine ⟨h, ?_⟩
    have := congrArg (List.drop (l.length - 4)) e
    unfold sealB at this
    rw [List.drop_append] at this
    simpa using this
  · rintro ⟨_, e⟩
    unfold sealB
    rw [e, List.take_append_drop]

theorem str_ne (a b : List By) : ((strOf a).toList != (strOf b).toList) = !decide (a = b) := by rw [bne, str_eq]

set_option maxHeartbeats 1000000 in
theorem ropen_short (a : Option Addr) (n c : Nat) (w : World) (hn : n < 4) :
    Calls Try.prog 63 #[.slice a n c] w fun e w' => e = .returned (.tuple #[.slice none 0 0, .int .i64 110]) ∧ w = w' := by
  have hq : (n : Int) < 4 := by omega
  go_enter Try.func63, Try.ntmps63
  go_wp2
  go_ret2
  exact ⟨rfl, rfl⟩

set_option maxHeartbeats 2000000 in
theorem ropen_long (a : Option Addr) (n c : Nat) (l : List By) (w : World) (h : Bys w a n l) (h4 : 4 ≤ n) (hn : n ≤ 1000000) (hc : n ≤ c) (u : Bool) (hu : u = openB l) :
    Calls Try.prog 63 #[.slice a n c] w fun e w' => Below w.heap.size w w' ∧ if u then ∃ v, e = .returned (.tuple #[v, .int .i64 0]) ∧ OwnB w' w.heap.size v (l.take (n - 4)) else e = .returned (.tuple #[.slice none 0 0, .int .i64 110]) := by
  have HU := Lib.hid hu; clear hu
  obtain ⟨g, off, rfl, hg, _⟩ := h.cells (by omega)
  have H := Lib.hid h; clear h
  have hsz := H.out.1
  have HSZ := Lib.hid hsz; clear hsz
  obtain ⟨m, rfl⟩ : ∃ m, n = m + 4 := ⟨n - 4, by omega⟩
  have k2 : ¬ c < m := by omega
  have k3 : ¬ (m : Int) + 4 < 4 := by omega
  have HE : Hid ((l.take m).length = m) := Lib.hid (by rw [List.length_take, HSZ.out]; omega)
  go_enter Try.func63, Try.ntmps63
  go_wp2_with (at_builtin; refine wpl_append_bys rfl _ _ rfl w.heap.size _ [] rfl (own_empty w) (some ⟨g, off, none⟩) m c (l.take m) rfl ((H.out.take m (by omega)).below ((Below.refl _ _).alloc (Nat.le_refl _) _)) ?c1 ?c2 ?_)
  case c1 => omega
  intro v w1 hown hg1 hnl
  have HB := Lib.hid (((Below.refl w.heap.size w).alloc (Nat.le_refl _) (.cells #[] 5)).grown hg1 (by simp) (fun k e => by simp [Value.ownBlock] at e; omega))
  have HO := Lib.hid hown
  clear hown hg1 hnl
  obtain ⟨a7, c7, hv, hc7, hy⟩ := HO.out.bys
  rw [HE.out] at hv hc7 hy
  subst hv
  have HY := Lib.hid hy; clear hy
  go_wp2_with fail
  have HSE : Hid (decide (sealB (l.take m) = l) = u) := Lib.hid (by have := seal_eq l (by rw [HSZ.out]; omega); rw [HSZ.out] at this; exact this.trans HU.out.symm)
  refine wp_region_any (by kernel_rfl) ?_
  change wpAny _ _ _ _ _ _ _ (World.drew _)
  have HBA : Hid (Below w.heap.size w w1.drew) := Lib.hid HB.out.drew
  have q1 := run_str w1.drew _ _ c _ (H.out.below HBA.out)
  refine wpAny_take (i := 0) (v := .slice a7 m c7) rfl (by kernel_rfl) (by kernel_rfl) (by kernel_rfl) (fun _ _ _ h => h) (Or.inl ⟨by kernel_rfl, fun w => ?_⟩) ?_
  · go_simp
  refine wpAny_take (i := 3) (v := .slice (some ⟨g, off, none⟩) (m + 4) c) rfl (by kernel_rfl) (by kernel_rfl) (by kernel_rfl) (fun _ _ _ h => h) (Or.inl ⟨by kernel_rfl, fun w => ?_⟩) ?_
  · go_simp
  refine wpAny_ready (rs := [1, 4]) (by kernel_rfl) (by simp) ?_
  refine AllReady.cons rfl (fun K hK => ?_) ?_
  · go_simp
    refine (rseal_c a7 m c7 (l.take m) _ (HY.out.below ((Below.refl _ _).drew)) (by omega)).mono ?_
    rintro e wB ⟨v6, rfl, ho, hb, -⟩
    obtain ⟨a6, c6, rfl, _, hy⟩ := ho.bys
    have HBB := Lib.hid (HBA.out.trans (hb.mono HBA.out.size))
    have q2 := run_str wB _ _ c6 _ hy
    have q3 := run_str wB _ _ c _ (H.out.below HBB.out)
    have HOB := Lib.hid ((HO.out.below ((Below.refl _ _).drew)).below hb)
    clear ho hb hy
    refine hK _ _ ?_
    clear hK K
    refine wpAny_ready (rs := [2, 4]) (by kernel_rfl) (by simp) ?_
    refine AllReady.cons rfl (fun K hK => ?_) ?_
    · go_simp
      refine hK _ _ ?_
      clear hK K
      refine wpAny_ready (rs := [4]) (by kernel_rfl) (by simp) ?_
      refine AllReady.cons rfl (fun K hK => ?_) AllReady.nil
      go_simp
      refine hK _ _ ?_
      clear hK K
      refine wpAny_ready (rs := [5]) (by kernel_rfl) (by simp) ?_
      refine AllReady.cons rfl (fun K hK => ?_) AllReady.nil
      go_simp
      refine hK _ _ ?_
      clear hK K
      refine wpAny_done (by kernel_rfl) ?_ _
      rw [str_eq, HSE.out]; clear q1 q2 q3
      cases u
      · go_wp2_with fail
        go_ret2
        exact ⟨HBB.out, rfl⟩
      · go_wp2_with fail
        go_ret2
        exact ⟨HBB.out, _, rfl, HOB.out⟩
    refine AllReady.cons rfl (fun K hK => ?_) AllReady.nil
    go_simp
    refine hK _ _ ?_
    clear hK K
    refine wpAny_ready (rs := [2]) (by kernel_rfl) (by simp) ?_
    refine AllReady.cons rfl (fun K hK => ?_) AllReady.nil
    go_simp
    refine hK _ _ ?_
    clear hK K
    refine wpAny_ready (rs := [5]) (by kernel_rfl) (by simp) ?_
    refine AllReady.cons rfl (fun K hK => ?_) AllReady.nil
    go_simp
    refine hK _ _ ?_
    clear hK K
    refine wpAny_done (by kernel_rfl) ?_ _
    rw [str_eq, HSE.out]; clear q1 q2 q3
    cases u
    · go_wp2_with fail
      go_ret2
      exact ⟨HBB.out, rfl⟩
    · go_wp2_with fail
      go_ret2
      exact ⟨HBB.out, _, rfl, HOB.out⟩
  refine AllReady.cons rfl (fun K hK => ?_) AllReady.nil
  go_simp
  refine hK _ _ ?_
  clear hK K
  refine wpAny_ready (rs := [1]) (by kernel_rfl) (by simp) ?_
  refine AllReady.cons rfl (fun K hK => ?_) AllReady.nil
  go_simp
  refine (rseal_c a7 m c7 (l.take m) _ (HY.out.below ((Below.refl _ _).drew)) (by omega)).mono ?_
  rintro e wB ⟨v6, rfl, ho, hb, -⟩
  obtain ⟨a6, c6, rfl, _, hy⟩ := ho.bys
  have HBB := Lib.hid (HBA.out.trans (hb.mono HBA.out.size))
  have q2 := run_str wB _ _ c6 _ hy
  have q3 := run_str wB _ _ c _ (H.out.below HBB.out)
  have HOB := Lib.hid ((HO.out.below ((Below.refl _ _).drew)).below hb)
  clear ho hb hy
  refine hK _ _ ?_
  clear hK K
  refine wpAny_ready (rs := [2]) (by kernel_rfl) (by simp) ?_
  refine AllReady.cons rfl (fun K hK => ?_) AllReady.nil
  go_simp
  refine hK _ _ ?_
  clear hK K
  refine wpAny_ready (rs := [5]) (by kernel_rfl) (by simp) ?_
  refine AllReady.cons rfl (fun K hK => ?_) AllReady.nil
  go_simp
  refine hK _ _ ?_
  clear hK K
  refine wpAny_done (by kernel_rfl) ?_ _
  rw [str_eq, HSE.out]; clear q1 q2 q3
  cases u
  · go_wp2_with fail
    go_ret2
    exact ⟨HBB.out, rfl⟩
  · go_wp2_with fail
    go_ret2
    exact ⟨HBB.out, _, rfl, HOB.out⟩

/-- What Open gives, and its error. -/
def openL (l : List By) : List By := if openB l then l.take (l.length - 4) else []

def openE (l : List By) : Int := if openB l then 0 else 110

theorem own_nil (w : World) (base : Nat) : OwnB w base (.slice none 0 0) [] := World.ownsRow_nil w base 5 1

def OpenRes (B : Nat) (l : List By) (e : Ending) (w' : World) : Prop := ∃ a c, e = .returned (.tuple #[.slice a (openL l).length c, .int .i64 (openE l)]) ∧ OwnB w' B (.slice a (openL l).length c) (openL l)

theorem openB_short {l : List By} (h : l.length < 4) : openB l = false := by unfold openB; rw [decide_eq_false (by omega)]; rfl

theorem res_no {B : Nat} {l : List By} {e : Ending} {w' : World} (h : openB l = false) (he : e = .returned (.tuple #[.slice none 0 0, .int .i64 110])) : OpenRes B l e w' := by
  have h1 : openL l = [] := by simp [openL, h]
  have h2 : openE l = 110 := by simp [openE, h]
  unfold OpenRes
  rw [h1, h2]
  exact ⟨none, 0, he, own_nil _ _⟩

theorem res_yes {B : Nat} {l : List By} {e : Ending} {w' : World} {v : Value} (h : openB l = true) (he : e = .returned (.tuple #[v, .int .i64 0])) (ho : OwnB w' B v (l.take (l.length - 4))) : OpenRes B l e w' := by
  have h1 : openL l = l.take (l.length - 4) := by simp [openL, h]
  have h2 : openE l = 0 := by simp [openE, h]
  unfold OpenRes
  rw [h1, h2]
  obtain ⟨a, c, rfl, _, _⟩ := ho.bys
  exact ⟨a, c, he, ho⟩

theorem open_any (a : Option Addr) (n c : Nat) (l : List By) (w : World) (h : Bys w a n l) (hn : n ≤ 1000000) (hc : n ≤ c) :
    Calls Try.prog 62 #[.slice a n c] w fun e w' => Below w.heap.size w w' ∧ OpenRes w.heap.size l e w' := by
  have hl := h.1
  rcases Nat.lt_or_ge n 4 with h4 | h4
  · exact (open_short a n c w h4).mono fun e w' ⟨he, hb⟩ => ⟨hb, res_no (openB_short (by omega)) he⟩
  · refine (open_long a n c l w h h4 hn hc _ rfl).mono fun e w' ⟨hb, hr⟩ => ⟨hb, ?_⟩
    cases hu : openB l
    · rw [hu] at hr; exact res_no hu hr
    · rw [hu] at hr
      obtain ⟨v, he, ho⟩ := hr
      rw [← hl] at ho
      exact res_yes hu he ho

theorem ropen_any (a : Option Addr) (n c : Nat) (l : List By) (w : World) (h : Bys w a n l) (hn : n ≤ 1000000) (hc : n ≤ c) :
    Calls Try.prog 63 #[.slice a n c] w fun e w' => Below w.heap.size w w' ∧ OpenRes w.heap.size l e w' := by
  have hl := h.1
  rcases Nat.lt_or_ge n 4 with h4 | h4
  · exact (ropen_short a n c w h4).mono fun e w' ⟨he, hb⟩ => ⟨hb ▸ Below.refl _ _, res_no (openB_short (by omega)) he⟩
  · refine (ropen_long a n c l w h h4 hn hc _ rfl).mono fun e w' ⟨hb, hr⟩ => ⟨hb, ?_⟩
    cases hu : openB l
    · rw [hu] at hr; exact res_no hu hr
    · rw [hu] at hr
      obtain ⟨v, he, ho⟩ := hr
      rw [← hl] at ho
      exact res_yes hu he ho

theorem OwnB.at_ {w : World} {base g n c : Nat} {l : List By} (h : OwnB w base (.slice (some ⟨g, 0, none⟩) n c) l) {k : Nat} {x : By} (hx : l[k]? = some x) : w.cell? ⟨g, k, none⟩ = some (.int .u8 (x.toNat : Int)) ∧ w.frozen? ⟨g, k, none⟩ = false := by
  obtain ⟨a, c', e, _, _⟩ := h.bys
  injection e with e1 e2 e3
  subst e2
  have hlt := (List.getElem?_eq_some_iff.1 hx).1
  refine ⟨?_, World.ownsRow.frozenAt (h : w.ownsRow _ _ _ _ _ _) k⟩
  rw [World.ownsRow.cellAt (h : w.ownsRow _ _ _ _ _ _) k (by omega)]
  simp [bl, hx]

theorem OwnB.put {w : World} {base g n c : Nat} {l : List By} (h : OwnB w base (.slice (some ⟨g, 0, none⟩) n c) l) (k : Nat) (x : By) : OwnB (w.setCell ⟨g, k, none⟩ (.int .u8 (x.toNat : Int))) base (.slice (some ⟨g, 0, none⟩) n c) (l.set k x) := by
  obtain ⟨a, c', e, _, _⟩ := h.bys
  injection e with e1 e2 e3
  subst e2
  have := (World.ownsRow.stored (h : w.ownsRow _ _ _ _ _ _) k (.int .u8 (x.toNat : Int))).1
  unfold OwnB
  rw [List.length_set]
  have hb : bl (l.set k x) = (bl l).set k (.int .u8 (x.toNat : Int)) := by simp [bl, List.map_set]
  rw [hb]
  exact this

theorem OwnB.only {w w' : World} {base g : Nat} {v : Value} {l : List By} (h : OwnB w base v l) (hg : Only g w w') (hlt : g < base) : OwnB w' base v l := by
  refine World.ownsRow.kept (h : w.ownsRow _ _ _ _ _ _) hg ?_
  cases hv : v.ownBlock with
  | none => exact .inl rfl
  | some k =>
    have := (World.ownsRow.lt (h : w.ownsRow _ _ _ _ _ _) k hv).1
    exact .inr (fun e => by injection e with e; omega)

theorem OwnB.base {w : World} {base g n c : Nat} {l : List By} (h : OwnB w base (.slice (some ⟨g, 0, none⟩) n c) l) : base ≤ g ∧ g < w.heap.size := World.ownsRow.lt (h : w.ownsRow _ _ _ _ _ _) g rfl

theorem OwnB.here {w : World} {base : Nat} {v : Value} {l : List By} (h : OwnB w base v l) (hn : v ≠ .slice none 0 0) : ∃ g c, v = .slice (some ⟨g, 0, none⟩) l.length c ∧ l.length ≤ c := by
  obtain ⟨a, c, hv, hc, hy⟩ := h.bys
  rcases h.2 with ⟨e, _⟩ | ⟨g, cap, cur, e, _⟩
  · exact absurd e hn
  · rw [e] at hv
    injection hv with h1 h2 h3
    subst h1
    exact ⟨g, cap, e, by rw [h3]; exact hc⟩
end Go.Proofs.Ytnecoapbpicloaa
