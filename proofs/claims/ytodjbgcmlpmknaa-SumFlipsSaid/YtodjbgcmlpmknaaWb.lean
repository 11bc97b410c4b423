/- A run takes bytes; a sum that goes on. -/
import Derived.Test.YtodjbgcmlpmknaaWa
namespace Go.Proofs.Ytodjbgcmlpmknaa
open Go.RowKit

abbrev By := BitVec 8
/-- A slice of bytes in memory reads as these. -/
def Bys (w : World) (a : Option Addr) (n : Nat) (l : List By) : Prop :=
  l.length = n ∧ ∀ i c, l[i]? = some c → ∃ g off, a = some ⟨g, off, none⟩ ∧ g < w.heap.size ∧ w.cell? ⟨g, off + i, none⟩ = some (.int .u8 (c.toNat : Int))
theorem Bys.below {w w' : World} {a : Option Addr} {n : Nat} {l : List By} (h : Bys w a n l) (hb : Below w.heap.size w w') : Bys w' a n l := by
  refine ⟨h.1, fun i c hi => ?_⟩
  obtain ⟨g, off, e, hg, hc⟩ := h.2 i c hi
  exact ⟨g, off, e, Nat.lt_of_lt_of_le hg hb.size, (hb.cell (p := ⟨g, off + i, none⟩) hg).trans hc⟩

theorem step1_w (b bo : Nat) (x : Wo) (c : BitVec 8) (w : World) (h : WordAt w b x) (h0 : w.cell? ⟨bo, 0, none⟩ = some (.pointer (some ⟨b, 0, none⟩))) :
    Calls Try.prog 40 #[.int .u8 (c.toNat : Int), .pointer (some ⟨bo, 0, none⟩)] w fun e w' => e = .returned (.tuple #[]) ∧ WordAt w' b (x ^^^ c.setWidth 32) ∧ Only b w w' :=
  (step1_c b bo x c w h h0).mono fun e w' ⟨he, hw⟩ => by
    subst hw
    exact ⟨he, h.set _, (Only.refl b w).setCell (.inl rfl) _⟩

set_option maxRecDepth 100000 in
set_option maxHeartbeats 1000000 in
theorem take_c (b : Nat) (x : Wo) (a : Option Addr) (n cp : Nat) (l : List By) (w : World) (h : WordAt w b x) (hl : Bys w a n l) (hb : ∀ g off, a = some ⟨g, off, none⟩ → 0 < n → g ≠ b) (hn : n ≤ 1000000000) :
    Calls Try.prog 31 #[.pointer (some ⟨b, 0, none⟩), .slice a n cp] w fun e w' => e = .returned (.tuple #[]) ∧ WordAt w' b (run x l) ∧ Only b w w' := by
  have hmf : ∀ (fn : Fn) (first cap : Array Value) (w : World), (Instr.makeFunc fn first cap).run Try.prog w = .ok (.func fn first cap) w := fun _ _ _ _ => rfl
  have HW := Lib.hid h
  have HL := Lib.hid hl
  have HB := Lib.hid hb
  have hblt := h.lt
  clear h hl hb
  go_enter Try.func31, Try.ntmps31
  go_wp2
  clear hmf
  have hx1 : Blk ((w.alloc (.cells #[.pointer (some ⟨b, 0, none⟩)] 64)).alloc (.cells #[.func (.func 40) #[] #[.pointer (some ⟨w.heap.size, 0, none⟩)], .func (.func 41) #[] #[.pointer (some ⟨w.heap.size, 0, none⟩)]] 65)) w.heap.size 64 #[.pointer (some ⟨b, 0, none⟩)] := (Blk.new _ _ _).alloc _
  have hx2 : Blk ((w.alloc (.cells #[.pointer (some ⟨b, 0, none⟩)] 64)).alloc (.cells #[.func (.func 40) #[] #[.pointer (some ⟨w.heap.size, 0, none⟩)], .func (.func 41) #[] #[.pointer (some ⟨w.heap.size, 0, none⟩)]] 65)) (w.heap.size + 1) 65 #[.func (.func 40) #[] #[.pointer (some ⟨w.heap.size, 0, none⟩)], .func (.func 41) #[] #[.pointer (some ⟨w.heap.size, 0, none⟩)]] := by
    have := Blk.new (w.alloc (.cells #[.pointer (some ⟨b, 0, none⟩)] 64)) 65 #[.func (.func 40) #[] #[.pointer (some ⟨w.heap.size, 0, none⟩)], .func (.func 41) #[] #[.pointer (some ⟨w.heap.size, 0, none⟩)]]
    rwa [World.size_alloc] at this
  have hO2 := ((Only.refl b w).alloc (.cells #[.pointer (some ⟨b, 0, none⟩)] 64)).alloc (.cells #[.func (.func 40) #[] #[.pointer (some ⟨w.heap.size, 0, none⟩)], .func (.func 41) #[] #[.pointer (some ⟨w.heap.size, 0, none⟩)]] 65)
  have hB2 := ((Below.refl w.heap.size w).alloc (Nat.le_refl _) (.cells #[.pointer (some ⟨b, 0, none⟩)] 64)).alloc (by simp) (.cells #[.func (.func 40) #[] #[.pointer (some ⟨w.heap.size, 0, none⟩)], .func (.func 41) #[] #[.pointer (some ⟨w.heap.size, 0, none⟩)]] 65)
  have hW2 := HW.out.below hB2 hblt
  have hL2 := HL.out.below hB2
  generalize ((w.alloc (.cells #[.pointer (some ⟨b, 0, none⟩)] 64)).alloc (.cells #[.func (.func 40) #[] #[.pointer (some ⟨w.heap.size, 0, none⟩)], .func (.func 41) #[] #[.pointer (some ⟨w.heap.size, 0, none⟩)]] 65)) = w2 at hx1 hx2 hO2 hB2 hW2 hL2 ⊢
  have HX1 := Lib.hid hx1; have HX2 := Lib.hid hx2; have HO2 := Lib.hid hO2; have HW2 := Lib.hid hW2; have HL2 := Lib.hid hL2
  clear hx1 hx2 hO2 hB2 hW2 hL2 HW HL
  go_loopw [14] (fun i wr => ∃ k : Nat, k ≤ n ∧ i = .int .i64 k ∧ WordAt wr b (run x (l.take k)) ∧ Only b w2 wr) (fun i _ => n - (intOf i).toNat)
  case atStart => exact ⟨0, Nat.zero_le _, rfl, HW2.out, Only.refl _ _⟩
  case round =>
    obtain ⟨k, hk, rfl, hW, hO⟩ := hrel
    have HWr := Lib.hid hW; have HOr := Lib.hid hO
    clear hW hO
    by_cases hlt : k < n
    · obtain ⟨c, hc⟩ : ∃ c, l[k]? = some c := ⟨l[k]'(by rw [HL2.out.1]; exact hlt), List.getElem?_eq_getElem _⟩
      obtain ⟨g, off, rfl, hg, hcell⟩ := HL2.out.2 k c hc
      have HC := Lib.hid hc; clear hc
      have hgb : g ≠ b := HB.out g off rfl (by omega)
      have c1 := (World.cell?_of_block (a := ⟨g, off + k, none⟩) (HOr.out.block g hg (fun e => hgb (by injection e)))).trans hcell
      have y1 : wr.cell? ⟨w.heap.size + 1, 0, none⟩ = some (.func (.func 40) #[] #[.pointer (some ⟨w.heap.size, 0, none⟩)]) := (HOr.out.blk HX2.out (by omega)).cell (i := 0) rfl
      have X1 : Hid (wr.cell? ⟨w.heap.size, 0, none⟩ = some (.pointer (some ⟨b, 0, none⟩))) := Lib.hid ((HOr.out.blk HX1.out (by omega)).cell (i := 0) rfl)
      clear hcell
      go_wp2_with fail
      refine wp_loop_rounds 3 ?_
      rw [rounds_succ]
      go_wp2_with fail
      refine (step1_w b _ _ c _ HWr.out X1.out).mono ?_
      rintro e w3 ⟨rfl, hW3, hO3⟩
      have HW3 := Lib.hid hW3
      have HO3 := Lib.hid (HOr.out.trans hO3)
      clear hW3 hO3 y1 c1
      have y2 : w3.cell? ⟨w.heap.size + 1, 1, none⟩ = some (.func (.func 41) #[] #[.pointer (some ⟨w.heap.size, 0, none⟩)]) := (HO3.out.blk HX2.out (by omega)).cell (i := 1) rfl
      have X3 : Hid (w3.cell? ⟨w.heap.size, 0, none⟩ = some (.pointer (some ⟨b, 0, none⟩))) := Lib.hid ((HO3.out.blk HX1.out (by omega)).cell (i := 0) rfl)
      go_wp2_with fail
      rw [rounds_succ]
      go_wp2_with fail
      refine (step2_c b _ _ c _ HW3.out (by omega) X3.out).mono ?_
      rintro e w4 ⟨rfl, hW4, hO4⟩
      have HW4 : Hid (WordAt w4 b (run x (l.take (k + 1)))) := by
        refine Lib.hid ?_
        rw [List.take_add_one, HC.out, Option.toList_some, run_append]
        exact hW4
      have HO4 := Lib.hid (HO3.out.trans hO4)
      clear hW4 hO4 y2
      go_wp2_with fail
      rw [rounds_succ]
      go_wp2_with fail
      go_roundw
      case rel => exact ⟨k + 1, by omega, by go_num, HW4.out, HO4.out⟩
      case measure => simp [intOf]; omega
    · obtain rfl : k = n := by omega
      go_wp2
      go_end0
      have e : l.take k = l := List.take_of_length_le (by rw [HL2.out.1]; exact Nat.le_refl _)
      rw [← e]
      exact ⟨rfl, HWr.out, HO2.out.trans HOr.out⟩
end Go.Proofs.Ytodjbgcmlpmknaa
