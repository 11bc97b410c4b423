/- The chapter's rows: works answers true. -/
import Derived.Test.YtodjbgcmlpmknaaWl
import Derived.Lib.SlBytesConst
namespace Go.Proofs.Ytodjbgcmlpmknaa
open Go.RowKit

theorem Bys.mark {W : World} {cs : Array Value} {l : List By} {n : Nat} (t : TypeId) (fz : Nat × Nat) (h : cs.toList = bl l) (hn : l.length = n) : Bys (W.alloc (.cells cs t fz)) (some ⟨W.heap.size, 0, none⟩) n l := by
  refine ⟨hn, fun i c hi => ⟨W.heap.size, 0, rfl, by simp, ?_⟩⟩
  have : cs[i]? = some (.int .u8 (c.toNat : Int)) := by
    rw [← Array.getElem?_toList, h]
    simp [bl, hi]
  unfold World.cell?
  simp only [heap_alloc_new, Nat.zero_add]
  exact this
theorem conv_lit (W : World) (C : Array Value) (n c : Nat) : (convert 22 22 (.slice (some ⟨W.heap.size, 0, none⟩) n c)).run Try.prog (W.alloc (.cells C 5)) = .ok (.slice (some ⟨W.heap.size, 0, none⟩) n c) (W.alloc (.cells C 5 (C.size, C.size + 1))) :=
  Lib.run_convert_bytes_const W 22 5 C n c Try.underlying22 Try.underlying5
theorem conv_lit2 (W : World) (o : Obj) (C : Array Value) (n c : Nat) : (convert 22 22 (.slice (some ⟨W.heap.size + 1, 0, none⟩) n c)).run Try.prog ((W.alloc o).alloc (.cells C 5)) = .ok (.slice (some ⟨W.heap.size + 1, 0, none⟩) n c) ((W.alloc o).alloc (.cells C 5 (C.size, C.size + 1))) := by
  have := conv_lit (W.alloc o) C n c
  rw [World.size_alloc] at this
  exact this
theorem mul_as (a b : Wo) (A B C : Int) (w : World) (hA : A = (a.toNat : Int)) (hB : B = (b.toNat : Int)) (hC : C = ((mul a b).toNat : Int)) :
    Calls Try.prog 18 #[.int .u32 A, .int .u32 B] w fun e w' => e = .returned (.int .u32 C) ∧ Below w.heap.size w w' := by
  subst hA; subst hB; subst hC
  exact mul_c a b w
theorem sum_as (a : Option Addr) (n cp : Nat) (ps : List (List By)) (C : Int) (w : World) (hl : Prs w a n ps) (hn : n ≤ 1000000000) (hC : C = ((sumB ps.flatten).toNat : Int)) :
    Calls Try.prog 14 #[.slice a n cp] w fun e w' => e = .returned (.int .u32 C) ∧ Below w.heap.size w w' := by
  subst hC
  exact sum_c a n cp ps w hl hn
theorem power_as (N : Nat) (I C : Int) (w : World) (hI : I = N) (h : N ≤ 1099511627776) (hC : C = ((xpow N).toNat : Int)) : Calls Try.prog 25 #[.int .i64 I] w fun e w' => e = .returned (.tuple #[.int .u32 C, .int .i64 0]) ∧ Below w.heap.size w w' := by
  subst hI; subst hC
  exact Power_yes N w h

def hi2 : List By := [104#8, 105#8]
theorem hi2_str : (strOf hi2).toList = [104, 105] := by
  have : strOf hi2 = ⟨#[104, 105]⟩ := rfl
  rw [this]
  go_simp
theorem hi2_open : openB (sealB hi2) = true := by decide +kernel
theorem hi2_take : (sealB hi2).take ((sealB hi2).length - 4) = hi2 := by decide +kernel
theorem hi2_len : (sealB hi2).length = 6 := by decide +kernel

set_option maxRecDepth 100000 in
set_option maxHeartbeats 2000000 in
theorem works_c (w : World) : Calls Try.prog 13 #[] w fun e w' => e = .returned (.bool true) ∧ Below w.heap.size w w' := by
  have hcv := conv_lit
  have hcv2 := conv_lit2
  go_enter Try.func13, Try.ntmps13
  go_wp2_with fail
  refine (power_as 1 1 1073741824 _ rfl (by decide) (by decide +kernel)).mono ?_
  rintro e w1 ⟨rfl, B1⟩
  go_wp2_with fail
  refine (Power_no (-1) _ (by decide)).mono ?_
  rintro e w' ⟨rfl, rfl⟩
  go_wp2_with fail
  have H0 := Lib.hid (Bys.mark (W := w1) (cs := #[.int .u8 104, .int .u8 105]) (l := hi2) 5 (2, 3) rfl rfl)
  refine (seal_c _ 2 _ hi2 _ H0.out (by decide)).mono ?_
  rintro e w2 ⟨v, rfl, ho, hb⟩
  obtain ⟨a2, c2, rfl, hc2, hy⟩ := ho.bys
  have HB2 := Lib.hid (B1.trans ((((Below.refl w1.heap.size w1).alloc (Nat.le_refl _) (.cells #[.int .u8 104, .int .u8 105] 5 (2, 3))).trans (hb.mono (by simp))).mono B1.size))
  rw [hi2_len] at hc2
  have HY := Lib.hid hy
  clear ho hb hy H0 B1
  rw [hi2_len] at HY ⊢
  go_wp2_with fail
  refine (open_long a2 6 c2 (sealB hi2) _ HY.out (by decide) (by decide) hc2 true hi2_open.symm).mono ?_
  rintro e w3 ⟨hb, h⟩
  simp only [if_true] at h
  obtain ⟨v, rfl, ho⟩ := h
  have e6 : (sealB hi2).take (6 - 4) = hi2 := by decide +kernel
  rw [e6] at ho
  have HB3 := Lib.hid (HB2.out.trans (hb.mono HB2.out.size))
  have HO := Lib.hid ho
  clear ho hb HY HB2 e6 hc2
  go_wp2_with fail
  refine (open_short _ 3 _ _ (by decide)).mono ?_
  rintro e w4 ⟨rfl, hb⟩
  have HB4 := Lib.hid (HB3.out.trans ((((Below.refl w3.heap.size w3).alloc (Nat.le_refl _) (.cells #[.int .u8 97, .int .u8 98, .int .u8 99] 5 (3, 4))).trans (hb.mono (by simp))).mono HB3.out.size))
  have HO4 := Lib.hid ((HO.out.below ((Below.refl w3.heap.size w3).alloc (Nat.le_refl _) (.cells #[.int .u8 97, .int .u8 98, .int .u8 99] 5 (3, 4)))).below hb)
  clear hb HO HB3
  go_wp2_with fail
  refine (sum_as none 0 0 [] 0 _ Prs.nil (by decide) (by decide +kernel)).mono ?_
  rintro e w5 ⟨rfl, hb⟩
  have HB5 := Lib.hid (HB4.out.trans (hb.mono HB4.out.size))
  have HO5 := Lib.hid (HO4.out.below hb)
  clear hb HO4 HB4
  go_wp2_with fail
  have D1 := Lib.hid (Bys.mark (W := w5) (cs := #[.int .u8 49, .int .u8 50, .int .u8 51, .int .u8 52, .int .u8 53]) (l := [49#8, 50#8, 51#8, 52#8, 53#8]) 5 (5, 6) rfl rfl)
  have hb1 := (Below.refl w5.heap.size w5).alloc (Nat.le_refl _) (.cells #[.int .u8 49, .int .u8 50, .int .u8 51, .int .u8 52, .int .u8 53] 5 (5, 6))
  have s6 : (w5.alloc (.cells #[.int .u8 49, .int .u8 50, .int .u8 51, .int .u8 52, .int .u8 53] 5 (5, 6))).heap.size = w5.heap.size + 1 := by simp
  generalize (w5.alloc (.cells #[.int .u8 49, .int .u8 50, .int .u8 51, .int .u8 52, .int .u8 53] 5 (5, 6))) = w6 at D1 hb1 s6 ⊢
  have D2 := Lib.hid (Bys.mark (W := w6) (cs := #[.int .u8 54, .int .u8 55, .int .u8 56, .int .u8 57]) (l := [54#8, 55#8, 56#8, 57#8]) 5 (4, 5) rfl rfl)
  have hb2 := (Below.refl w6.heap.size w6).alloc (Nat.le_refl _) (.cells #[.int .u8 54, .int .u8 55, .int .u8 56, .int .u8 57] 5 (4, 5))
  have s7 : (w6.alloc (.cells #[.int .u8 54, .int .u8 55, .int .u8 56, .int .u8 57] 5 (4, 5))).heap.size = w6.heap.size + 1 := by simp
  generalize (w6.alloc (.cells #[.int .u8 54, .int .u8 55, .int .u8 56, .int .u8 57] 5 (4, 5))) = w7 at D2 hb2 s7 ⊢
  have D3 := Lib.hid (Prs.two 5 4 22 (D1.out.below hb2) D2.out (by decide) (by decide))
  rw [s7, s6] at D3
  have B7 := hb1.trans (hb2.mono hb1.size)
  have HB7 := Lib.hid (HB5.out.trans (B7.mono HB5.out.size))
  have HO7 := Lib.hid (HO5.out.below B7)
  clear D1 D2 hb1 hb2 s6 s7 B7 HO5 HB5
  refine (sum_as _ 2 2 [[49#8, 50#8, 51#8, 52#8, 53#8], [54#8, 55#8, 56#8, 57#8]] 3421780262 _ D3.out (by decide) (by decide +kernel)).mono ?_
  rintro e w8 ⟨rfl, hb⟩
  have B8 := ((Below.refl w7.heap.size w7).alloc (Nat.le_refl _) (.cells #[.slice (some ⟨w5.heap.size, 0, none⟩) 5 5, .slice (some ⟨w5.heap.size + 1, 0, none⟩) 4 4] 22)).trans (hb.mono (by simp))
  have HB8 := Lib.hid (HB7.out.trans (B8.mono HB7.out.size))
  have HO8 := Lib.hid (HO7.out.below B8)
  clear hb B8 HO7 HB7 D3
  go_wp2_with fail
  refine (mul_as one 5#32 2147483648 5 5 _ (by decide +kernel) (by decide +kernel) (by decide +kernel)).mono ?_
  rintro e w9 ⟨rfl, hb⟩
  have HB9 := Lib.hid (HB8.out.trans (hb.mono HB8.out.size))
  have HO9 := HO8.out.below hb
  obtain ⟨a9, c9, rfl, _, hy9⟩ := HO9.bys
  have hst2 := hi2_str
  have hstr := run_str w9 a9 _ c9 hi2 hy9
  clear hb HO8 HB8 hcv hcv2 HO9 hy9
  go_wp2_with (go_at_call 23; refine (num_c _ _).mono ?_; rintro e w' ⟨rfl, rfl⟩)
  go_ret
  exact ⟨rfl, HB9.out⟩
end Go.Proofs.Ytodjbgcmlpmknaa
