/- Contracts: the chapter's works answers true. -/
import Derived.Test.YticgknjjhkgggaaWt
import Derived.Test.YticgknjjhkgggaaMc
namespace Go.Proofs.Yticgknjjhkgggaa
open Go.RowKit
set_option linter.unusedSimpArgs false
set_option linter.unusedVariables false

theorem bys_blk {w : World} {g : Nat} {t : TypeId} {l : List By} (h : Blk w g t (bya l)) (k : Nat) (hk : k ≤ l.length) : Bys w (some ⟨g, 0, none⟩) k (l.take k) := by
  refine ⟨by rw [List.length_take]; omega, fun i c hi => ⟨g, 0, rfl, h.lt, ?_⟩⟩
  have hlt := (List.getElem?_eq_some_iff.1 hi).1
  rw [List.length_take] at hlt
  rw [List.getElem?_take, if_pos (by omega)] at hi
  rw [Nat.zero_add]
  refine h.cell ?_
  simp [bya, hi]
theorem sumOf32_len (l : List By) : (keyed 32 [] l).length = 32 := keyed_len _ _ _ (by decide)
theorem info36 : (Try.prog.info? 0036).map (·.size) = some 32 := by kernel_rfl
theorem abc_str : (strOf [0x50#8, 0x8c#8, 0x5e#8, 0x8c#8, 0x32#8, 0x7c#8, 0x14#8, 0xe2#8]).toList = [80, 140, 94, 140, 50, 124, 20, 226] := by
  have : strOf [0x50#8, 0x8c#8, 0x5e#8, 0x8c#8, 0x32#8, 0x7c#8, 0x14#8, 0xe2#8] = ⟨#[80, 140, 94, 140, 50, 124, 20, 226]⟩ := rfl
  rw [this]
  go_simp
theorem empty_str : (strOf [0x69#8, 0x21#8, 0x7a#8, 0x30#8, 0x79#8, 0x90#8, 0x80#8, 0x94#8]).toList = [105, 33, 122, 48, 121, 144, 128, 148] := by
  have : strOf [0x69#8, 0x21#8, 0x7a#8, 0x30#8, 0x79#8, 0x90#8, 0x80#8, 0x94#8] = ⟨#[105, 33, 122, 48, 121, 144, 128, 148]⟩ := rfl
  rw [this]
  go_simp
set_option maxRecDepth 100000 in
set_option maxHeartbeats 2000000 in
theorem works_c (w : World) : Calls Try.prog 12 #[] w fun e w' => e = .returned (.bool true) ∧ Below w.heap.size w w' := by
  have hcv := conv_lit
  have hcv2 := conv_lit2
  have z36 := zero36
  obtain ⟨Z, hZ⟩ : ∃ Z, Z = bya (List.replicate 32 0#8) := ⟨_, rfl⟩
  rw [← hZ] at z36
  have HZ := Lib.hid hZ
  clear hZ
  go_enter Try.func12, Try.ntmps12
  go_wp2_with fail
  have D1 := Lib.hid (Bys.mark (W := w) (cs := #[.int .u8 97]) (l := [0x61#8]) 5 (1, 2) rfl rfl)
  have hb1 := (Below.refl w.heap.size w).alloc (Nat.le_refl _) (.cells #[.int .u8 97] 5 (1, 2))
  have s6 : (w.alloc (.cells #[.int .u8 97] 5 (1, 2))).heap.size = w.heap.size + 1 := by simp
  generalize (w.alloc (.cells #[.int .u8 97] 5 (1, 2))) = w6 at D1 hb1 s6 ⊢
  have D2 := Lib.hid (Bys.mark (W := w6) (cs := #[.int .u8 98, .int .u8 99]) (l := [0x62#8, 0x63#8]) 5 (2, 3) rfl rfl)
  have hb2 := (Below.refl w6.heap.size w6).alloc (Nat.le_refl _) (.cells #[.int .u8 98, .int .u8 99] 5 (2, 3))
  have s7 : (w6.alloc (.cells #[.int .u8 98, .int .u8 99] 5 (2, 3))).heap.size = w6.heap.size + 1 := by simp
  generalize (w6.alloc (.cells #[.int .u8 98, .int .u8 99] 5 (2, 3))) = w7 at D2 hb2 s7 ⊢
  have D3 := Lib.hid (Prs.two 1 2 33 (D1.out.below hb2) D2.out (by decide) (by decide))
  rw [s7, s6] at D3
  have HB7 := Lib.hid ((hb1.trans (hb2.mono hb1.size)).alloc (by have := hb1.size; have := hb2.size; omega) (.cells #[.slice (some ⟨w.heap.size, 0, none⟩) 1 1, .slice (some ⟨w.heap.size + 1, 0, none⟩) 2 2] 33))
  clear D1 D2 hb1 hb2 s6 s7 hcv hcv2
  generalize (World.alloc _ _) = w8 at D3 HB7 ⊢
  refine (bsum_c _ 2 2 _ _ D3.out (by decide) (by decide)).mono ?_
  rintro e w9 ⟨rfl, hb⟩
  have HB9 := Lib.hid (HB7.out.trans (hb.mono HB7.out.size))
  clear hb D3 HB7
  obtain ⟨K1, hK1⟩ : ∃ K, K = keyed 32 [] [[0x61#8], [0x62#8, 0x63#8]].flatten := ⟨_, rfl⟩
  rw [← hK1]
  have HK1 : Hid (K1.take 8 = [0x50#8, 0x8c#8, 0x5e#8, 0x8c#8, 0x32#8, 0x7c#8, 0x14#8, 0xe2#8]) := Lib.hid (by rw [hK1]; exact sum_abc)
  have HL1 : Hid (K1.length = 32) := Lib.hid (by rw [hK1]; exact sumOf32_len _)
  clear hK1
  go_wp2_with fail
  refine (bsum_c none 0 0 [] _ Prs.nil (by decide) (by decide)).mono ?_
  rintro e w10 ⟨rfl, hb⟩
  have HB10 := Lib.hid (HB9.out.trans (hb.mono HB9.out.size))
  clear hb HB9
  obtain ⟨K2, hK2⟩ : ∃ K, K = keyed 32 [] ([] : List (List By)).flatten := ⟨_, rfl⟩
  rw [← hK2]
  have HK2 : Hid (K2.take 8 = [0x69#8, 0x21#8, 0x7a#8, 0x30#8, 0x79#8, 0x90#8, 0x80#8, 0x94#8]) := Lib.hid (by rw [hK2]; exact sum_empty)
  have HL2 : Hid (K2.length = 32) := Lib.hid (by rw [hK2]; exact sumOf32_len _)
  clear hK2
  have P1 := Lib.hid ((Blk.new w10 36 Z).alloc (.cells Z 36))
  have P2 := Lib.hid (Blk.new2 w10 (.cells Z 36) 36 Z)
  have HBa := Lib.hid ((HB10.out.alloc HB10.out.size (.cells Z 36)).alloc (by have := HB10.out.size; simp; omega) (.cells Z 36))
  have hzw := HB10.out.size
  have is1 : ∀ K : List By, K.length = 32 → (Try.prog.info? 36).map (·.size) = some (bya K).size := fun K h => by rw [bya_size, h]; exact info36
  have is2 : Z.size = 32 := by rw [HZ.out, bya_size, List.length_replicate]
  have IS1 := Lib.hid is1
  have IS2 := Lib.hid is2
  clear is1 is2
  go_upto_region 2 with (first | (refine wpl_store_blk rfl 36 (.tmp 1) (.tmp 12) rfl w10.heap.size 36 Z (bya K1) rfl rfl P1.out (by rw [IS2.out, bya_size, HL1.out]) (IS1.out _ HL1.out) (bya_one _) ?_; intro w11 hB11 hO11 hz11; have P2 := Lib.hid (hO11.blk P2.out (by omega)); have P1 := Lib.hid hB11; have HBa := Lib.hid (HBa.out.trans (hO11.below HBa.out.size hzw)); clear hB11 hO11 hz11) | (refine wpl_store_blk rfl 36 (.tmp 2) (.tmp 13) rfl (w10.heap.size + 1) 36 Z (bya K2) rfl rfl P2.out (by rw [IS2.out, bya_size, HL2.out]) (IS1.out _ HL2.out) (bya_one _) ?_; intro w12 hB12 hO12 hz12; have P1 := Lib.hid (hO12.blk P1.out (by omega)); have P2 := Lib.hid hB12; have HBa := Lib.hid (HBa.out.trans (hO12.below HBa.out.size (by omega))); clear hB12 hO12 hz12))
  generalize w10.heap.size = g1 at P1 P2 hzw ⊢
  clear HB10
  simp only [Act.put]
  go_wp2_with fail
  refine (keyed_bad 33 none 0 0 none 0 0 _ (by decide)).mono ?_
  rintro e w' ⟨rfl, rfl⟩
  go_wp2_with (refine wpl_make_bys rfl _ _ rfl 33 33 33 rfl rfl rfl rfl (by decide) ?_; intro w13 _ hb13; have P1 := Lib.hid (P1.out.below hb13 P1.out.lt); have P2 := Lib.hid (P2.out.below hb13 P2.out.lt); have HBa := Lib.hid (HBa.out.trans (hb13.mono HBa.out.size)); clear hb13)
  refine (keyed_bad 32 _ 33 33 none 0 0 _ (by decide)).mono ?_
  rintro e w' ⟨rfl, rfl⟩
  have hs1 := run_str w13 (some ⟨g1, 0, none⟩) 8 32 (K1.take 8) (bys_blk P1.out 8 (by rw [HL1.out]; decide))
  have hs2 := run_str w13 (some ⟨g1 + 1, 0, none⟩) 8 32 (K2.take 8) (bys_blk P2.out 8 (by rw [HL2.out]; decide))
  rw [HK1.out] at hs1
  rw [HK2.out] at hs2
  have ha1 := abc_str
  have ha2 := empty_str
  go_wp2_with (go_at_call 20; refine (num_c _ _).mono ?_; rintro e w' ⟨rfl, rfl⟩)
  go_ret
  exact ⟨rfl, HBa.out⟩
end Go.Proofs.Yticgknjjhkgggaa
