/- The token of a text: the walk. -/
import Derived.Test.YtomnjhhpeglcnaaGreatYb
import Derived.Test.YtomnjhhpeglcnaaGreatYc
namespace Go.Proofs.YtomnjhhpeglcnaaGreat
open Go.RowKit
set_option linter.unusedSimpArgs false
set_option linter.unusedVariables false
set_option maxRecDepth 100000

set_option maxHeartbeats 16000000 in
theorem opens_walk (f : ByteArray) (a1 : Option Addr) (len1 cap1 : Nat) (z1 : List ByteArray) (s : ByteArray) (w : World) (v1 : Strs w a1 len1 z1 ∧ len1 ≤ maxLen) :
    Calls Tryz.prog 3 #[.string f, .slice a1 len1 cap1, .string s] w fun e w' => e = .returned (.bool true) ∧ Below w.heap.size w w' := by
  have HS := Lib.hid v1.1
  have hm1 := v1.2
  have hl1 := v1.1.1
  clear v1
  go_enter Tryz.func3, Tryz.ntmps3
  go_wp2_with fail
  refine (few_c f a1 len1 cap1 z1 w HS.out hm1).mono ?_
  rintro e w' ⟨rfl, rfl⟩
  by_cases hfw : fewB f z1 = true
  rotate_left
  · have hfw' : fewB f z1 = false := by simpa using hfw
    rw [hfw']
    clear hfw hfw'
    go_wp2_with fail
    refine (tworks_c w).mono ?_
    rintro e w2 ⟨rfl, hb2⟩
    have HB2 := Lib.hid hb2
    clear hb2
    go_wp2_with fail
    go_ret
    exact ⟨rfl, HB2.out⟩
  obtain ⟨hf1, hf2, hf3⟩ := fewB_parts hfw
  rw [hfw]
  rw [hl1] at hf2
  clear hfw hm1 hf3
  by_cases hc1 : 300 < s.size
  · have q1 : (300 : Int) < (s.size : Int) := by omega
    go_wp2_with fail
    refine (tworks_c w).mono ?_
    rintro e w2 ⟨rfl, hb2⟩
    have HB2 := Lib.hid hb2
    clear hb2
    go_wp2_with fail
    go_ret
    exact ⟨rfl, HB2.out⟩
  have q1 : ¬ (300 : Int) < (s.size : Int) := by omega
  go_wp2_with fail
  refine (turnedK_c f a1 len1 cap1 z1 w HS.out hf2).mono ?_
  rintro e w2 ⟨hb2, (⟨hmf, rfl⟩ | ⟨p, k, a', c', rfl, hk, hkf, hwp, hks, hrk, hne⟩)⟩
  · have HB2 := Lib.hid (hb2.alloc hb2.size (.cells #[.int .i64 0, .slice none 0 0] 27))
    clear hb2
    unfold kval
    go_wp2_with fail
    refine (tworks_c _).mono ?_
    rintro e w3 ⟨rfl, hb3⟩
    have HB3 := Lib.hid (HB2.out.trans (hb3.mono HB2.out.size))
    clear hb3
    go_wp2_with fail
    go_ret
    exact ⟨rfl, HB3.out⟩
  have hal := (Below.refl w2.heap.size w2).alloc (Nat.le_refl _) (.cells (kval k.first a' k.ms.length c') 27)
  have HB3 := Lib.hid (hb2.trans (hal.mono hb2.size))
  obtain ⟨Q, hQ⟩ : ∃ Q, Q = w2.heap.size := ⟨_, rfl⟩
  have HQ := Lib.hid hQ
  have HW3 : Hid (Blk (w2.alloc (.cells (kval k.first a' k.ms.length c') 27)) Q 27 (kval k.first a' k.ms.length c')) := Lib.hid (by rw [hQ]; exact Blk.new _ _ _)
  have HK3 := Lib.hid (hks.below hal)
  have HR3 := Lib.hid (hrk.below hal)
  have hpos := hks.pos
  have hlen := hks.len
  have HMAY := Lib.hid hks.may
  clear hb2 hal hks hrk hk hQ hne
  unfold kval at *
  go_wp2_with fail
  rw [← HQ.out]
  clear HQ
  generalize w2.alloc (.cells #[.int .i64 (k.first : Int), .slice a' k.ms.length c'] 27) = w3 at HB3 HW3 HK3 HR3 ⊢
  refine (open_v p k s w3 HK3.out (by omega) (by omega)).mono ?_
  rintro r w4 ⟨⟨t, eu, hop, rfl⟩, hb4⟩
  have hal := (Below.refl w4.heap.size w4).alloc (Nat.le_refl _) (.cells #[.int .i64 t.m, .int .i64 t.s, .int .i64 t.i] 31)
  have hb5 := hb4.alloc hb4.size (.cells #[.int .i64 t.m, .int .i64 t.s, .int .i64 t.i] 31)
  have HB5 := Lib.hid (HB3.out.trans (hb5.mono HB3.out.size))
  have HW5 := Lib.hid (HW3.out.below hb5 HW3.out.lt)
  have HR5 := Lib.hid (RK.below HR3.out hb5)
  obtain ⟨U, hU⟩ : ∃ U, U = w4.heap.size := ⟨_, rfl⟩
  have HU5 : Hid (Blk (w4.alloc (.cells #[.int .i64 t.m, .int .i64 t.s, .int .i64 t.i] 31)) U 31 #[.int .i64 t.m, .int .i64 t.s, .int .i64 t.i]) := Lib.hid (by rw [hU]; exact Blk.new _ _ _)
  have HUS := Lib.hid hU
  have HOP := Lib.hid hop
  clear hal hb4 hb5 HB3 HW3 HK3 HR3 hU hop
  go_wp2_with (refine wpl_load_blk rfl 27 _ rfl Q rfl 27 _ _ HW5.out Tryz.underlying27 rfl infoKR ?_)
  rw [← HUS.out]
  clear HUS
  generalize w4.alloc (.cells #[.int .i64 t.m, .int .i64 t.s, .int .i64 t.i] 31) = w5 at HB5 HW5 HR5 HU5 ⊢
  have ho := ropen_c k a' k.ms.length c' s w5 HR5.out hpos hlen (by omega) HMAY.out (by omega)
  rw [HOP.out] at ho
  have HOC := Lib.hid ho
  clear ho
  refine HOC.out.mono ?_
  rintro e w6 ⟨rfl, hb6⟩
  unfold Tok.val
  have hb7 := hb6.alloc hb6.size (.cells #[.int .i64 t.m, .int .i64 t.s, .int .i64 t.i] 31)
  have HB7 := Lib.hid (HB5.out.trans (hb7.mono HB5.out.size))
  have HU7 := Lib.hid (HU5.out.below hb7 HU5.out.lt)
  have HV7 := Lib.hid (Blk.new w6 31 #[.int .i64 t.m, .int .i64 t.s, .int .i64 t.i])
  have g0 : (w6.alloc (.cells #[.int .i64 t.m, .int .i64 t.s, .int .i64 t.i] 31)).cell? ⟨U, 0, none⟩ = some (.int .i64 t.m) := HU7.out.cell (i := 0) rfl
  have g1 : (w6.alloc (.cells #[.int .i64 t.m, .int .i64 t.s, .int .i64 t.i] 31)).cell? ⟨U, 1, none⟩ = some (.int .i64 t.s) := HU7.out.cell (i := 1) rfl
  have g2 : (w6.alloc (.cells #[.int .i64 t.m, .int .i64 t.s, .int .i64 t.i] 31)).cell? ⟨U, 2, none⟩ = some (.int .i64 t.i) := HU7.out.cell (i := 2) rfl
  clear hb6 hb7 HB5 HW5 HR5 HU5 HOC HOP
  go_wp2_with fail
  refine (num_c _ _).mono ?_
  rintro e w' ⟨rfl, rfl⟩
  clear g0 g1 g2
  go_wp2_with fail
  refine (tworks_c _).mono ?_
  rintro e w8 ⟨rfl, hb8⟩
  have HB8 := Lib.hid (HB7.out.trans (hb8.mono HB7.out.size))
  clear hb8
  go_wp2_with fail
  go_ret
  exact ⟨rfl, HB8.out⟩
end Go.Proofs.YtomnjhhpeglcnaaGreat
