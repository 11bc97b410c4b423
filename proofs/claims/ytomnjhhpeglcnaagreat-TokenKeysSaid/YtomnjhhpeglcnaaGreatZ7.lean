/- Contracts: the document's tags. Contracts: the document's keys of keys. -/
import Derived.Test.YtomnjhhpeglcnaaGreatZ5
import Derived.Test.YtomnjhhpeglcnaaGreatZ6
import Derived.Test.YtomnjhhpeglcnaaGreatZwr
namespace Go.Proofs.YtomnjhhpeglcnaaGreat
open Go.RowKit
set_option linter.unusedSimpArgs false
set_option linter.unusedVariables false
set_option maxRecDepth 100000

theorem rsum_c (a : Option Addr) (n c : Nat) (l : List By) (w : World) (h : Bys w a n l) (hn : n ≤ 100000000) :
    Calls Tryz.prog 89 #[.slice a n c] w fun e w' => ∃ v, e = .returned v ∧ OwnB w' w.heap.size v (H32 l) ∧ Below w.heap.size w w' := by
  have HN := Lib.hid (Bys.nil (w := w))
  have H := Lib.hid h
  clear h
  go_enter Tryz.func89, Tryz.ntmps89
  go_wp2_with fail
  refine (rkeyed_c 32 none 0 0 [] a n c l w HN.out (by decide) (by decide) (by decide) H.out hn).mono ?_
  rintro e w1 ⟨v, rfl, ho, hb⟩
  have HO := Lib.hid ho; have HB := Lib.hid hb
  clear ho hb
  go_wp2_with fail
  go_ret
  exact ⟨v, rfl, HO.out, HB.out⟩
set_option maxHeartbeats 4000000 in
theorem rhalf_c (a : Option Addr) (n c : Nat) (key : List By) (x : By) (ba : Option Addr) (bn bc : Nat) (bb : List By) (w : World) (hk : Bys w a n key) (hn : n ≤ 1000000) (hb : Bys w ba bn bb) (hbn : bn ≤ 10000000) :
    Calls Tryz.prog 80 #[.slice a n c, .int .u8 (x.toNat : Int), .slice ba bn bc] w fun e w' => ∃ v, e = .returned v ∧ OwnB w' w.heap.size v (H32 (xorB x (keyBlk key) ++ bb)) ∧ Below w.heap.size w w' := by
  have HBB := Lib.hid hb
  clear hb
  by_cases h64 : 64 < n
  · have q : (64 : Int) < (n : Int) := by omega
    have HKB : Hid (keyBlk key = pad (H32 key)) := Lib.hid (by unfold keyBlk; rw [if_pos (by rw [hk.1]; exact h64)])
    have HK0 := Lib.hid hk
    clear hk
    go_enter Tryz.func80, Tryz.ntmps80
    go_wp2_with fail
    refine (rsum_c a n c key w HK0.out (by omega)).mono ?_
    rintro e w1 ⟨v, rfl, ho, hb1⟩
    obtain ⟨aK, cK, hvK, _, hyK⟩ := ho.bys
    rw [H32_len] at hvK hyK
    subst hvK
    obtain ⟨K, hKd⟩ : ∃ K, K = H32 key := ⟨_, rfl⟩
    rw [← hKd] at hyK
    have HK := Lib.hid hyK
    obtain ⟨P, hP⟩ : ∃ P, P = pad K := ⟨_, rfl⟩
    have HPK := Lib.hid hP
    have HKB : Hid (keyBlk key = P) := Lib.hid (by rw [HKB.out, hP, hKd])
    have HPL : Hid (P.length = 64) := Lib.hid (by rw [hP]; exact pad_len _ (by rw [hKd, H32_len]; decide))
    have HBF := Lib.hid hb1
    have HBB := Lib.hid (HBB.out.below hb1)
    clear ho hyK hKd hP hb1 HK0
    obtain ⟨N0, hN0⟩ : ∃ N0, N0 = w1.heap.size := ⟨_, rfl⟩
    have HN0 := Lib.hid hN0
    go_wp2_with fail
    go_loopw [7, 8] (fun bv iv wr => ∃ k : Nat, k ≤ 64 ∧ iv = .int .i64 (k : Int) ∧ OwnB wr w1.heap.size bv (xorB x (P.take k)) ∧ Below w1.heap.size w1 wr) (fun _ iv _ => 64 - (intOf iv).toNat)
    case atStart => exact ⟨0, Nat.zero_le _, rfl, own_nil _ _, Below.refl _ _⟩
    case round =>
    obtain ⟨k, hk, rfl, ho, hb⟩ := hrel
    have HO := Lib.hid ho; have HBW := Lib.hid hb
    clear ho hb
    by_cases hlt : k < 64
    · have hsn : ∀ y : By, P[k]? = some y → xorB x (P.take (k + 1)) = xorB x (P.take k) ++ [y ^^^ x] := fun y hy => by
        unfold xorB; rw [List.take_add_one, hy]; simp
      have HSN := Lib.hid hsn
      clear hsn
      by_cases hkn : k < 32
      · obtain ⟨y, hy⟩ : ∃ y, K[k]? = some y := ⟨K[k]'(by rw [HK.out.1]; exact hkn), List.getElem?_eq_getElem _⟩
        obtain ⟨g, off, hae, hg, hcell⟩ := (HK.out.below HBW.out).2 k y hy
        have HPy : Hid (P[k]? = some y) := Lib.hid (by rw [HPK.out, pad, List.getElem?_append_left (by rw [HK.out.1]; exact hkn)]; exact hy)
        subst hae
        have hxr := xor8 y x
        obtain ⟨zz, hzz⟩ : ∃ zz, zz = y ^^^ x := ⟨_, rfl⟩
        rw [← hzz] at hxr
        have HZZ := Lib.hid hzz
        clear hy hzz
        have hal := (Below.refl wr.heap.size wr).alloc (Nat.le_refl _) (.cells #[.int .u8 (zz.toNat : Int)] 5)
        have HOa := Lib.hid (HO.out.below hal)
        have HYa : Hid (Bys (wr.alloc (.cells #[.int .u8 (zz.toNat : Int)] 5)) (some ⟨wr.heap.size, 0, none⟩) 1 [zz]) := Lib.hid (Bys.lit 5 rfl rfl)
        have HBa := Lib.hid (HBW.out.trans (hal.mono HBW.out.size))
        have HLa : Hid ((xorB x (P.take k)).length + 1 ≤ 1000000000000) := Lib.hid (by rw [xorB_len, List.length_take]; omega)
        clear hal
        go_wp2_with (at_builtin; refine wpl_append_bys rfl _ _ rfl w1.heap.size _ _ rfl HOa.out (some ⟨wr.heap.size, 0, none⟩) 1 1 [zz] rfl HYa.out HLa.out HBa.out.size ?_)
        intro v' w4 ho4 hg4 _
        have HB4 := Lib.hid (HBa.out.trans (own_grown HOa.out hg4 (Nat.le_refl _) HBa.out.size))
        have HO4 : Hid (OwnB w4 w1.heap.size v' (xorB x (P.take (k + 1)))) := Lib.hid (by rw [HSN.out y HPy.out, ← HZZ.out]; exact ho4)
        clear ho4 hg4 HOa HYa HBa
        go_wp2_with fail
        go_roundw
        case rel => exact ⟨k + 1, by omega, by go_num, HO4.out, HB4.out⟩
        case measure => simp [intOf]; omega
      · have HPy : Hid (P[k]? = some 0#8) := Lib.hid (by rw [HPK.out, pad, List.getElem?_append_right (by rw [HK.out.1]; omega), List.getElem?_replicate, if_pos (by rw [HK.out.1]; omega)])
        obtain ⟨y, hyy⟩ : ∃ y : By, y = 0#8 := ⟨_, rfl⟩
        have hxr : bits .xor .u8 (0 : Int) (x.toNat : Int) = ((0#8 ^^^ x).toNat : Int) := xor8 0#8 x
        rw [← hyy] at hxr HPy
        obtain ⟨zz, hzz⟩ : ∃ zz, zz = y ^^^ x := ⟨_, rfl⟩
        rw [← hzz] at hxr
        have HZZ := Lib.hid hzz
        clear hzz hyy
        have hal := (Below.refl wr.heap.size wr).alloc (Nat.le_refl _) (.cells #[.int .u8 (zz.toNat : Int)] 5)
        have HOa := Lib.hid (HO.out.below hal)
        have HYa : Hid (Bys (wr.alloc (.cells #[.int .u8 (zz.toNat : Int)] 5)) (some ⟨wr.heap.size, 0, none⟩) 1 [zz]) := Lib.hid (Bys.lit 5 rfl rfl)
        have HBa := Lib.hid (HBW.out.trans (hal.mono HBW.out.size))
        have HLa : Hid ((xorB x (P.take k)).length + 1 ≤ 1000000000000) := Lib.hid (by rw [xorB_len, List.length_take]; omega)
        clear hal
        go_wp2_with (at_builtin; refine wpl_append_bys rfl _ _ rfl w1.heap.size _ _ rfl HOa.out (some ⟨wr.heap.size, 0, none⟩) 1 1 [zz] rfl HYa.out HLa.out HBa.out.size ?_)
        intro v' w4 ho4 hg4 _
        have HB4 := Lib.hid (HBa.out.trans (own_grown HOa.out hg4 (Nat.le_refl _) HBa.out.size))
        have HO4 : Hid (OwnB w4 w1.heap.size v' (xorB x (P.take (k + 1)))) := Lib.hid (by rw [HSN.out y HPy.out, ← HZZ.out]; exact ho4)
        clear ho4 hg4 HOa HYa HBa
        go_wp2_with fail
        go_roundw
        case rel => exact ⟨k + 1, by omega, by go_num, HO4.out, HB4.out⟩
        case measure => simp [intOf]; omega
    · obtain rfl : k = 64 := by omega
      have hfull : P.take 64 = P := List.take_of_length_le (by rw [HPL.out]; exact Nat.le_refl _)
      have ho := HO.out
      rw [hfull] at ho
      have HOF := Lib.hid ho
      have HBB2 := Lib.hid (HBB.out.below HBW.out)
      have hxl : (xorB x P).length = 64 := by rw [xorB_len, HPL.out]
      have HXL := Lib.hid hxl
      clear ho hfull HO hxl
      go_wp2_with (at_builtin; refine wpl_append_bys rfl _ _ rfl w1.heap.size _ (xorB x P) rfl HOF.out ba bn bc bb rfl HBB2.out (by rw [HXL.out]; omega) HBW.out.size ?_)
      intro v' w4 ho4 hg4 _
      have HB4 := Lib.hid (HBW.out.trans (own_grown HOF.out hg4 (Nat.le_refl _) HBW.out.size))
      obtain ⟨a4, c4, hv4, _, hy4⟩ := ho4.bys
      obtain ⟨n4, hn4⟩ : ∃ n4, n4 = (xorB x P ++ bb).length := ⟨_, rfl⟩
      have hn4b : n4 ≤ 100000000 := by rw [hn4, List.length_append, HXL.out, HBB.out.1]; omega
      rw [← hn4] at hv4 hy4
      subst hv4
      have HY4 := Lib.hid hy4
      clear ho4 hg4 hy4 hn4 HOF HBB2 HBW
      go_wp2_with fail
      refine (rsum_c a4 n4 c4 _ w4 HY4.out hn4b).mono ?_
      rintro e w5 ⟨v5, rfl, ho5, hb5⟩
      have HO5 := Lib.hid ho5
      have HB5 := Lib.hid (HB4.out.trans (hb5.mono HB4.out.size))
      clear ho5 hb5
      go_wp2_with fail
      go_ret
      refine ⟨v5, rfl, ?_, HBF.out.trans (HB5.out.mono HBF.out.size)⟩
      rw [HKB.out]
      exact own_low HO5.out (Nat.le_trans HBF.out.size HB4.out.size)
  · have q : ¬ (64 : Int) < (n : Int) := by omega
    obtain ⟨K, hKd⟩ : ∃ K, K = key := ⟨_, rfl⟩
    obtain ⟨P, hP⟩ : ∃ P, P = pad K := ⟨_, rfl⟩
    have HPK := Lib.hid hP
    have HKB : Hid (keyBlk key = P) := Lib.hid (by unfold keyBlk; rw [if_neg (by rw [hk.1]; exact h64), hP, hKd])
    have HPL : Hid (P.length = 64) := Lib.hid (by rw [hP]; exact pad_len _ (by rw [hKd, hk.1]; omega))
    have HK : Hid (Bys w a n K) := Lib.hid (by rw [hKd]; exact hk)
    have HBF := Lib.hid (Below.refl w.heap.size w)
    clear hk hKd hP
    go_enter Tryz.func80, Tryz.ntmps80
    obtain ⟨N0, hN0⟩ : ∃ N0, N0 = w.heap.size := ⟨_, rfl⟩
    have HN0 := Lib.hid hN0
    go_wp2_with fail
    go_loopw [7, 8] (fun bv iv wr => ∃ k : Nat, k ≤ 64 ∧ iv = .int .i64 (k : Int) ∧ OwnB wr w.heap.size bv (xorB x (P.take k)) ∧ Below w.heap.size w wr) (fun _ iv _ => 64 - (intOf iv).toNat)
    case atStart => exact ⟨0, Nat.zero_le _, rfl, own_nil _ _, Below.refl _ _⟩
    case round =>
    obtain ⟨k, hk, rfl, ho, hb⟩ := hrel
    have HO := Lib.hid ho; have HBW := Lib.hid hb
    clear ho hb
    by_cases hlt : k < 64
    · have hsn : ∀ y : By, P[k]? = some y → xorB x (P.take (k + 1)) = xorB x (P.take k) ++ [y ^^^ x] := fun y hy => by
        unfold xorB; rw [List.take_add_one, hy]; simp
      have HSN := Lib.hid hsn
      clear hsn
      by_cases hkn : k < n
      · obtain ⟨y, hy⟩ : ∃ y, K[k]? = some y := ⟨K[k]'(by rw [HK.out.1]; exact hkn), List.getElem?_eq_getElem _⟩
        obtain ⟨g, off, hae, hg, hcell⟩ := (HK.out.below HBW.out).2 k y hy
        have HPy : Hid (P[k]? = some y) := Lib.hid (by rw [HPK.out, pad, List.getElem?_append_left (by rw [HK.out.1]; exact hkn)]; exact hy)
        subst hae
        have hxr := xor8 y x
        obtain ⟨zz, hzz⟩ : ∃ zz, zz = y ^^^ x := ⟨_, rfl⟩
        rw [← hzz] at hxr
        have HZZ := Lib.hid hzz
        clear hy hzz
        have hal := (Below.refl wr.heap.size wr).alloc (Nat.le_refl _) (.cells #[.int .u8 (zz.toNat : Int)] 5)
        have HOa := Lib.hid (HO.out.below hal)
        have HYa : Hid (Bys (wr.alloc (.cells #[.int .u8 (zz.toNat : Int)] 5)) (some ⟨wr.heap.size, 0, none⟩) 1 [zz]) := Lib.hid (Bys.lit 5 rfl rfl)
        have HBa := Lib.hid (HBW.out.trans (hal.mono HBW.out.size))
        have HLa : Hid ((xorB x (P.take k)).length + 1 ≤ 1000000000000) := Lib.hid (by rw [xorB_len, List.length_take]; omega)
        clear hal
        go_wp2_with (at_builtin; refine wpl_append_bys rfl _ _ rfl w.heap.size _ _ rfl HOa.out (some ⟨wr.heap.size, 0, none⟩) 1 1 [zz] rfl HYa.out HLa.out HBa.out.size ?_)
        intro v' w4 ho4 hg4 _
        have HB4 := Lib.hid (HBa.out.trans (own_grown HOa.out hg4 (Nat.le_refl _) HBa.out.size))
        have HO4 : Hid (OwnB w4 w.heap.size v' (xorB x (P.take (k + 1)))) := Lib.hid (by rw [HSN.out y HPy.out, ← HZZ.out]; exact ho4)
        clear ho4 hg4 HOa HYa HBa
        go_wp2_with fail
        go_roundw
        case rel => exact ⟨k + 1, by omega, by go_num, HO4.out, HB4.out⟩
        case measure => simp [intOf]; omega
      · have HPy : Hid (P[k]? = some 0#8) := Lib.hid (by rw [HPK.out, pad, List.getElem?_append_right (by rw [HK.out.1]; omega), List.getElem?_replicate, if_pos (by rw [HK.out.1]; omega)])
        obtain ⟨y, hyy⟩ : ∃ y : By, y = 0#8 := ⟨_, rfl⟩
        have hxr : bits .xor .u8 (0 : Int) (x.toNat : Int) = ((0#8 ^^^ x).toNat : Int) := xor8 0#8 x
        rw [← hyy] at hxr HPy
        obtain ⟨zz, hzz⟩ : ∃ zz, zz = y ^^^ x := ⟨_, rfl⟩
        rw [← hzz] at hxr
        have HZZ := Lib.hid hzz
        clear hzz hyy
        have hal := (Below.refl wr.heap.size wr).alloc (Nat.le_refl _) (.cells #[.int .u8 (zz.toNat : Int)] 5)
        have HOa := Lib.hid (HO.out.below hal)
        have HYa : Hid (Bys (wr.alloc (.cells #[.int .u8 (zz.toNat : Int)] 5)) (some ⟨wr.heap.size, 0, none⟩) 1 [zz]) := Lib.hid (Bys.lit 5 rfl rfl)
        have HBa := Lib.hid (HBW.out.trans (hal.mono HBW.out.size))
        have HLa : Hid ((xorB x (P.take k)).length + 1 ≤ 1000000000000) := Lib.hid (by rw [xorB_len, List.length_take]; omega)
        clear hal
        go_wp2_with (at_builtin; refine wpl_append_bys rfl _ _ rfl w.heap.size _ _ rfl HOa.out (some ⟨wr.heap.size, 0, none⟩) 1 1 [zz] rfl HYa.out HLa.out HBa.out.size ?_)
        intro v' w4 ho4 hg4 _
        have HB4 := Lib.hid (HBa.out.trans (own_grown HOa.out hg4 (Nat.le_refl _) HBa.out.size))
        have HO4 : Hid (OwnB w4 w.heap.size v' (xorB x (P.take (k + 1)))) := Lib.hid (by rw [HSN.out y HPy.out, ← HZZ.out]; exact ho4)
        clear ho4 hg4 HOa HYa HBa
        go_wp2_with fail
        go_roundw
        case rel => exact ⟨k + 1, by omega, by go_num, HO4.out, HB4.out⟩
        case measure => simp [intOf]; omega
    · obtain rfl : k = 64 := by omega
      have hfull : P.take 64 = P := List.take_of_length_le (by rw [HPL.out]; exact Nat.le_refl _)
      have ho := HO.out
      rw [hfull] at ho
      have HOF := Lib.hid ho
      have HBB2 := Lib.hid (HBB.out.below HBW.out)
      have hxl : (xorB x P).length = 64 := by rw [xorB_len, HPL.out]
      have HXL := Lib.hid hxl
      clear ho hfull HO hxl
      go_wp2_with (at_builtin; refine wpl_append_bys rfl _ _ rfl w.heap.size _ (xorB x P) rfl HOF.out ba bn bc bb rfl HBB2.out (by rw [HXL.out]; omega) HBW.out.size ?_)
      intro v' w4 ho4 hg4 _
      have HB4 := Lib.hid (HBW.out.trans (own_grown HOF.out hg4 (Nat.le_refl _) HBW.out.size))
      obtain ⟨a4, c4, hv4, _, hy4⟩ := ho4.bys
      obtain ⟨n4, hn4⟩ : ∃ n4, n4 = (xorB x P ++ bb).length := ⟨_, rfl⟩
      have hn4b : n4 ≤ 100000000 := by rw [hn4, List.length_append, HXL.out, HBB.out.1]; omega
      rw [← hn4] at hv4 hy4
      subst hv4
      have HY4 := Lib.hid hy4
      clear ho4 hg4 hy4 hn4 HOF HBB2 HBW
      go_wp2_with fail
      refine (rsum_c a4 n4 c4 _ w4 HY4.out hn4b).mono ?_
      rintro e w5 ⟨v5, rfl, ho5, hb5⟩
      have HO5 := Lib.hid ho5
      have HB5 := Lib.hid (HB4.out.trans (hb5.mono HB4.out.size))
      clear ho5 hb5
      go_wp2_with fail
      go_ret
      refine ⟨v5, rfl, ?_, HBF.out.trans (HB5.out.mono HBF.out.size)⟩
      rw [HKB.out]
      exact own_low HO5.out (Nat.le_trans HBF.out.size HB4.out.size)
set_option maxHeartbeats 2000000 in
theorem rtag_c (a : Option Addr) (n c : Nat) (key : List By) (ba : Option Addr) (bn bc : Nat) (bb : List By) (w : World) (hk : Bys w a n key) (hn : n ≤ 1000000) (hb : Bys w ba bn bb) (hbn : bn ≤ 10000000) :
    Calls Tryz.prog 63 #[.slice a n c, .slice ba bn bc] w fun e w' => ∃ v, e = .returned v ∧ OwnB w' w.heap.size v (tagB key bb) ∧ Below w.heap.size w w' := by
  have HK := Lib.hid hk; have HBB := Lib.hid hb
  clear hk hb
  go_enter Tryz.func63, Tryz.ntmps63
  go_wp2_with fail
  refine (rhalf_c a n c key 54#8 ba bn bc bb w HK.out hn HBB.out hbn).mono ?_
  rintro e w1 ⟨v, rfl, ho, hb1⟩
  obtain ⟨a1, c1, hv1, _, hy1⟩ := ho.bys
  rw [H32_len] at hv1 hy1
  subst hv1
  have HY1 := Lib.hid hy1; have HB1 := Lib.hid hb1
  have HK1 := Lib.hid (HK.out.below hb1)
  clear ho hy1 hb1
  go_wp2_with fail
  refine (rhalf_c a n c key 92#8 a1 32 c1 _ w1 HK1.out hn HY1.out (by decide)).mono ?_
  rintro e w2 ⟨v2, rfl, ho2, hb2⟩
  have HO2 := Lib.hid ho2; have HB2 := Lib.hid (HB1.out.trans (hb2.mono HB1.out.size))
  clear ho2 hb2
  go_wp2_with fail
  go_ret
  exact ⟨v2, rfl, own_low HO2.out HB1.out.size, HB2.out⟩
end Go.Proofs.YtomnjhhpeglcnaaGreat

namespace Go.Proofs.YtomnjhhpeglcnaaGreat
open Go.RowKit
set_option linter.unusedSimpArgs false
set_option linter.unusedVariables false
set_option maxRecDepth 100000

set_option maxHeartbeats 8000000 in
theorem rderive_c (a : Option Addr) (n c : Nat) (key : List By) (s : ByteArray) (w : World) (hk : Bys w a n key) (hn : n ≤ 1000000) (hs : s.size ≤ 1000000) :
    Calls Tryz.prog 64 #[.slice a n c, .string s, .int .i64 32] w fun e w' => ∃ v, e = .returned v ∧ OwnB w' w.heap.size v (lastB key (strB s) 1) ∧ Below w.heap.size w w' := by
  have HK := Lib.hid hk
  clear hk
  go_enter Tryz.func64, Tryz.ntmps64
  go_wp2_with fail
  go_loopw [7, 8, 9] (fun ov lv iv wr => ((ov = .slice none 0 0 ∧ lv = .slice none 0 0 ∧ iv = .int .i64 1) ∨ (iv = .int .i64 2 ∧ OwnB wr w.heap.size ov (lastB key (strB s) 1))) ∧ Below w.heap.size w wr) (fun _ _ iv _ => 2 - (intOf iv).toNat)
  case atStart => exact ⟨.inl ⟨rfl, rfl, rfl⟩, Below.refl _ _⟩
  case round =>
  obtain ⟨⟨rfl, rfl, rfl⟩ | ⟨rfl, ho⟩, hb⟩ := hrel
  · have HB := Lib.hid hb
    have hal := (Below.refl wr.heap.size wr).alloc (Nat.le_refl _) (.cells #[] 5)
    have HE := Lib.hid (own_empty wr)
    have HBe := Lib.hid hal
    have HNn := Lib.hid (Bys.nil (w := (wr.alloc (.cells #[] 5))))
    clear hal hb
    go_wp2_with (at_builtin; refine wpl_append_bys rfl _ _ rfl wr.heap.size _ [] rfl HE.out none 0 0 [] rfl HNn.out (by simp) HBe.out.size ?_)
    intro v1 w1 ho1 hg1 _
    have HO1 := Lib.hid ho1
    have HB1 := Lib.hid (HBe.out.grown hg1 HBe.out.size (fun k e => by simp [Value.ownBlock] at e; omega))
    clear ho1 hg1 HE HBe HNn
    have hsz0 : ([] ++ [] : List By).length + s.size ≤ 1000000000000 := by simp; omega
    go_wp2_with (first | (refine wpl_conv_bytes rfl _ rfl s rfl ?_; intro cc w2 hy2 hb2 hz2 hc2; have HY2 := Lib.hid hy2; have HO2 := Lib.hid (HO1.out.below hb2); have HB2 := Lib.hid (HB1.out.trans (hb2.mono HB1.out.size)); clear hy2 hb2 hz2 hc2) | (at_builtin; refine wpl_append_bys rfl _ _ rfl wr.heap.size v1 _ rfl HO2.out (some ⟨w1.heap.size, 0, none⟩) s.size cc (strB s) rfl HY2.out hsz0 HB2.out.size ?_))
    intro v3 w3 ho3 hg3 _
    have HB3 := Lib.hid (HB2.out.grown hg3 HB2.out.size (fun k e => (own_lt HO2.out k e).1))
    have hal3 := (Below.refl w3.heap.size w3).alloc (Nat.le_refl _) (.cells #[.int .u8 1] 5)
    have HO3 := Lib.hid (ho3.below hal3)
    have HY3 : Hid (Bys (w3.alloc (.cells #[.int .u8 1] 5)) (some ⟨w3.heap.size, 0, none⟩) 1 [1#8]) := Lib.hid (Bys.lit 5 rfl rfl)
    have HB4 := Lib.hid (HB3.out.trans (hal3.mono HB3.out.size))
    have HL3 : Hid (([] ++ [] ++ strB s).length + 1 ≤ 1000000000000) := Lib.hid (by simp [strB_len]; omega)
    clear ho3 hg3 hal3 HO1 HO2 HY2 HB1 HB2
    go_wp2_with (at_builtin; refine wpl_append_bys rfl _ _ rfl wr.heap.size v3 _ rfl HO3.out (some ⟨w3.heap.size, 0, none⟩) 1 1 [1#8] rfl HY3.out HL3.out HB4.out.size ?_)
    intro v4 w4 ho4 hg4 _
    have HB5 := Lib.hid (HB4.out.grown hg4 HB4.out.size (fun k e => (own_lt HO3.out k e).1))
    obtain ⟨M, hM⟩ : ∃ M, M = strB s ++ [1#8] := ⟨_, rfl⟩
    have hml : M.length = s.size + 1 := by rw [hM]; simp [strB_len]
    have ho4' : OwnB w4 wr.heap.size v4 M := by rw [hM]; simpa using ho4
    have HM := Lib.hid hM
    obtain ⟨a4, c4, hv4, _, hy4⟩ := ho4'.bys
    rw [hml] at hv4 hy4
    subst hv4
    have HY4 := Lib.hid hy4
    have HK4 := Lib.hid ((HK.out.below HB.out).below HB5.out)
    clear ho4 ho4' hy4 hg4 HO3 HY3 HL3 HB3 HB4 hM hml hsz0
    go_wp2_with fail
    refine (rtag_c a n c key a4 (s.size + 1) c4 M w4 HK4.out hn HY4.out (by omega)).mono ?_
    rintro e w5 ⟨v5, rfl, ho5, hb5⟩
    obtain ⟨a5, c5, hv5, _, hy5⟩ := ho5.bys
    rw [tagB_len] at hv5 hy5
    subst hv5
    have HY5 := Lib.hid hy5
    have HB6 := Lib.hid ((HB.out.trans (HB5.out.mono HB.out.size)).trans (hb5.mono (by have := HB.out.size; have := HB5.out.size; omega)))
    clear ho5 hy5 hb5 HY4 HK4 HB5
    go_wp2_with (at_builtin; refine wpl_append_bys rfl _ _ rfl w.heap.size _ [] rfl (own_nil _ _) a5 32 c5 (tagB key M) rfl HY5.out (by simp) HB6.out.size ?_)
    intro v6 w6 ho6 hg6
    have HO6 : Hid (OwnB w6 w.heap.size v6 (lastB key (strB s) 1)) := Lib.hid (by
      have e : lastB key (strB s) 1 = tagB key M := by rw [HM.out]; rfl
      rw [e]; simpa using ho6)
    have HB7 := Lib.hid (HB6.out.grown hg6 HB6.out.size (fun k e => by simp [Value.ownBlock] at e))
    clear ho6 hg6 HY5 HB6
    go_wp2_with fail
    go_roundw
    case rel => exact ⟨.inr ⟨rfl, HO6.out⟩, HB7.out⟩
    case measure => simp [intOf]
  · have HB := Lib.hid hb
    obtain ⟨a6, c6, hv6, hc6, hy6⟩ := ho.bys
    have h32 := lastB_len key (strB s) 0
    rw [Nat.zero_add] at h32
    rw [h32] at hv6 hc6
    subst hv6
    have HO := Lib.hid ho
    have hC : (32 : Int) ≤ (c6 : Int) := by omega
    clear ho hb hy6 h32
    go_wp2_with fail
    go_ret
    exact ⟨_, rfl, HO.out, HB.out⟩
end Go.Proofs.YtomnjhhpeglcnaaGreat
