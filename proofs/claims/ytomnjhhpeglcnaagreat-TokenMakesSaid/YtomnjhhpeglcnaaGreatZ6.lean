/- Contracts: the reference's sum. -/
import Derived.Test.YtomnjhhpeglcnaaGreatZq
import Derived.Test.YtomnjhhpeglcnaaGreatZd
import Derived.Deep.DeepCutAuto
import Derived.IntWalk
namespace Go.Proofs.YtomnjhhpeglcnaaGreat
open Go.RowKit
set_option maxRecDepth 100000
set_option linter.unusedSimpArgs false
set_option linter.unusedVariables false

theorem bya_set (l : List By) (k : Nat) (x : By) : (bya l).setIfInBounds k (.int .u8 (x.toNat : Int)) = bya (l.set k x) := by
  simp [bya, List.map_set]
theorem pad_set (B : List By) (j : Nat) (c : By) (hj : B[j]? = some c) (hB : B.length ≤ 64) : (pad (B.take j)).set j c = pad (B.take (j + 1)) := by
  have hlt := (List.getElem?_eq_some_iff.1 hj).1
  have e1 : (B.take j).length = j := by rw [List.length_take]; omega
  have e2 : (B.take (j + 1)).length = j + 1 := by rw [List.length_take]; omega
  unfold pad
  rw [e1, e2, List.set_append_right _ _ (by omega), e1, Nat.sub_self, show 64 - j = (64 - (j + 1)) + 1 by omega, List.replicate_succ, List.set_cons_zero]
  rw [List.take_add_one, hj]
  simp
set_option maxRecDepth 100000 in
set_option maxHeartbeats 4000000 in
theorem rkeyed_c (wide : Nat) (a : Option Addr) (n c : Nat) (key : List By) (ba : Option Addr) (bn bc : Nat) (bb : List By) (w : World) (hk : Bys w a n key) (h1 : 1 ≤ wide) (h2 : wide ≤ 32) (h3 : n ≤ 32) (hb : Bys w ba bn bb) (hbn : bn ≤ 100000000) :
    Calls Tryz.prog 97 #[.int .i64 (wide : Int), .slice a n c, .slice ba bn bc] w fun e w' => ∃ v, e = .returned v ∧ OwnB w' w.heap.size v (keyed wide key bb) ∧ Below w.heap.size w w' := by
  have HK := Lib.hid hk; have HBB := Lib.hid hb
  have HKL := Lib.hid hk.1
  have HBL := Lib.hid hb.1
  clear hk hb
  have z28 := zero28
  obtain ⟨Z, hZ⟩ : ∃ Z, Z = bya (List.replicate 64 0#8) := ⟨_, rfl⟩
  rw [← hZ] at z28
  have HZ := Lib.hid hZ
  clear hZ
  go_enter Tryz.func97, Tryz.ntmps97
  go_wp2_with fail
  refine (rfirst_c _).mono ?_
  rintro e w1 ⟨rfl, hb1⟩
  have HB1 := Lib.hid hb1
  clear hb1
  go_upto_region 2 with (refine wpl_store_blk rfl 161 _ _ rfl w1.heap.size 161 _ (ws iv) rfl rfl (Blk.new w1 161 _) rfl (by kernel_rfl) (ws_one _) ?_; intro w2 hB2 hO2 hz2)
  have hb2 : Below w.heap.size w w2 := (HB1.out.alloc HB1.out.size _).trans (hO2.below (by have := HB1.out.size; simp; omega) HB1.out.size)
  have HB2 := Lib.hid hb2
  have hsl := HB1.out.size
  obtain ⟨s, hs⟩ : ∃ s, s = w1.heap.size := ⟨_, rfl⟩
  rw [← hs] at hB2 hsl ⊢
  have HH := Lib.hid hB2
  clear hs hO2 hz2 hb2
  obtain ⟨x0, hx0⟩ : ∃ x, x = iv.getD 0 0#32 := ⟨_, rfl⟩
  have c0 := blk_ws hB2 (k := 0) (by decide)
  rw [← hx0] at c0
  have f0 := hB2.frozen 0
  obtain ⟨z, hz⟩ : ∃ z, z = 16842752 + 256 * n + wide := ⟨_, rfl⟩
  have hxo := bxq x0 (BitVec.ofNat 32 z)
  rw [BitVec.toNat_ofNat, Nat.mod_eq_of_lt (by omega)] at hxo
  obtain ⟨y, hy⟩ : ∃ y, y = x0 ^^^ BitVec.ofNat 32 z := ⟨_, rfl⟩
  rw [← hy] at hxo
  have HY : Hid (iv.set 0 y = start wide n) := Lib.hid (by rw [hy, hx0, hz]; rfl)
  have hzz : (16842752 : Int) + 256 * (n : Int) + (wide : Int) = (z : Int) := by omega
  have HSt := Lib.hid (blk_ws_set HH.out 0 y)
  have HBS := Lib.hid (HB2.out.setCell (p := ⟨s, 0, none⟩) hsl (.int .u32 (y.toNat : Int)))
  clear hy hx0 hz hB2
  go_upto_if 30 with (fail)
  have hst2 : Blk (w2.setCell ⟨s, 0, none⟩ (.int .u32 (y.toNat : Int))) s 161 (ws (start wide n)) := by have := HSt.out; rwa [HY.out] at this
  have HSt2 := Lib.hid hst2
  clear HSt hst2 hxo hzz c0 f0
  have hzs : (w2.setCell ⟨s, 0, none⟩ (.int .u32 (y.toNat : Int))).heap.size = w2.heap.size := by simp
  generalize (World.setCell _ _ _) = w3 at HSt2 HBS hzs ⊢
  have HZS := Lib.hid hzs
  clear hzs
  go_cut [8] (fun v wx => OwnB wx (s + 1) v (keyB key) ∧ Blk wx s 161 (ws (start wide n)) ∧ Below w.heap.size w wx)
  case first =>
    by_cases hn0 : n = 0
    · have hke : key = [] := List.eq_nil_of_length_eq_zero (by have := HKL.out; omega)
      subst hn0
      go_wp2_with fail
      go_meet
      exact ⟨by rw [hke, keyB, if_pos rfl]; exact ⟨by simp [bl], .inl ⟨rfl, rfl⟩⟩, HSt2.out, HBS.out⟩
    · have hq : 0 < n := by omega
      have hke : key ≠ [] := fun e => by have := HKL.out; rw [e] at this; exact hn0 this.symm
      have Hke := Lib.hid hke
      clear hke hn0
      have HK3 := Lib.hid ((HK.out.below HBS.out).below ((Below.refl w3.heap.size w3).alloc (Nat.le_refl _) (.cells #[] 5)))
      have HE := Lib.hid (own_empty w3)
      have HBE := Lib.hid (HBS.out.alloc HBS.out.size (.cells #[] 5))
      have HSE := Lib.hid (HSt2.out.alloc (.cells #[] 5))
      have hz3 := HBS.out.size
      have hsl3 := HSt2.out.lt
      go_wp2_with (at_builtin; refine wpl_append_bys rfl (.tmp 31) (.tmp 32) rfl w3.heap.size _ [] rfl HE.out a n c key rfl HK3.out ?c1 ?c2 ?_)
      case c1 => simp; omega
      case c2 => simp
      intro v4 w4 hown hg4 _
      have hg4b := own_grown HE.out hg4 (Nat.le_refl _) (by simp)
      have HB4 := Lib.hid (HBE.out.trans (hg4b.mono hz3))
      have HS4 := Lib.hid (HSE.out.below hg4b hsl3)
      have hz4 : w3.heap.size ≤ w4.heap.size := by have := hg4b.size; simp at this; omega
      have HO4 := Lib.hid hown
      clear hown hg4 hg4b
      go_wp2_with (at_builtin; refine wpl_append_zeros rfl (.tmp 33) (.tmp 36) rfl w3.heap.size _ _ rfl HO4.out (64 - n) _ rfl ?d0 ?d1 ?d2 ?_)
      case d0 => omega
      case d1 => have := HKL.out; omega
      case d2 => exact hz4
      intro v5 w5 hown5 hg5
      have hg5b := own_grown HO4.out hg5 (Nat.le_refl _) hz4
      have HB5 := Lib.hid (HB4.out.trans (hg5b.mono hz3))
      have HS5 := Lib.hid (HS4.out.below hg5b hsl3)
      have HO5 : Hid (OwnB w5 (s + 1) v5 (keyB key)) := Lib.hid (by
        rw [keyB, if_neg Hke.out, pad, HKL.out]
        exact own_low hown5 hsl3)
      clear hown5 hg5 hg5b
      go_wp2_with fail
      go_meet
      exact ⟨HO5.out, HS5.out, HB5.out⟩
  case rest =>
    obtain ⟨ho, hs, hb⟩ := hcut
    have HO := Lib.hid ho; have HS := Lib.hid hs; have HB := Lib.hid hb
    clear ho hs hb HSt2 HBS HB2 HH HZS
    have HBB2 := Lib.hid (HBB.out.below HB.out)
    have hzc := HB.out.size
    have hslc := HS.out.lt
    go_wp2_with (at_builtin; refine wpl_append_bys rfl (.tmp 38) (.tmp 39) rfl (s + 1) _ _ rfl HO.out ba bn bc bb rfl HBB2.out ?c1 ?c2 ?_)
    case c1 =>
      have : (keyB key).length ≤ 64 := by
        unfold keyB
        split
        · simp
        · rw [pad_len key (by have := HKL.out; omega)]; exact Nat.le_refl _
      omega
    case c2 => exact hslc
    intro v6 w6 hown6 hg6 _
    have hg6b := own_grown HO.out hg6 (Nat.le_refl _) hslc
    have HB6 := Lib.hid (HB.out.trans ((Below.mono hg6b (by omega))))
    have HS6 := Lib.hid (HS.out.below hg6b (by omega))
    obtain ⟨D, hD⟩ : ∃ D, D = keyB key ++ bb := ⟨_, rfl⟩
    rw [← hD] at hown6
    have hDl : D.length ≤ 100000064 := by
      rw [hD, List.length_append]
      have := HBL.out
      have : (keyB key).length ≤ 64 := by
        unfold keyB
        split
        · simp
        · rw [pad_len key (by have := HKL.out; omega)]; exact Nat.le_refl _
      omega
    obtain ⟨da, dc, rfl, hdc, hdb⟩ := hown6.bys
    have HDS : Hid (∀ x off, da = some ⟨x, off, none⟩ → x ≠ s) := Lib.hid (fun x off e => by
      subst e
      have := (World.ownsRow.lt hown6 x rfl).1
      omega)
    have HD := Lib.hid hD
    have HDB := Lib.hid hdb
    obtain ⟨m, hm⟩ : ∃ m, m = D.length := ⟨_, rfl⟩
    rw [← hm] at HDB hDl hdc ⊢
    have HM := Lib.hid hm
    clear hg6 hg6b hown6 HB HS HO HBB2 hD hdb hm
    go_wp2_with fail
    have HFL : Hid (∀ k, (pressN (start wide n) 0 D k).length = 8) := Lib.hid (fun k => by rw [pressN_len]; exact start_len _ _)
    go_loopw [9] (fun v wr => ∃ k : Nat, k ≤ full D ∧ v = .int .i64 ((64 * k : Nat) : Int) ∧ Blk wr s 161 (ws (pressN (start wide n) 0 D k)) ∧ Bys wr da m D ∧ Below w.heap.size w wr) (fun v _ => m - (intOf v).toNat)
    case atStart => exact ⟨0, Nat.zero_le _, rfl, HS6.out, HDB.out, HB6.out⟩
    case round =>
      clear HS6 HDB HB6
      obtain ⟨k, hk, rfl, hs, hdb, hb⟩ := hrel
      have HS := Lib.hid hs; have HDB := Lib.hid hdb; have HB := Lib.hid hb
      clear hs hdb hb
      have hkm : 64 * k ≤ m := by have := full_le D; have := HM.out; omega
      obtain ⟨at_, hat⟩ : ∃ at_, at_ = 64 * k := ⟨_, rfl⟩
      rw [← hat] at hkm ⊢
      obtain ⟨q, hq⟩ : ∃ q, q = min 64 (m - at_) := ⟨_, rfl⟩
      have hq64 : q ≤ 64 := by omega
      have Hat := Lib.hid hat
      have Hq := Lib.hid hq
      clear hat hq
      go_upto_region 9 with (fail)
      have HZB : Hid (Blk (wr.alloc (.cells Z 151)) wr.heap.size 151 (bya (List.replicate 64 0#8))) := Lib.hid (by rw [← HZ.out]; exact Blk.new wr 151 Z)
      have HS7 := Lib.hid (HS.out.alloc (.cells Z 151))
      have HDB7 := Lib.hid (HDB.out.below ((Below.refl wr.heap.size wr).alloc (Nat.le_refl _) (.cells Z 151)))
      have HB7 := Lib.hid (HB.out.alloc HB.out.size (.cells Z 151))
      have hgs : s < wr.heap.size := HS.out.lt
      have hgw : w.heap.size ≤ wr.heap.size := HB.out.size
      have hda : ∀ x off, da = some ⟨x, off, none⟩ → 0 < m → x < wr.heap.size := fun x off e h0 => by
        obtain ⟨x', off', e', hx, _⟩ := HDB.out.cells h0
        rw [e] at e'; injection e' with e'; injection e' with e1 e2; omega
      have HDA := Lib.hid hda
      clear hda HS HDB HB
      generalize wr.heap.size = gb at HZB hgs hgw HDA ⊢
      generalize (World.alloc _ _) = w7 at HZB HS7 HDB7 HB7 ⊢
      go_cut [11] (fun v wx => v = .int .i64 (q : Int) ∧ wx = w7)
      case first =>
        by_cases h64 : m - at_ < 64
        · have e1 : (m : Int) - (at_ : Int) = (q : Int) := by have := Hq.out; omega
          have e2 : (q : Int) < 64 := by have := Hq.out; omega
          go_wp2_with fail
          all_goals (go_meet; exact ⟨by first | rfl | (congr 1; omega), rfl⟩)
        · have e1 : q = 64 := by have := Hq.out; omega
          have e2 : ¬ (m : Int) - (at_ : Int) < 64 := by omega
          go_wp2_with fail
          all_goals (go_meet; exact ⟨by rw [e1]; first | rfl | (congr 1; omega), rfl⟩)
      case rest =>
        obtain ⟨rfl, hw⟩ := hcut
        rw [hw]
        clear hw
        obtain ⟨B, hB⟩ : ∃ B, B = blockAt D k := ⟨_, rfl⟩
        have hBl : B.length = q := by rw [hB, blockAt, List.length_take, List.length_drop, ← HM.out, ← Hat.out, Hq.out]
        have hBg : ∀ j, j < q → B[j]? = D[at_ + j]? := fun j hj => by rw [hB, blockAt, List.getElem?_take, if_pos (by omega), List.getElem?_drop, Hat.out]
        have HBk := Lib.hid hB; have HBl := Lib.hid hBl; have HBg := Lib.hid hBg
        clear hB hBl hBg
        have HP0 : Hid (Blk w7 gb 151 (bya (pad (B.take 0)))) := Lib.hid (by have := HZB.out; simpa [pad] using this)
        have HDBc := HDB7.out
        go_wp2_with fail
        go_loopw [12] (fun i wr => ∃ j : Nat, j ≤ q ∧ i = .int .i64 j ∧ Blk wr gb 151 (bya (pad (B.take j))) ∧ Only gb w7 wr) (fun i _ => q - (intOf i).toNat)
        case atStart => exact ⟨0, Nat.zero_le _, rfl, HP0.out, Only.refl _ _⟩
        case round =>
          clear HDBc
          obtain ⟨j, hj, rfl, hp, hO⟩ := hrel
          have HP := Lib.hid hp; have HO := Lib.hid hO
          have hdb2 := HDB7.out.only hO (fun x off e h0 => by have := HDA.out x off e h0; omega)
          by_cases hlt : j < q
          · obtain ⟨c0, hc0⟩ : ∃ c, D[at_ + j]? = some c := ⟨D[at_ + j]'(by have := HM.out; have := Hq.out; omega), List.getElem?_eq_getElem _⟩
            obtain ⟨g', off', rfl, hg', hcell⟩ := hdb2.2 _ _ hc0
            have hcz := blk_bya hp (k := j) (by rw [pad_len _ (by rw [List.length_take, HBl.out]; omega)]; omega)
            have hfz := hp.frozen j
            have HC0 : Hid (B[j]? = some c0) := Lib.hid (by rw [HBg.out j hlt]; exact hc0)
            have hP2 := hp.set j (.int .u8 (c0.toNat : Int))
            rw [bya_set, pad_set B j c0 HC0.out (by rw [HBl.out]; exact hq64)] at hP2
            have HP2 := Lib.hid hP2
            have HO2 := Lib.hid (hO.setCell (p := ⟨gb, j, none⟩) (.inl rfl) (.int .u8 (c0.toNat : Int)))
            have s1 : (at_ : Int) + (j : Int) < (m : Int) := by have := Hq.out; omega
            have s2 : (j : Int) < 64 := by omega
            clear hP2 hp hO hdb2 hc0
            go_wp2_with fail
            go_roundw
            case rel => exact ⟨j + 1, by omega, by go_num, HP2.out, HO2.out⟩
            case measure => simp [intOf]; omega
          · obtain rfl : j = q := by omega
            have hBB : B.take j = B := List.take_of_length_le (by rw [HBl.out]; exact Nat.le_refl _)
            rw [hBB] at HP
            have HS8 := Lib.hid (HO.out.blk HS7.out (by omega))
            have HDB8 := Lib.hid hdb2
            have HB8 := Lib.hid (HB7.out.trans (HO.out.below HB7.out.size hgw))
            have hkb : k ≤ full D := hk
            have W1 : IntKind.u64.wrap (((at_ + j : Nat) : Int)) = ((at_ + j : Nat) : Int) := IntWalk.u64_in _ (by omega)
            have eaj : (at_ : Int) + (j : Int) = ((at_ + j : Nat) : Int) := by omega
            obtain ⟨aj, haj⟩ : ∃ aj, aj = at_ + j := ⟨_, rfl⟩
            rw [← haj] at W1 eaj
            have hajm : aj ≤ m := by have := Hq.out; omega
            have HAJ := Lib.hid haj
            have hpl : (pad B).length = 64 := pad_len B (by rw [HBl.out]; exact hq64)
            have HPL := Lib.hid hpl
            clear hp hO hdb2 hBB haj hpl
            by_cases hlast : aj = m
            · have b1 : ((aj : Int) == (m : Int)) = true := by simp [hlast]
              have HLA := Lib.hid hlast
              clear hlast
              go_wp2_with (first | (refine wpl_load_blk rfl 161 _ rfl s rfl 161 _ _ HS8.out Tryz.underlying161 rfl (by rw [ws_size, HFL.out]; kernel_rfl) ?_) | (refine wpl_load_blk rfl 151 _ rfl gb rfl 151 _ _ HP.out Tryz.underlying151 rfl (by rw [bya_size, HPL.out]; kernel_rfl) ?_))
              have hkf : k = full D := by
                have h1 := HLA.out; have h2 := HAJ.out; have h3 := Hat.out; have h4 := Hq.out; have h5 := HM.out
                unfold full at hkb ⊢
                omega
              subst hkf
              refine (rpress_c _ (pad B) aj true _ (HFL.out _) HPL.out (by omega)).mono ?_
              rintro e w8 ⟨rfl, hb8⟩
              obtain ⟨H, hH⟩ : ∃ H, H = press (pressN (start wide n) 0 D (full D)) (pad B) aj true := ⟨_, rfl⟩
              have hHl : H.length = 8 := by rw [hH, press_len]; exact HFL.out _
              rw [← hH]
              have HHl := Lib.hid hHl
              have HHd : Hid (H = lastW (start wide n) D) := Lib.hid (by
                have e : leftOf D = B := by
                  rw [HBk.out, blockAt, leftOf]
                  exact (List.take_of_length_le (by have := left_le D; unfold leftOf at this; exact this)).symm
                rw [hH, lastW, e, HLA.out, HM.out])
              have HS9 := Lib.hid (HS8.out.below hb8 HS8.out.lt)
              have HB9 := Lib.hid (HB8.out.trans (hb8.mono HB8.out.size))
              clear hb8 hH hHl
              go_wp2_with (refine wpl_store_blk rfl 161 _ _ rfl s 161 _ (ws H) rfl rfl HS9.out (by rw [ws_size, ws_size, HHl.out, HFL.out]) (by rw [ws_size, HHl.out]; kernel_rfl) (ws_one _) ?_; intro w9 hB9 hO9 hz9; have HS10 := Lib.hid hB9; have HB10 := Lib.hid (HB9.out.trans (hO9.below HB9.out.size hsl)); clear hB9 hO9 hz9)
              go_loopw [13, 14] (fun v i wr => ∃ k : Nat, k ≤ 8 ∧ i = .int .i64 k ∧ OwnB wr (s + 1) v (outB (H.take k)) ∧ Blk wr s 161 (ws H) ∧ Below w.heap.size w wr) (fun _ i _ => 8 - (intOf i).toNat)
              case atStart => exact ⟨0, Nat.zero_le _, rfl, ⟨by simp [outB, bl], .inl ⟨rfl, rfl⟩⟩, HS10.out, HB10.out⟩
              case round =>
                obtain ⟨k, hk, rfl, ho, hs, hb⟩ := hrel
                have HO := Lib.hid ho; have HS := Lib.hid hs; have HB := Lib.hid hb
                clear ho hs hb
                by_cases hlt : k < 8
                · have hlt' : (k : Int) < 8 := by omega
                  have hk0 : (0 : Int) ≤ (k : Int) := by omega
                  obtain ⟨x, hx⟩ : ∃ x, x = H.getD k 0#32 := ⟨_, rfl⟩
                  have HX := Lib.hid hx
                  have hxl := lt32q x
                  clear hx
                  go_wp2_with fail
                  obtain ⟨y0, hy0⟩ : ∃ y, y = x.toNat % 256 := ⟨_, rfl⟩
                  obtain ⟨d1, hd1⟩ : ∃ y, y = x.toNat / 256 := ⟨_, rfl⟩
                  obtain ⟨y1, hy1⟩ : ∃ y, y = d1 % 256 := ⟨_, rfl⟩
                  obtain ⟨d2, hd2⟩ : ∃ y, y = x.toNat / 65536 := ⟨_, rfl⟩
                  obtain ⟨y2, hy2⟩ : ∃ y, y = d2 % 256 := ⟨_, rfl⟩
                  obtain ⟨y3, hy3⟩ : ∃ y, y = x.toNat / 16777216 := ⟨_, rfl⟩
                  have hlow : (#[.int .u8 (y0 : Int), .int .u8 (y1 : Int), .int .u8 (y2 : Int), .int .u8 (y3 : Int)] : Array Value).toList = bl (lowBq x) := by
                    rw [← low_lit]
                    have e0 : (y0 : Int) = (x.toNat : Int) % 256 := by omega
                    have e1 : (y1 : Int) = (x.toNat : Int) / 256 % 256 := by omega
                    have e2 : (y2 : Int) = (x.toNat : Int) / 65536 % 256 := by omega
                    have e3 : (y3 : Int) = (x.toNat : Int) / 16777216 := by omega
                    rw [e0, e1, e2, e3]
                  have HLOW := Lib.hid hlow
                  have a1 : (x.toNat : Int) % 256 = (y0 : Int) := by omega
                  have a2 : (x.toNat : Int) / 256 = (d1 : Int) := by omega
                  have a3 : (d1 : Int) % 256 = (y1 : Int) := by omega
                  have a4 : (x.toNat : Int) / 65536 = (d2 : Int) := by omega
                  have a5 : (d2 : Int) % 256 = (y2 : Int) := by omega
                  have a6 : (x.toNat : Int) / 16777216 = (y3 : Int) := by omega
                  have t1 : (x.toNat : Int).tmod 256 = (y0 : Int) := by rw [Int.tmod_eq_emod_of_nonneg (by omega)]; exact a1
                  have t2 : (x.toNat : Int).tdiv 256 = (d1 : Int) := by rw [Int.tdiv_eq_ediv_of_nonneg (by omega)]; exact a2
                  have t3 : (d1 : Int).tmod 256 = (y1 : Int) := by rw [Int.tmod_eq_emod_of_nonneg (by omega)]; exact a3
                  have t4 : (x.toNat : Int).tdiv 65536 = (d2 : Int) := by rw [Int.tdiv_eq_ediv_of_nonneg (by omega)]; exact a4
                  have t5 : (d2 : Int).tmod 256 = (y2 : Int) := by rw [Int.tmod_eq_emod_of_nonneg (by omega)]; exact a5
                  have t6 : (x.toNat : Int).tdiv 16777216 = (y3 : Int) := by rw [Int.tdiv_eq_ediv_of_nonneg (by omega)]; exact a6
                  have q0 : IntKind.u8.wrap (y0 : Int) = (y0 : Int) := IntWalk.u8_in _ (by omega)
                  have q1 : IntKind.u8.wrap (y1 : Int) = (y1 : Int) := IntWalk.u8_in _ (by omega)
                  have q2 : IntKind.u8.wrap (y2 : Int) = (y2 : Int) := IntWalk.u8_in _ (by omega)
                  have q3 : IntKind.u8.wrap (y3 : Int) = (y3 : Int) := IntWalk.u8_in _ (by omega)
                  have q4 : IntKind.u32.wrap (d1 : Int) = (d1 : Int) := IntWalk.u32_in _ (by omega)
                  have q5 : IntKind.u32.wrap (d2 : Int) = (d2 : Int) := IntWalk.u32_in _ (by omega)
                  have q6 : IntKind.u32.wrap (y3 : Int) = (y3 : Int) := IntWalk.u32_in _ (by omega)
                  clear hlow hy0 hd1 hy1 hd2 hy2 hy3
                  have HO := Lib.hid (HO.out.below (Below.refl wr.heap.size wr).drew)
                  have HS := Lib.hid HS.out.drew
                  have HB := Lib.hid HB.out.drew
                  have hS0 : Blk wr.drew s 161 (ws H) := HS.out
                  refine wp_region_held_drew (S := (fun W => Blk W s 161 (ws H))) (by kernel_rfl) hS0 ?_
                  intro hS0'
                  generalize wr.drew = wA at hS0' HO HS HB ⊢
                  refine wpAnyH_take (i := 0) (v := u13) rfl (by kernel_rfl) (by kernel_rfl) (by kernel_rfl) (fun _ _ _ h => h) (Or.inl ⟨by kernel_rfl, fun w hSw => ?_⟩) hS0' ?_
                  · go_simp
                  try simp only [Act.put, List.getElem_toArray, List.getElem_cons_succ, List.getElem_cons_zero, List.setIfInBounds_toArray, List.set_cons_zero, List.set_cons_succ]
                  refine wpAnyH_take (i := 1) (v := .int .i64 (k : Int)) rfl (by kernel_rfl) (by kernel_rfl) (by kernel_rfl) (fun _ _ _ h => h) (Or.inl ⟨by kernel_rfl, fun w hSw => ?_⟩) hS0' ?_
                  · go_simp
                  try simp only [Act.put, List.getElem_toArray, List.getElem_cons_succ, List.getElem_cons_zero, List.setIfInBounds_toArray, List.set_cons_zero, List.set_cons_succ]
                  refine wpAnyH_take (i := 2) (v := .pointer (some ⟨s, k, none⟩)) rfl (by kernel_rfl) (by kernel_rfl) (by kernel_rfl) (fun _ _ _ h => h) (Or.inl ⟨by kernel_rfl, fun w hSw => ?_⟩) hS0' ?_
                  · go_simp
                  try simp only [Act.put, List.getElem_toArray, List.getElem_cons_succ, List.getElem_cons_zero, List.setIfInBounds_toArray, List.set_cons_zero, List.set_cons_succ]
                  refine wpAnyH_take (i := 3) (v := .int .u32 (x.toNat : Int)) rfl (by kernel_rfl) (by kernel_rfl) (by kernel_rfl) (fun _ _ _ h => h) (Or.inl ⟨by kernel_rfl, fun w hSw => ?_⟩) hS0' ?_
                  · have hc : w.cell? ⟨s, k, none⟩ = some (.int .u32 (x.toNat : Int)) := by rw [HX.out]; exact blk_ws hSw (by have := HHl.out; omega)
                    clear hSw
                    go_simp
                  try simp only [Act.put, List.getElem_toArray, List.getElem_cons_succ, List.getElem_cons_zero, List.setIfInBounds_toArray, List.set_cons_zero, List.set_cons_succ]
                  refine wpAnyH_take (i := 4) (v := .int .u32 (y0 : Int)) rfl (by kernel_rfl) (by kernel_rfl) (by kernel_rfl) (fun _ _ _ h => h) (Or.inl ⟨by kernel_rfl, fun w hSw => ?_⟩) hS0' ?_
                  · go_simp
                  try simp only [Act.put, List.getElem_toArray, List.getElem_cons_succ, List.getElem_cons_zero, List.setIfInBounds_toArray, List.set_cons_zero, List.set_cons_succ]
                  refine wpAnyH_take (i := 5) (v := .int .u8 (y0 : Int)) rfl (by kernel_rfl) (by kernel_rfl) (by kernel_rfl) (fun _ _ _ h => h) (Or.inl ⟨by kernel_rfl, fun w hSw => ?_⟩) hS0' ?_
                  · go_simp
                  try simp only [Act.put, List.getElem_toArray, List.getElem_cons_succ, List.getElem_cons_zero, List.setIfInBounds_toArray, List.set_cons_zero, List.set_cons_succ]
                  refine wpAnyH_take (i := 6) (v := .int .i64 (k : Int)) rfl (by kernel_rfl) (by kernel_rfl) (by kernel_rfl) (fun _ _ _ h => h) (Or.inl ⟨by kernel_rfl, fun w hSw => ?_⟩) hS0' ?_
                  · go_simp
                  try simp only [Act.put, List.getElem_toArray, List.getElem_cons_succ, List.getElem_cons_zero, List.setIfInBounds_toArray, List.set_cons_zero, List.set_cons_succ]
                  refine wpAnyH_take (i := 7) (v := .pointer (some ⟨s, k, none⟩)) rfl (by kernel_rfl) (by kernel_rfl) (by kernel_rfl) (fun _ _ _ h => h) (Or.inl ⟨by kernel_rfl, fun w hSw => ?_⟩) hS0' ?_
                  · go_simp
                  try simp only [Act.put, List.getElem_toArray, List.getElem_cons_succ, List.getElem_cons_zero, List.setIfInBounds_toArray, List.set_cons_zero, List.set_cons_succ]
                  refine wpAnyH_take (i := 8) (v := .int .u32 (x.toNat : Int)) rfl (by kernel_rfl) (by kernel_rfl) (by kernel_rfl) (fun _ _ _ h => h) (Or.inl ⟨by kernel_rfl, fun w hSw => ?_⟩) hS0' ?_
                  · have hc : w.cell? ⟨s, k, none⟩ = some (.int .u32 (x.toNat : Int)) := by rw [HX.out]; exact blk_ws hSw (by have := HHl.out; omega)
                    clear hSw
                    go_simp
                  try simp only [Act.put, List.getElem_toArray, List.getElem_cons_succ, List.getElem_cons_zero, List.setIfInBounds_toArray, List.set_cons_zero, List.set_cons_succ]
                  refine wpAnyH_take (i := 9) (v := .int .u32 (d1 : Int)) rfl (by kernel_rfl) (by kernel_rfl) (by kernel_rfl) (fun _ _ _ h => h) (Or.inl ⟨by kernel_rfl, fun w hSw => ?_⟩) hS0' ?_
                  · go_simp
                  try simp only [Act.put, List.getElem_toArray, List.getElem_cons_succ, List.getElem_cons_zero, List.setIfInBounds_toArray, List.set_cons_zero, List.set_cons_succ]
                  refine wpAnyH_take (i := 10) (v := .int .u32 (y1 : Int)) rfl (by kernel_rfl) (by kernel_rfl) (by kernel_rfl) (fun _ _ _ h => h) (Or.inl ⟨by kernel_rfl, fun w hSw => ?_⟩) hS0' ?_
                  · go_simp
                  try simp only [Act.put, List.getElem_toArray, List.getElem_cons_succ, List.getElem_cons_zero, List.setIfInBounds_toArray, List.set_cons_zero, List.set_cons_succ]
                  refine wpAnyH_take (i := 11) (v := .int .u8 (y1 : Int)) rfl (by kernel_rfl) (by kernel_rfl) (by kernel_rfl) (fun _ _ _ h => h) (Or.inl ⟨by kernel_rfl, fun w hSw => ?_⟩) hS0' ?_
                  · go_simp
                  try simp only [Act.put, List.getElem_toArray, List.getElem_cons_succ, List.getElem_cons_zero, List.setIfInBounds_toArray, List.set_cons_zero, List.set_cons_succ]
                  refine wpAnyH_take (i := 12) (v := .int .i64 (k : Int)) rfl (by kernel_rfl) (by kernel_rfl) (by kernel_rfl) (fun _ _ _ h => h) (Or.inl ⟨by kernel_rfl, fun w hSw => ?_⟩) hS0' ?_
                  · go_simp
                  try simp only [Act.put, List.getElem_toArray, List.getElem_cons_succ, List.getElem_cons_zero, List.setIfInBounds_toArray, List.set_cons_zero, List.set_cons_succ]
                  refine wpAnyH_take (i := 13) (v := .pointer (some ⟨s, k, none⟩)) rfl (by kernel_rfl) (by kernel_rfl) (by kernel_rfl) (fun _ _ _ h => h) (Or.inl ⟨by kernel_rfl, fun w hSw => ?_⟩) hS0' ?_
                  · go_simp
                  try simp only [Act.put, List.getElem_toArray, List.getElem_cons_succ, List.getElem_cons_zero, List.setIfInBounds_toArray, List.set_cons_zero, List.set_cons_succ]
                  refine wpAnyH_take (i := 14) (v := .int .u32 (x.toNat : Int)) rfl (by kernel_rfl) (by kernel_rfl) (by kernel_rfl) (fun _ _ _ h => h) (Or.inl ⟨by kernel_rfl, fun w hSw => ?_⟩) hS0' ?_
                  · have hc : w.cell? ⟨s, k, none⟩ = some (.int .u32 (x.toNat : Int)) := by rw [HX.out]; exact blk_ws hSw (by have := HHl.out; omega)
                    clear hSw
                    go_simp
                  try simp only [Act.put, List.getElem_toArray, List.getElem_cons_succ, List.getElem_cons_zero, List.setIfInBounds_toArray, List.set_cons_zero, List.set_cons_succ]
                  refine wpAnyH_take (i := 15) (v := .int .u32 (d2 : Int)) rfl (by kernel_rfl) (by kernel_rfl) (by kernel_rfl) (fun _ _ _ h => h) (Or.inl ⟨by kernel_rfl, fun w hSw => ?_⟩) hS0' ?_
                  · go_simp
                  try simp only [Act.put, List.getElem_toArray, List.getElem_cons_succ, List.getElem_cons_zero, List.setIfInBounds_toArray, List.set_cons_zero, List.set_cons_succ]
                  refine wpAnyH_take (i := 16) (v := .int .u32 (y2 : Int)) rfl (by kernel_rfl) (by kernel_rfl) (by kernel_rfl) (fun _ _ _ h => h) (Or.inl ⟨by kernel_rfl, fun w hSw => ?_⟩) hS0' ?_
                  · go_simp
                  try simp only [Act.put, List.getElem_toArray, List.getElem_cons_succ, List.getElem_cons_zero, List.setIfInBounds_toArray, List.set_cons_zero, List.set_cons_succ]
                  refine wpAnyH_take (i := 17) (v := .int .u8 (y2 : Int)) rfl (by kernel_rfl) (by kernel_rfl) (by kernel_rfl) (fun _ _ _ h => h) (Or.inl ⟨by kernel_rfl, fun w hSw => ?_⟩) hS0' ?_
                  · go_simp
                  try simp only [Act.put, List.getElem_toArray, List.getElem_cons_succ, List.getElem_cons_zero, List.setIfInBounds_toArray, List.set_cons_zero, List.set_cons_succ]
                  refine wpAnyH_take (i := 18) (v := .int .i64 (k : Int)) rfl (by kernel_rfl) (by kernel_rfl) (by kernel_rfl) (fun _ _ _ h => h) (Or.inl ⟨by kernel_rfl, fun w hSw => ?_⟩) hS0' ?_
                  · go_simp
                  try simp only [Act.put, List.getElem_toArray, List.getElem_cons_succ, List.getElem_cons_zero, List.setIfInBounds_toArray, List.set_cons_zero, List.set_cons_succ]
                  refine wpAnyH_take (i := 19) (v := .pointer (some ⟨s, k, none⟩)) rfl (by kernel_rfl) (by kernel_rfl) (by kernel_rfl) (fun _ _ _ h => h) (Or.inl ⟨by kernel_rfl, fun w hSw => ?_⟩) hS0' ?_
                  · go_simp
                  try simp only [Act.put, List.getElem_toArray, List.getElem_cons_succ, List.getElem_cons_zero, List.setIfInBounds_toArray, List.set_cons_zero, List.set_cons_succ]
                  refine wpAnyH_take (i := 20) (v := .int .u32 (x.toNat : Int)) rfl (by kernel_rfl) (by kernel_rfl) (by kernel_rfl) (fun _ _ _ h => h) (Or.inl ⟨by kernel_rfl, fun w hSw => ?_⟩) hS0' ?_
                  · have hc : w.cell? ⟨s, k, none⟩ = some (.int .u32 (x.toNat : Int)) := by rw [HX.out]; exact blk_ws hSw (by have := HHl.out; omega)
                    clear hSw
                    go_simp
                  try simp only [Act.put, List.getElem_toArray, List.getElem_cons_succ, List.getElem_cons_zero, List.setIfInBounds_toArray, List.set_cons_zero, List.set_cons_succ]
                  refine wpAnyH_take (i := 21) (v := .int .u32 (y3 : Int)) rfl (by kernel_rfl) (by kernel_rfl) (by kernel_rfl) (fun _ _ _ h => h) (Or.inl ⟨by kernel_rfl, fun w hSw => ?_⟩) hS0' ?_
                  · go_simp
                  try simp only [Act.put, List.getElem_toArray, List.getElem_cons_succ, List.getElem_cons_zero, List.setIfInBounds_toArray, List.set_cons_zero, List.set_cons_succ]
                  refine wpAnyH_take (i := 22) (v := .int .u8 (y3 : Int)) rfl (by kernel_rfl) (by kernel_rfl) (by kernel_rfl) (fun _ _ _ h => h) (Or.inl ⟨by kernel_rfl, fun w hSw => ?_⟩) hS0' ?_
                  · go_simp
                  try simp only [Act.put, List.getElem_toArray, List.getElem_cons_succ, List.getElem_cons_zero, List.setIfInBounds_toArray, List.set_cons_zero, List.set_cons_succ]
                  refine wpAnyH_ready (rs := [23]) (by kernel_rfl) (by simp) ?_
                  refine AllReadyH.cons (by rfl) ?_ AllReadyH.nil
                  intro K hK
                  go_simp
                  have hlit := Bys.lit (W := wA) (cs := #[.int .u8 (y0 : Int), .int .u8 (y1 : Int), .int .u8 (y2 : Int), .int .u8 (y3 : Int)]) (l := lowBq x) (n := 4) 5 HLOW.out rfl
                  have ho1 := HO.out.below ((Below.refl wA.heap.size wA).alloc (Nat.le_refl _) (.cells #[.int .u8 (y0 : Int), .int .u8 (y1 : Int), .int .u8 (y2 : Int), .int .u8 (y3 : Int)] 5))
                  have hs1 := HS.out.alloc (.cells #[.int .u8 (y0 : Int), .int .u8 (y1 : Int), .int .u8 (y2 : Int), .int .u8 (y3 : Int)] 5)
                  have hb1 := HB.out.alloc HB.out.size (.cells #[.int .u8 (y0 : Int), .int .u8 (y1 : Int), .int .u8 (y2 : Int), .int .u8 (y3 : Int)] 5)
                  have hsA := HS.out.lt
                  generalize wA.heap.size = gn at hlit hsA ⊢
                  generalize (World.alloc _ _) = wB at hlit ho1 hs1 hb1 ⊢
                  have HLit := Lib.hid hlit
                  have HO := Lib.hid ho1
                  have HS := Lib.hid hs1
                  have HB := Lib.hid hb1
                  clear hlit ho1 hs1 hb1
                  refine hK.out _ _ HS.out (fun hS1 => ?_)
                  clear hK K
                  refine wpAnyH_ready (rs := [24]) (by kernel_rfl) (by simp) ?_
                  refine all_readyH_yes (by rfl) (by kernel_rfl) ?_ AllReadyH.nil
                  intro K hK
                  refine wp_append_bys (.tmp 79) (.tmp 102) rfl (s + 1) u13 _ rfl HO.out (some ⟨gn, 0, none⟩) 4 4 (lowBq x) rfl HLit.out ?_ HS.out.lt ?_
                  · rw [outB_len]; simp; omega
                  intro v7 w7' hown7 hg7 _
                  have hg7b := own_grown HO.out hg7 (Nat.le_refl _) HS.out.lt
                  have HS := Lib.hid (HS.out.below hg7b (by omega))
                  have HB := Lib.hid (HB.out.trans (Below.mono hg7b (by omega)))
                  have HO7 := Lib.hid hown7
                  clear hown7 hg7 hg7b
                  try simp only [Act.put, List.getElem_toArray, List.getElem_cons_succ, List.getElem_cons_zero, List.setIfInBounds_toArray, List.set_cons_zero, List.set_cons_succ]
                  refine hK.out _ _ HS.out (fun hS2 => ?_)
                  clear hK K
                  refine wpAnyH_take (i := 25) (v := v7) rfl (by kernel_rfl) (by kernel_rfl) (by kernel_rfl) (fun _ _ _ h => h) (Or.inl ⟨by kernel_rfl, fun w hSw => ?_⟩) hS2 ?_
                  · go_simp
                  try simp only [Act.put, List.getElem_toArray, List.getElem_cons_succ, List.getElem_cons_zero, List.setIfInBounds_toArray, List.set_cons_zero, List.set_cons_succ]
                  refine wpAnyH_done (by kernel_rfl) ?_ _
                  clear a1 a2 a3 a4 a5 a6 t1 t2 t3 t4 t5 t6 q0 q1 q2 q3 q4 q5 q6
                  go_wp2_with fail
                  go_roundw
                  case rel => exact ⟨k + 1, by omega, by go_num, by rw [outB_take H k (by rw [HHl.out]; exact hlt), ← HX.out]; exact HO7.out, HS.out, HB.out⟩
                  case measure => simp [intOf]; omega
                · obtain rfl : k = 8 := by omega
                  have ho := HO.out
                  rw [List.take_of_length_le (by rw [HHl.out]; exact Nat.le_refl _)] at ho
                  obtain ⟨oa, oc, rfl, hoc, hob⟩ := ho.bys
                  have e32 : (outB H).length = 32 := by rw [outB_len, HHl.out]
                  rw [e32] at hoc ⊢
                  have k1 : ¬ (oc : Int) < (wide : Int) := by omega
                  have k2 : (wide : Int) ≤ oc := by omega
                  have k3 : (wide : Int) ≤ 32 := by omega
                  rw [e32] at ho
                  have HOW := Lib.hid ho
                  have HE32 := Lib.hid e32
                  clear ho hob HO e32
                  go_wp2_with fail
                  go_ret
                  refine ⟨_, rfl, ?_, HB.out⟩
                  have e : (outB H).take wide = keyed wide key bb := by rw [HHd.out, keyed, HKL.out, sumOf, HD.out]
                  rw [← e]
                  exact own_low (HOW.out.take HE32.out wide h2) (by omega)
            · have b1 : ((aj : Int) == (m : Int)) = false := by simp; omega
              have HLA := Lib.hid hlast
              clear hlast
              go_wp2_with (first | (refine wpl_load_blk rfl 161 _ rfl s rfl 161 _ _ HS8.out Tryz.underlying161 rfl (by rw [ws_size, HFL.out]; kernel_rfl) ?_) | (refine wpl_load_blk rfl 151 _ rfl gb rfl 151 _ _ HP.out Tryz.underlying151 rfl (by rw [bya_size, HPL.out]; kernel_rfl) ?_))
              refine (rpress_c _ (pad B) aj false _ (HFL.out _) HPL.out (by omega)).mono ?_
              rintro e w8 ⟨rfl, hb8⟩
              have HS9 := Lib.hid (HS8.out.below hb8 HS8.out.lt)
              have HB9 := Lib.hid (HB8.out.trans (hb8.mono HB8.out.size))
              have HDB9 := Lib.hid (HDB8.out.below hb8)
              have hj64 : j = 64 := by
                have h1 := HLA.out; have h2 := HAJ.out; have h4 := Hq.out
                omega
              have hkf : k + 1 ≤ full D := by
                have h1 := HLA.out; have h2 := HAJ.out; have h3 := Hat.out; have h5 := HM.out
                unfold full at hkb ⊢
                omega
              have haj2 : aj = 64 * (k + 1) := by have h2 := HAJ.out; have h3 := Hat.out; omega
              have Haj2 := Lib.hid haj2
              have hpr : press (pressN (start wide n) 0 D k) (pad B) aj false = pressN (start wide n) 0 D (k + 1) := by
                rw [pressN, HBk.out, haj2, Nat.zero_add]
              rw [hpr]
              have Hj64 := Lib.hid hj64
              have hda9 := HDA
              clear hb8 haj2 hpr hj64
              have hap : ∀ x off, da = some ⟨x, off, none⟩ → 0 < m → x ≠ s := fun x off e _ => HDS.out x off e
              go_wp2_with (refine wpl_store_blk rfl 161 _ _ rfl s 161 _ (ws (pressN (start wide n) 0 D (k + 1))) rfl rfl HS9.out (by rw [ws_size, ws_size, HFL.out, HFL.out]) (by rw [ws_size, HFL.out]; kernel_rfl) (ws_one _) ?_; intro w9 hB9 hO9 hz9; have HS10 := Lib.hid hB9; have HB10 := Lib.hid (HB9.out.trans (hO9.below HB9.out.size hsl)); have HDB10 := Lib.hid (HDB9.out.only hO9 hap); clear hB9 hO9 hz9)
              go_roundw
              case rel => exact ⟨k + 1, hkf, by rw [Haj2.out], HS10.out, HDB10.out, HB10.out⟩
              case measure => have h2 := HAJ.out; have h3 := Hj64.out; simp [intOf]; omega
end Go.Proofs.YtomnjhhpeglcnaaGreat
