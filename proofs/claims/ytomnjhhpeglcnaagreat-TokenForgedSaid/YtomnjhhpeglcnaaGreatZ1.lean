/- Contracts: the chapter's rows. -/
import Derived.Test.YtomnjhhpeglcnaaGreatZz
namespace Go.Proofs.YtomnjhhpeglcnaaGreat
open Go.RowKit
set_option linter.unusedSimpArgs false
set_option linter.unusedVariables false
set_option maxRecDepth 100000

theorem uns_a : unspellB (strB ⟨#[97]⟩) = none := by decide +kernel
theorem uns_ab : unspellB (strB ⟨#[97, 98]⟩) = none := by decide +kernel
theorem uns_A7 : unspellB (strB ⟨#[65, 55]⟩) = none := by decide +kernel
theorem spell_0 : strOf (spellB []) = ⟨#[]⟩ := by decide +kernel
theorem spell_1 : strOf (spellB [0#8]) = ⟨#[97, 97]⟩ := by decide +kernel
theorem spell_5 : strOf (spellB [255#8, 255#8, 255#8, 255#8, 255#8]) = ⟨#[55, 55, 55, 55, 55, 55, 55, 55]⟩ := by decide +kernel
/-- A text that is none. -/
theorem unspell_no (s : ByteArray) (w : World) (hs : s.size ≤ 1000000) (h : unspellB (strB s) = none) :
    Calls Tryz.prog 24 #[.string s] w fun e w' => e = .returned (.tuple #[.slice none 0 0, .int .i64 160]) ∧ Below w.heap.size w w' := by
  refine (unspell_c s w hs).mono ?_
  rintro e w' ⟨hb, (⟨v, l, h1, _⟩ | ⟨_, rfl⟩)⟩
  · rw [h] at h1; cases h1
  · exact ⟨rfl, hb⟩
def oneS : ByteArray := ⟨#[111, 110, 101]⟩
def twoS : ByteArray := ⟨#[116, 119, 111]⟩
def threeS : ByteArray := ⟨#[116, 104, 114, 101, 101]⟩
def fourS : ByteArray := ⟨#[102, 111, 117, 114]⟩
theorem tturn_ok (p : Nat) (k : KS) (s : ByteArray) (w : World) (h : IsKeys w p k) (hf : k.first ≤ 1000000000) (hs : mayM s = true) :
    Calls Tryz.prog 17 #[.pointer (some ⟨p, 0, none⟩), .string s] w fun e w' => e = .returned (.int .i64 0) ∧ IsKeys w' p (k.turn s) ∧ Only p w w' := by
  have := turn_c p k s w h hf
  rw [hs] at this
  exact this
def k1 : KS := ⟨0, [oneS]⟩
def k3 : KS := ⟨0, [oneS, twoS, threeS]⟩
def k4 : KS := ⟨1, [twoS, threeS, fourS]⟩
def tokW : Tok := ⟨3, 1, 5⟩
theorem made_size (k : KS) (t : Tok) (ht : t.ok = true) (hn : k.newest ≤ 2000000000) : (strOf (spellB (k.bytes t))).size ≤ 105 := by
  have h1 : (strOf (spellB (k.bytes t))).size = (spellB (k.bytes t)).length := by
    rw [← strB_len, strB_strOf]
  have h2 := spellB_len (k.bytes t)
  have h3 := KS.head_len ht k.newest hn
  have h4 : (k.bytes t).length = (KS.head k.newest t).length + 16 := taggedB_len _ _
  omega
theorem openW3 : k3.open_ (strB (strOf (spellB (k1.bytes tokW)))) = (tokW, 0) := by
  rw [open_made k3 k1 tokW (by decide) (by decide), if_neg (by decide), if_pos (show taggedB (k3.at_ (k1.newest - k3.first)) (KS.head k1.newest tokW) = k1.bytes tokW from rfl)]
theorem openW4 : k4.open_ (strB (strOf (spellB (k1.bytes tokW)))) = (Tok.zero, 162) := by
  rw [open_made k4 k1 tokW (by decide) (by decide), if_pos (by decide)]
theorem openW3_c (p : Nat) (X : ByteArray) (w : World) (h : IsKeys w p k3) (hX : X = strOf (spellB (k1.bytes tokW))) :
    Calls Tryz.prog 10 #[.pointer (some ⟨p, 0, none⟩), .string X] w fun e w' => e = .returned (.tuple #[.agg #[.int .i64 3, .int .i64 1, .int .i64 5], .int .i64 0]) ∧ Below w.heap.size w w' := by
  have hs : X.size ≤ 105 := by rw [hX]; exact made_size _ _ (by decide) (by decide)
  have := open_c p k3 X w h (by decide) (by omega)
  rw [show k3.open_ (strB X) = (tokW, 0) by rw [hX]; exact openW3] at this
  exact this
theorem openW4_c (p : Nat) (X : ByteArray) (w : World) (h : IsKeys w p k4) (hX : X = strOf (spellB (k1.bytes tokW))) :
    Calls Tryz.prog 10 #[.pointer (some ⟨p, 0, none⟩), .string X] w fun e w' => e = .returned (.tuple #[.agg #[.int .i64 0, .int .i64 0, .int .i64 0], .int .i64 162]) ∧ Below w.heap.size w w' := by
  have hs : X.size ≤ 105 := by rw [hX]; exact made_size _ _ (by decide) (by decide)
  have := open_c p k4 X w h (by decide) (by omega)
  rw [show k4.open_ (strB X) = (Tok.zero, 162) by rw [hX]; exact openW4] at this
  exact this
set_option maxHeartbeats 8000000 in
theorem tworks_c (w : World) : Calls Tryz.prog 8 #[] w fun e w' => e = .returned (.bool true) ∧ Below w.heap.size w w' := by
  go_enter Tryz.func8, Tryz.ntmps8
  go_wp2_with fail
  refine (unspell_no _ _ (by decide) uns_a).mono ?_
  rintro e w1 ⟨rfl, hb1⟩
  have HB1 := Lib.hid hb1; clear hb1
  go_wp2_with fail
  refine (unspell_no _ _ (by decide) uns_ab).mono ?_
  rintro e w2 ⟨rfl, hb2⟩
  have HB2 := Lib.hid (HB1.out.trans (hb2.mono HB1.out.size)); clear hb2 HB1
  go_wp2_with fail
  refine (unspell_no _ _ (by decide) uns_A7).mono ?_
  rintro e w3 ⟨rfl, hb3⟩
  have HB3 := Lib.hid (HB2.out.trans (hb3.mono HB2.out.size)); clear hb3 HB2
  go_wp2_with fail
  refine (tnew_c oneS _ (by decide)).mono ?_
  rintro e w4 ⟨rfl, hk4, hb4⟩
  obtain ⟨p, hp⟩ : ∃ p, p = w3.heap.size := ⟨_, rfl⟩
  rw [← hp] at hk4 ⊢
  have hpw : w.heap.size ≤ p := by rw [hp]; exact HB3.out.size
  have HB4 := Lib.hid (HB3.out.trans (hb4.mono HB3.out.size))
  have hp4 : p < w4.heap.size := hk4.blk.lt
  have HK4 := Lib.hid hk4
  clear hb4 HB3 hk4 hp
  have hal := (Below.refl w4.heap.size w4).alloc (Nat.le_refl _) (.cells (tcells 3 1 5) 31)
  have HT5 := Lib.hid (Blk.new w4 31 (tcells 3 1 5))
  have HK5 := Lib.hid (HK4.out.below hal)
  have HB5 := Lib.hid (HB4.out.trans (hal.mono HB4.out.size))
  clear hal
  go_wp2_with fail
  change Calls Tryz.prog 16 #[.pointer (some ⟨p, 0, none⟩), tokW.val] (w4.alloc (.cells (tcells 3 1 5) 31)) _
  obtain ⟨G, hG⟩ : ∃ G, G = w4.heap.size := ⟨_, rfl⟩
  have hGp : p < G := by rw [hG]; exact hp4
  rw [← hG] at HT5 ⊢
  generalize w4.alloc (.cells (tcells 3 1 5) 31) = w5 at HT5 HK5 HB5 ⊢
  clear hG HK4 HB4 hp4
  refine (make_c p k1 tokW w5 HK5.out (by decide) (by decide)).mono ?_
  rintro e w6 ⟨rfl, hb6⟩
  obtain ⟨X, hX⟩ : ∃ X, X = strOf (spellB (k1.bytes tokW)) := ⟨_, rfl⟩
  have hXs : X.size ≤ 105 := by rw [hX]; exact made_size _ _ (by decide) (by decide)
  have HX := Lib.hid hX
  rw [← hX]
  have HT6 := Lib.hid (HT5.out.below hb6 HT5.out.lt)
  have HK6 := Lib.hid (HK5.out.below hb6)
  have HB6 := Lib.hid (HB5.out.trans (hb6.mono HB5.out.size))
  clear hb6 hX HT5 HK5 HB5
  go_wp2_with fail
  refine (tturn_ok p k1 twoS w6 HK6.out (by decide) (by decide)).mono ?_
  rintro e w7 ⟨rfl, hk7, ho7⟩
  have HK7 := Lib.hid hk7
  have HT7 := Lib.hid (ho7.blk HT6.out (by omega))
  have HB7 := Lib.hid (HB6.out.trans (ho7.below HB6.out.size hpw))
  clear hk7 ho7 HK6 HT6 HB6
  go_wp2_with fail
  refine (tturn_ok p _ threeS w7 HK7.out (by decide) (by decide)).mono ?_
  rintro e w8 ⟨rfl, hk8, ho8⟩
  have HK8 : Hid (IsKeys w8 p k3) := Lib.hid hk8
  have HT8 := Lib.hid (ho8.blk HT7.out (by omega))
  have HB8 := Lib.hid (HB7.out.trans (ho8.below HB7.out.size hpw))
  clear hk8 ho8 HK7 HT7 HB7
  go_wp2_with fail
  refine (openW3_c p X w8 HK8.out HX.out).mono ?_
  rintro e w9 ⟨rfl, hb9⟩
  have hp9 : p < w9.heap.size := (HK8.out.below hb9).blk.lt
  have hal := (Below.refl w9.heap.size w9).alloc (Nat.le_refl _) (.cells (tcells 3 1 5) 31)
  have HT9 := Lib.hid ((HT8.out.below hb9 HT8.out.lt).below hal (Blk.lt (HT8.out.below hb9 HT8.out.lt)))
  have HK9 := Lib.hid ((HK8.out.below hb9).below hal)
  have HB9 := Lib.hid ((HB8.out.trans (hb9.mono HB8.out.size)).trans (hal.mono (by have := HB8.out.size; have := hb9.size; omega)))
  have HU9 := Lib.hid (Blk.new w9 31 (tcells 3 1 5))
  clear hb9 HT8 HK8 HB8 hal
  go_wp2_with fail
  change Calls Tryz.prog 17 _ (w9.alloc (.cells (tcells 3 1 5) 31)) _
  obtain ⟨U, hU⟩ : ∃ U, U = w9.heap.size := ⟨_, rfl⟩
  rw [← hU] at HU9 hp9 ⊢
  clear hU
  generalize w9.alloc (.cells (tcells 3 1 5) 31) = wa at HT9 HK9 HB9 HU9 ⊢
  refine (tturn_ok p k3 fourS wa HK9.out (by decide) (by decide)).mono ?_
  rintro e wb ⟨rfl, hkb, hob⟩
  have HKb : Hid (IsKeys wb p k4) := Lib.hid hkb
  have HTb := Lib.hid (hob.blk HT9.out (by omega))
  have HUb := Lib.hid (hob.blk HU9.out (by omega))
  have HBb := Lib.hid (HB9.out.trans (hob.below HB9.out.size hpw))
  clear hkb hob HK9 HT9 HU9 HB9
  go_wp2_with fail
  refine (openW4_c p X wb HKb.out HX.out).mono ?_
  rintro e wc ⟨rfl, hbc⟩
  have hUc := HUb.out.below hbc HUb.out.lt
  have hTc := HTb.out.below hbc HTb.out.lt
  have hal := (Below.refl wc.heap.size wc).alloc (Nat.le_refl _) (.cells (tcells 0 0 0) 31)
  have HTc := Lib.hid (hTc.below hal hTc.lt)
  have HUc := Lib.hid (hUc.below hal hUc.lt)
  have HKc := Lib.hid ((HKb.out.below hbc).below hal)
  have HBc := Lib.hid ((HBb.out.trans (hbc.mono HBb.out.size)).trans (hal.mono (by have := HBb.out.size; have := hbc.size; omega)))
  have HNc := Lib.hid (Bys.nil (w := (wc.alloc (.cells (tcells 0 0 0) 31))))
  clear hbc HTb HUb HKb HBb hal hUc hTc
  go_wp2_with fail
  change Calls Tryz.prog 26 _ (wc.alloc (.cells (tcells 0 0 0) 31)) _
  generalize wc.alloc (.cells (tcells 0 0 0) 31) = wd at HTc HKc HBc HUc HNc ⊢
  refine (spell_c none 0 0 [] wd HNc.out (by decide)).mono ?_
  rintro e we ⟨rfl, hbe⟩
  rw [spell_0]
  have HTe := Lib.hid (HTc.out.below hbe HTc.out.lt)
  have HUe := Lib.hid (HUc.out.below hbe HUc.out.lt)
  have HKe := Lib.hid (HKc.out.below hbe)
  have HBe := Lib.hid (HBc.out.trans (hbe.mono HBc.out.size))
  have HYe : Hid (Bys (we.alloc (.cells #[.int .u8 0] 5)) (some ⟨we.heap.size, 0, none⟩) 1 [0#8]) := Lib.hid (Bys.lit 5 rfl rfl)
  have hal := (Below.refl we.heap.size we).alloc (Nat.le_refl _) (.cells #[.int .u8 0] 5)
  have HTf := Lib.hid (HTe.out.below hal HTe.out.lt)
  have HUf := Lib.hid (HUe.out.below hal HUe.out.lt)
  have HKf := Lib.hid (HKe.out.below hal)
  have HBf := Lib.hid (HBe.out.trans (hal.mono HBe.out.size))
  clear hbe HTc HUc HKc HBc HTe HUe HKe HBe HNc hal
  go_wp2_with fail
  generalize we.alloc (.cells #[.int .u8 0] 5) = wf at HTf HKf HBf HUf HYe ⊢
  refine (spell_c _ 1 1 [0#8] wf HYe.out (by decide)).mono ?_
  rintro e wg ⟨rfl, hbg⟩
  rw [spell_1]
  have hTg := HTf.out.below hbg HTf.out.lt
  have hUg := HUf.out.below hbg HUf.out.lt
  have HYg : Hid (Bys (wg.alloc (.cells #[.int .u8 255, .int .u8 255, .int .u8 255, .int .u8 255, .int .u8 255] 5)) (some ⟨wg.heap.size, 0, none⟩) 5 [255#8, 255#8, 255#8, 255#8, 255#8]) := Lib.hid (Bys.lit 5 rfl rfl)
  have hal := (Below.refl wg.heap.size wg).alloc (Nat.le_refl _) (.cells #[.int .u8 255, .int .u8 255, .int .u8 255, .int .u8 255, .int .u8 255] 5)
  have HTg := Lib.hid (hTg.below hal hTg.lt)
  have HUg := Lib.hid (hUg.below hal hUg.lt)
  have HKg := Lib.hid ((HKf.out.below hbg).below hal)
  have HBg := Lib.hid ((HBf.out.trans (hbg.mono HBf.out.size)).trans (hal.mono (by have := HBf.out.size; have := hbg.size; omega)))
  clear hbg HTf HUf HKf HBf HYe hal hTg hUg
  go_wp2_with fail
  generalize wg.alloc (.cells #[.int .u8 255, .int .u8 255, .int .u8 255, .int .u8 255, .int .u8 255] 5) = wh at HTg HKg HBg HUg HYg ⊢
  refine (spell_c _ 5 5 _ wh HYg.out (by decide)).mono ?_
  rintro e wi ⟨rfl, hbi⟩
  rw [spell_5]
  have HTi := Lib.hid (HTg.out.below hbi HTg.out.lt)
  have HUi := Lib.hid (HUg.out.below hbi HUg.out.lt)
  have HKi := Lib.hid (HKg.out.below hbi)
  have HBi := Lib.hid (HBg.out.trans (hbi.mono HBg.out.size))
  clear hbi HTg HUg HKg HBg HYg
  go_wp2_with fail
  refine (num_c _ _).mono ?_
  rintro e w' ⟨rfl, rfl⟩
  go_wp2_with fail
  refine (num_c _ _).mono ?_
  rintro e w' ⟨rfl, rfl⟩
  go_wp2_with fail
  refine (num_c _ _).mono ?_
  rintro e w' ⟨rfl, rfl⟩
  go_wp2_with fail
  refine (num_c _ _).mono ?_
  rintro e w' ⟨rfl, rfl⟩
  go_wp2_with fail
  refine (num_c _ _).mono ?_
  rintro e w' ⟨rfl, rfl⟩
  go_wp2_with fail
  refine (num_c _ _).mono ?_
  rintro e w' ⟨rfl, rfl⟩
  go_wp2_with fail
  refine (num_c _ _).mono ?_
  rintro e w' ⟨rfl, rfl⟩
  go_wp2_with fail
  refine (num_c _ _).mono ?_
  rintro e w' ⟨rfl, rfl⟩
  go_wp2_with fail
  refine (num_c _ _).mono ?_
  rintro e w' ⟨rfl, rfl⟩
  have u0 : wi.cell? ⟨U, 0, none⟩ = some (.int .i64 3) := HUi.out.cell (i := 0) rfl
  have u1 : wi.cell? ⟨U, 1, none⟩ = some (.int .i64 1) := HUi.out.cell (i := 1) rfl
  have u2 : wi.cell? ⟨U, 2, none⟩ = some (.int .i64 5) := HUi.out.cell (i := 2) rfl
  have g0 : wi.cell? ⟨G, 0, none⟩ = some (.int .i64 3) := HTi.out.cell (i := 0) rfl
  have g1 : wi.cell? ⟨G, 1, none⟩ = some (.int .i64 1) := HTi.out.cell (i := 1) rfl
  have g2 : wi.cell? ⟨G, 2, none⟩ = some (.int .i64 5) := HTi.out.cell (i := 2) rfl
  go_wp2_with fail
  refine (num_c _ _).mono ?_
  rintro e w' ⟨rfl, rfl⟩
  go_wp2_with fail
  refine (newestk_c p k4 wi HKi.out (by decide)).mono ?_
  rintro e wj ⟨rfl, hbj⟩
  have HBj := Lib.hid (HBi.out.trans (hbj.mono HBi.out.size))
  rw [show ((k4.newest : Nat) : Int) = 3 by decide]
  clear hbj u0 u1 u2 g0 g1 g2
  go_wp2_with fail
  go_ret
  exact ⟨rfl, HBj.out⟩
end Go.Proofs.YtomnjhhpeglcnaaGreat
