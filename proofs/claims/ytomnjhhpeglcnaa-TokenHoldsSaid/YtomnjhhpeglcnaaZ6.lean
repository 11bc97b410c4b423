/- What is made opens, as long as its key is kept. A token that comes in. -/
import Derived.Test.YtomnjhhpeglcnaaZ5
namespace Go.Proofs.Ytomnjhhpeglcnaa
open Go.RowKit
set_option linter.unusedSimpArgs false
set_option linter.unusedVariables false
set_option maxRecDepth 100000

theorem beq_str (a b : ByteArray) : (a.toList == b.toList) = decide (a = b) := by
  rw [Bool.eq_iff_iff, Lib.bytes_beq_iff, decide_eq_true_eq]
/-- What Open tells, cell by cell. -/
theorem open_v (p : Nat) (k : KS) (s : ByteArray) (w : World) (h : IsKeys w p k) (hf : k.first ≤ 1000000000) (hs : s.size ≤ 1000000) :
    Calls Try.prog 14 #[.pointer (some ⟨p, 0, none⟩), .string s] w fun r w' => (∃ (t : Tok) (e : Int), k.open_ (strB s) = (t, e) ∧ r = .returned (.tuple #[.agg #[.int .i64 t.m, .int .i64 t.s, .int .i64 t.i], .int .i64 e])) ∧ Below w.heap.size w w' := by
  refine (open_c p k s w h hf hs).mono ?_
  rintro r w' ⟨rfl, hb⟩
  exact ⟨⟨_, _, rfl, rfl⟩, hb⟩
theorem fewB_parts {f : ByteArray} {l : List ByteArray} (h : fewB f l = true) : f.size ≤ 100 ∧ l.length ≤ 12 ∧ ∀ s ∈ l, s.size ≤ 100 := by
  unfold fewB at h
  simp only [Bool.and_eq_true, decide_eq_true_eq, List.all_eq_true] at h
  exact ⟨h.2.1, h.2.2, h.1⟩
theorem Strs.only {w W : World} {a : Option Addr} {n p : Nat} {ss : List ByteArray} (h : Strs w a n ss) (ho : Only p w W) (hp : ∀ g off, a = some ⟨g, off, none⟩ → 0 < n → g ≠ p) : Strs W a n ss := by
  refine ⟨h.1, fun i s hs => ?_⟩
  obtain ⟨g, off, e, hg, hc⟩ := h.2 i s hs
  have hn : 0 < n := by have := (List.getElem?_eq_some_iff.1 hs).1; rw [← h.1]; omega
  exact ⟨g, off, e, Nat.lt_of_lt_of_le hg ho.size, (World.cell?_of_block (a := ⟨g, off + i, none⟩) (ho.block g hg (fun q => hp g off e hn (by injection q)))).trans hc⟩
set_option maxHeartbeats 16000000 in
theorem holds_walk (f : ByteArray) (a1 : Option Addr) (len1 cap1 : Nat) (z1 : List ByteArray) (t : Tok) (bh : Int) (a4 : Option Addr) (len4 cap4 : Nat) (z4 : List By) (s : ByteArray) (w : World) (v1 : Strs w a1 len1 z1 ∧ len1 ≤ maxLen) (v4 : Bys w a4 len4 z4 ∧ len4 ≤ cap4) :
    Calls Try.prog 5 #[.string f, .slice a1 len1 cap1, t.val, .int .i64 bh, .slice a4 len4 cap4, .string s] w fun e w' => e = .returned (.bool true) ∧ Below w.heap.size w w' := by
  have hal := (Below.refl w.heap.size w).alloc (Nat.le_refl _) (.cells #[.int .i64 t.m, .int .i64 t.s, .int .i64 t.i] 36)
  have HB := Lib.hid hal
  have HT := Lib.hid (Blk.new w 36 #[.int .i64 t.m, .int .i64 t.s, .int .i64 t.i])
  have HS := Lib.hid (v1.1.below (Nat.le_refl _) hal)
  have HY := Lib.hid (v4.1.below hal)
  have hm1 := v1.2
  have hl1 := v1.1.1
  clear hal v1 v4
  unfold Tok.val
  go_enter Try.func5, Try.ntmps5
  go_wp2_with fail
  generalize w.alloc (.cells #[.int .i64 t.m, .int .i64 t.s, .int .i64 t.i] 36) = w1 at HB HT HS HY ⊢
  refine (few_c f a1 len1 cap1 z1 w1 HS.out hm1).mono ?_
  rintro e w' ⟨rfl, rfl⟩
  by_cases hfw : fewB f z1 = true
  rotate_left
  · have hfw' : fewB f z1 = false := by simpa using hfw
    rw [hfw']
    clear hfw hfw'
    go_wp2_with fail
    refine (tworks_c w1).mono ?_
    rintro e w2 ⟨rfl, hb2⟩
    have HB2 := Lib.hid (HB.out.trans (hb2.mono HB.out.size))
    clear hb2
    go_wp2_with fail
    go_ret
    exact ⟨rfl, HB2.out⟩
  obtain ⟨hf1, hf2, hf3⟩ := fewB_parts hfw
  have HF3 := Lib.hid hf3
  rw [hfw]
  rw [hl1] at hf2
  clear hfw hm1 hf3
  by_cases hc0 : 200 < len4
  · have q0 : (200 : Int) < (len4 : Int) := by omega
    go_wp2_with fail
    refine (tworks_c w1).mono ?_
    rintro e w2 ⟨rfl, hb2⟩
    have HB2 := Lib.hid (HB.out.trans (hb2.mono HB.out.size))
    clear hb2
    go_wp2_with fail
    go_ret
    exact ⟨rfl, HB2.out⟩
  have q0 : ¬ (200 : Int) < (len4 : Int) := by omega
  by_cases hc1 : 200 < s.size
  · have q1 : (200 : Int) < (s.size : Int) := by omega
    go_wp2_with fail
    refine (tworks_c w1).mono ?_
    rintro e w2 ⟨rfl, hb2⟩
    have HB2 := Lib.hid (HB.out.trans (hb2.mono HB.out.size))
    clear hb2
    go_wp2_with fail
    go_ret
    exact ⟨rfl, HB2.out⟩
  have q1 : ¬ (200 : Int) < (s.size : Int) := by omega
  by_cases hc2 : bh < 0
  · go_wp2_with fail
    refine (tworks_c w1).mono ?_
    rintro e w2 ⟨rfl, hb2⟩
    have HB2 := Lib.hid (HB.out.trans (hb2.mono HB.out.size))
    clear hb2
    go_wp2_with fail
    go_ret
    exact ⟨rfl, HB2.out⟩
  by_cases hc3 : 5 < bh
  · go_wp2_with fail
    refine (tworks_c w1).mono ?_
    rintro e w2 ⟨rfl, hb2⟩
    have HB2 := Lib.hid (HB.out.trans (hb2.mono HB.out.size))
    clear hb2
    go_wp2_with fail
    go_ret
    exact ⟨rfl, HB2.out⟩
  obtain ⟨j5, rfl⟩ : ∃ j5 : Nat, bh = (j5 : Int) := ⟨bh.toNat, by omega⟩
  have hj5 : j5 ≤ 5 := by omega
  have hl4 := HY.out.1
  go_wp2_with fail
  refine (spell_c a4 len4 cap4 z4 w1 HY.out (by omega)).mono ?_
  rintro e w2 ⟨rfl, hb2⟩
  have HB2 := Lib.hid (HB.out.trans (hb2.mono HB.out.size))
  have HT2 := Lib.hid (HT.out.below hb2 HT.out.lt)
  have HS2 := Lib.hid (HS.out.below (Nat.le_refl _) hb2)
  have HY2 := Lib.hid (HY.out.below hb2)
  clear hb2 HB HT HS HY
  go_wp2_with fail
  refine (unspell_v (strOf (spellB z4)) w2 (by have := spellB_len z4; rw [strOf_size]; omega)).mono ?_
  rintro r w3 ⟨⟨au, nu, cu, eu, rfl, hu⟩, hb3⟩
  obtain ⟨y, hy1, hy2, hy3⟩ := hu
  rw [strB_strOf, unspell_spell] at hy3
  have hy4 : y = z4 ∧ eu = 0 := by
    rcases hy3 with ⟨h1, h2⟩ | ⟨h1, _⟩
    · injection h1 with h1; exact ⟨h1.symm, h2⟩
    · cases h1
  obtain ⟨rfl, rfl⟩ := hy4
  have hlo : ∀ g off, a1 = some ⟨g, off, none⟩ → 0 < len1 → g < w2.heap.size := fun g off e h0 => by
    obtain ⟨x, hx⟩ : ∃ x, z1[0]? = some x := ⟨z1[0]'(by omega), List.getElem?_eq_getElem _⟩
    obtain ⟨g', off', e', hg, _⟩ := HS2.out.2 0 x hx
    rw [e] at e'; injection e' with e'; injection e' with e1; omega
  have HB3 := Lib.hid (HB2.out.trans (hb3.mono HB2.out.size))
  have HT3 := Lib.hid (HT2.out.below hb3 HT2.out.lt)
  have HS3 := Lib.hid (HS2.out.below (Nat.le_refl _) hb3)
  have HY3 := Lib.hid (HY2.out.below hb3)
  have t3 := run_str w3 au nu cu y hy1
  have t4 := run_str w3 a4 len4 cap4 y HY3.out
  obtain ⟨Sy, hSy⟩ : ∃ Sy, Sy = strOf y := ⟨_, rfl⟩
  rw [← hSy] at t3 t4
  clear hb3 HB2 HT2 HS2 HY2 hy1 hy2 hy3 hlo hSy
  go_wp2_with fail
  refine (num_c _ _).mono ?_
  rintro e w' ⟨rfl, rfl⟩
  go_wp2_with fail
  refine (unspell_v s w3 (by omega)).mono ?_
  rintro r w4 ⟨⟨ad, nd, cd, ed, rfl, hu⟩, hb4⟩
  have HB4 := Lib.hid (HB3.out.trans (hb4.mono HB3.out.size))
  have HT4 := Lib.hid (HT3.out.below hb4 HT3.out.lt)
  have HS4 := Lib.hid (HS3.out.below (Nat.le_refl _) hb4)
  have HU4 := Lib.hid hu
  clear hb4 HB3 HT3 HS3 HY3 hu t3 t4
  go_upto_region 7 with fail
  go_cut [80] from 72 to 79 (fun c wx => c = .bool false ∧ Below w4.heap.size w4 wx)
  case first =>
    obtain ⟨y2, hy1, -, hy3⟩ := HU4.out
    rcases hy3 with ⟨hun, rfl⟩ | ⟨hun, rfl, rfl⟩
    · have hsy : strOf (spellB y2) = s := by rw [spell_unspell hun, strOf_strB]
      have hnd : nd ≤ 1000000 := by have := unspellB_len hun; rw [strB_len] at this; have := hy1.1; omega
      have HY1 := Lib.hid hy1
      have HSY := Lib.hid hsy
      clear hun hy1 hsy
      go_wp2_with fail
      refine (num_c _ _).mono ?_
      rintro e w' ⟨rfl, rfl⟩
      go_wp2_with fail
      refine (spell_c ad nd cd y2 w4 HY1.out hnd).mono ?_
      rintro e w5 ⟨rfl, hb5⟩
      rw [HSY.out]
      go_wp2_with fail
      go_meet
      case rel => exact ⟨rfl, hb5⟩
    · clear hun hy1
      go_wp2_with fail
      refine (num_c _ _).mono ?_
      rintro e w' ⟨rfl, rfl⟩
      go_wp2_with fail
      go_meet
      case rel => exact ⟨rfl, Below.refl _ _⟩
  case rest =>
  obtain ⟨rfl, hbc⟩ := hcut
  have HB5 := Lib.hid (HB4.out.trans (hbc.mono HB4.out.size))
  have HT5 := Lib.hid (HT4.out.below hbc HT4.out.lt)
  have HS5 := Lib.hid (HS4.out.below (Nat.le_refl _) hbc)
  clear hbc HB4 HT4 HS4 HU4
  by_cases hmf : mayM f = true
  rotate_left
  · have hmf' : mayM f = false := by simpa using hmf
    have HMF := Lib.hid hmf'
    clear hmf hmf'
    go_wp2_with fail
    refine (tnew_bad f wc HMF.out).mono ?_
    rintro e w6 ⟨rfl, hb6⟩
    have HB6 := Lib.hid (HB5.out.trans (hb6.mono HB5.out.size))
    clear hb6
    go_wp2_with fail
    refine (num_c _ _).mono ?_
    rintro e w' ⟨rfl, rfl⟩
    go_wp2_with fail
    refine (tworks_c w6).mono ?_
    rintro e w7 ⟨rfl, hb7⟩
    have HB7 := Lib.hid (HB6.out.trans (hb7.mono HB6.out.size))
    clear hb7
    go_wp2_with fail
    go_ret
    exact ⟨rfl, HB7.out⟩
  have HMF := Lib.hid hmf
  clear hmf
  go_wp2_with fail
  refine (tnew_c f wc HMF.out).mono ?_
  rintro e w6 ⟨rfl, hk6, hb6⟩
  obtain ⟨p, hp⟩ : ∃ p, p = wc.heap.size := ⟨_, rfl⟩
  rw [← hp] at hk6 ⊢
  have hTp : w.heap.size < p := by rw [hp]; exact HT5.out.lt
  have HB6 := Lib.hid (HB5.out.trans (hb6.mono HB5.out.size))
  have HT6 := Lib.hid (HT5.out.below hb6 HT5.out.lt)
  have HS6 := Lib.hid (HS5.out.below (Nat.le_refl _) hb6)
  have hfar : ∀ g off, a1 = some ⟨g, off, none⟩ → 0 < len1 → g < p := fun g off e h0 => by
    obtain ⟨x, hx⟩ : ∃ x, z1[0]? = some x := ⟨z1[0]'(by omega), List.getElem?_eq_getElem _⟩
    obtain ⟨g', off', e', hg, _⟩ := HS5.out.2 0 x hx
    rw [e] at e'; injection e' with e'; injection e' with e1; omega
  have HFAR := Lib.hid hfar
  have HK6 : Hid (IsKeys w6 p ⟨0, [f]⟩) := Lib.hid hk6
  clear hk6 hb6 hp HB5 HT5 HS5 hfar
  go_wp2_with fail
  refine (num_c _ _).mono ?_
  rintro e w' ⟨rfl, rfl⟩
  go_wp2_with fail
  go_loopw [18] (fun iv wr => ∃ i : Nat, i ≤ len1 ∧ iv = .int .i64 (i : Int) ∧ IsKeys wr p (turnsK ⟨0, [f]⟩ (z1.take i)) ∧ (turnsK ⟨0, [f]⟩ (z1.take i)).first ≤ i ∧ Only p w6 wr) (fun iv _ => len1 - (intOf iv).toNat)
  case atStart => exact ⟨0, Nat.zero_le _, rfl, HK6.out, Nat.le_refl _, Only.refl _ _⟩
  case round =>
  obtain ⟨i, hi, rfl, hk, hfi, ho⟩ := hrel
  have HK := Lib.hid hk; have HO := Lib.hid ho
  clear hk ho
  by_cases hlt : i < len1
  · obtain ⟨x, hx⟩ : ∃ x, z1[i]? = some x := ⟨z1[i]'(by omega), List.getElem?_eq_getElem _⟩
    obtain ⟨g, off, hae, hg, hcell⟩ := (HS6.out.only HO.out (fun g off e h0 => by have := HFAR.out g off e h0; omega)).2 i x hx
    have HX := Lib.hid hx
    subst hae
    clear hx
    go_wp2_with fail
    refine (turn_c p _ x wr HK.out (by omega)).mono ?_
    rintro e w7 ⟨rfl, hk7, ho7⟩
    have HK7 := Lib.hid hk7
    have HO7 := Lib.hid (HO.out.trans ho7)
    have HF7 : Hid ((turnsK ⟨0, [f]⟩ (z1.take (i + 1))).first ≤ i + 1) := Lib.hid (by
      rw [List.take_add_one, HX.out]
      show (turnsK ⟨0, [f]⟩ (z1.take i ++ [x])).first ≤ i + 1
      rw [turnsK_snoc]
      have := turn_first (turnsK ⟨0, [f]⟩ (z1.take i)) x
      split <;> omega)
    clear hk7 ho7 hcell
    go_wp2_with fail
    go_roundw
    case rel =>
      refine ⟨i + 1, by omega, by go_num, ?_, HF7.out, HO7.out⟩
      rw [List.take_add_one, HX.out]
      show IsKeys w7 p (turnsK ⟨0, [f]⟩ (z1.take i ++ [x]))
      rw [turnsK_snoc]
      exact HK7.out
    case measure => simp [intOf]; omega
  obtain rfl : i = len1 := by omega
  have hall : z1.take i = z1 := List.take_of_length_le (by omega)
  have hk' := HK.out
  rw [hall] at hk' hfi
  obtain ⟨k, hkd⟩ : ∃ k, k = turnsK ⟨0, [f]⟩ z1 := ⟨_, rfl⟩
  have HKD : Hid (i = 0 → k = ⟨0, [f]⟩) := Lib.hid (fun e => by
    have : z1 = [] := List.eq_nil_of_length_eq_zero (by omega)
    rw [hkd, this]; rfl)
  rw [← hkd] at hk' hfi
  have HKK := Lib.hid hk'
  have HB7 := Lib.hid (HB6.out.trans (HO.out.below (B := w.heap.size) HB6.out.size (by omega)))
  have HT7 := Lib.hid (HO.out.blk HT6.out (by omega))
  have hpW : p < wr.heap.size := hk'.blk.lt
  clear hall hk' hkd HK HO HS6 HF3 HK6 HB6 HT6 HFAR
  go_wp2_with fail
  refine (open_v p k s wr HKK.out (by omega) (by omega)).mono ?_
  rintro r w8 ⟨⟨tu, eu, hop, rfl⟩, hb8⟩
  have HOP := Lib.hid hop
  have hal := (Below.refl w8.heap.size w8).alloc (Nat.le_refl _) (.cells #[.int .i64 tu.m, .int .i64 tu.s, .int .i64 tu.i] 36)
  have HB8 := Lib.hid ((HB7.out.trans (hb8.mono HB7.out.size)).trans (hal.mono (by have := HB7.out.size; have := hb8.size; omega)))
  have hT8 := HT7.out.below hb8 HT7.out.lt
  have HT8 := Lib.hid (hT8.below hal hT8.lt)
  have HK8 := Lib.hid ((HKK.out.below hb8).below hal)
  have HU8 := Lib.hid (Blk.new w8 36 #[.int .i64 tu.m, .int .i64 tu.s, .int .i64 tu.i])
  obtain ⟨U, hU⟩ : ∃ U, U = w8.heap.size := ⟨_, rfl⟩
  have hpU : p < U := by rw [hU]; have := hb8.size; omega
  rw [← hU] at HU8
  have HUS := Lib.hid hU
  clear hop hb8 hal hT8 HB7 HT7 HKK hU
  go_upto_region 17 with fail
  rw [← HUS.out]
  generalize w8.alloc (.cells #[.int .i64 tu.m, .int .i64 tu.s, .int .i64 tu.i] 36) = w9 at HB8 HT8 HK8 HU8 ⊢
  go_cut [115] from 108 to 114 (fun c wx => (∃ b : Bool, c = .bool b ∧ (b = true → eu = 0 ∧ i = 0)) ∧ wx = w9)
  case first =>
    by_cases he : eu = 0
    · subst he
      by_cases h0 : i = 0
      · have q : ((i : Int) == 0) = true := by rw [beq_iff_eq]; omega
        have H0 := Lib.hid h0
        clear h0
        go_wp2_with fail
        refine (num_c _ _).mono ?_
        rintro e w' ⟨rfl, rfl⟩
        go_wp2_with fail
        go_meet
        case rel => exact ⟨⟨true, rfl, fun _ => ⟨(by first | rfl | trivial), H0.out⟩⟩, rfl⟩
      · have q : ((i : Int) == 0) = false := by rw [beq_eq_false_iff_ne]; omega
        go_wp2_with fail
        refine (num_c _ _).mono ?_
        rintro e w' ⟨rfl, rfl⟩
        go_wp2_with fail
        go_meet
        case rel => exact ⟨⟨false, rfl, fun h => by cases h⟩, rfl⟩
    · have q : (eu == 0) = false := by rw [beq_eq_false_iff_ne]; exact he
      go_wp2_with fail
      refine (num_c _ _).mono ?_
      rintro e w' ⟨rfl, rfl⟩
      go_wp2_with fail
      go_meet
      case rel => exact ⟨⟨false, rfl, fun h => by cases h⟩, rfl⟩
  case rest =>
  obtain ⟨⟨b, rfl, hb⟩, rfl⟩ := hcut
  go_upto_if 115 with fail
  go_cut [21, 22] from 116 to 129 (fun x y wx => Below wc.heap.size wc wx)
  case first =>
    cases b with
    | false =>
      clear hb
      go_wp2_with fail
      go_meet
      case rel => exact Below.refl _ _
    | true =>
      obtain ⟨rfl, rfl⟩ := hb rfl
      obtain rfl := HKD.out rfl
      obtain ⟨hto, hts⟩ := open_one f (strB s) tu HOP.out
      have HTS : Hid (strOf (spellB ((⟨0, [f]⟩ : KS).bytes tu)) = s) := Lib.hid (by rw [hts, strOf_strB])
      have HTO := Lib.hid hto
      have u0 : wc.cell? ⟨U, 0, none⟩ = some (.int .i64 tu.m) := HU8.out.cell (i := 0) rfl
      have u1 : wc.cell? ⟨U, 1, none⟩ = some (.int .i64 tu.s) := HU8.out.cell (i := 1) rfl
      have u2 : wc.cell? ⟨U, 2, none⟩ = some (.int .i64 tu.i) := HU8.out.cell (i := 2) rfl
      clear hto hts hb
      go_wp2_with fail
      change Calls Try.prog 13 #[.pointer (some ⟨p, 0, none⟩), tu.val] wc _
      refine (make_c p ⟨0, [f]⟩ tu wc HK8.out (Nat.zero_le _) HTO.out).mono ?_
      rintro e wd ⟨rfl, hbd⟩
      rw [HTS.out]
      clear u0 u1 u2
      go_wp2_with fail
      refine (num_c _ _).mono ?_
      rintro e w' ⟨rfl, rfl⟩
      go_wp2_with fail
      go_meet
      case rel => exact hbd
  case rest =>
  rename_i wold
  have HBc := Lib.hid (HB8.out.trans (hcut.mono HB8.out.size))
  have HTc := Lib.hid (HT8.out.below hcut HT8.out.lt)
  have HKc := Lib.hid (HK8.out.below hcut)
  clear hcut HB8 HT8 HK8 HU8 HOP HKD hb
  have c0 : wc.cell? ⟨w.heap.size, 0, none⟩ = some (.int .i64 t.m) := HTc.out.cell (i := 0) rfl
  have c1 : wc.cell? ⟨w.heap.size, 1, none⟩ = some (.int .i64 t.s) := HTc.out.cell (i := 1) rfl
  have c2 : wc.cell? ⟨w.heap.size, 2, none⟩ = some (.int .i64 t.i) := HTc.out.cell (i := 2) rfl
  go_wp2_with fail
  change Calls Try.prog 13 #[.pointer (some ⟨p, 0, none⟩), t.val] wc _
  by_cases hto : t.ok = true
  rotate_left
  · have hto' : t.ok = false := by simpa using hto
    refine (make_bad p k t wc HKc.out hto').mono ?_
    rintro e wd ⟨rfl, hbd⟩
    have HBd := Lib.hid (HBc.out.trans (hbd.mono HBc.out.size))
    unfold emptyS
    clear hbd c0 c1 c2 hto hto'
    go_wp2_with fail
    refine (num_c _ _).mono ?_
    rintro e w' ⟨rfl, rfl⟩
    go_wp2_with fail
    refine (tworks_c wd).mono ?_
    rintro e we ⟨rfl, hbe⟩
    have HBe := Lib.hid (HBd.out.trans (hbe.mono HBd.out.size))
    clear hbe
    go_wp2_with fail
    go_ret
    exact ⟨rfl, HBe.out⟩
  have HTO := Lib.hid hto
  clear hto c0 c1 c2
  refine (make_c p k t wc HKc.out (by omega) HTO.out).mono ?_
  rintro e wd ⟨rfl, hbd⟩
  obtain ⟨X, hX⟩ : ∃ X, X = strOf (spellB (k.bytes t)) := ⟨_, rfl⟩
  have HX := Lib.hid hX
  rw [← hX]
  have HBd := Lib.hid (HBc.out.trans (hbd.mono HBc.out.size))
  have HTd := Lib.hid (HTc.out.below hbd HTc.out.lt)
  have HKd := Lib.hid (HKc.out.below hbd)
  clear hX hbd HBc HTc HKc
  go_wp2_with fail
  refine (num_c _ _).mono ?_
  rintro e w' ⟨rfl, rfl⟩
  go_wp2_with fail
  go_loopw [25] (fun iv wr => ∃ j : Nat, j ≤ j5 ∧ iv = .int .i64 (j : Int) ∧ IsKeys wr p (moreK k j) ∧ Only p wd wr) (fun iv _ => j5 - (intOf iv).toNat)
  case atStart => exact ⟨0, Nat.zero_le _, rfl, HKd.out, Only.refl _ _⟩
  case round =>
  obtain ⟨j, hj, rfl, hk, ho⟩ := hrel
  have HK := Lib.hid hk; have HO := Lib.hid ho
  have hfj := moreK_first k j
  clear hk ho
  by_cases hlt : j < j5
  · go_wp2_with fail
    refine (tturn_ok p _ moreS wr HK.out (by omega) (by decide)).mono ?_
    rintro e w7 ⟨rfl, hk7, ho7⟩
    have HK7 := Lib.hid hk7
    have HO7 := Lib.hid (HO.out.trans ho7)
    clear hk7 ho7
    go_wp2_with fail
    refine (num_c _ _).mono ?_
    rintro e w' ⟨rfl, rfl⟩
    go_wp2_with fail
    go_roundw
    case rel => exact ⟨j + 1, by omega, by go_num, HK7.out, HO7.out⟩
    case measure => simp [intOf]; omega
  obtain rfl : j = j5 := by omega
  have HBe := Lib.hid (HBd.out.trans (HO.out.below (B := w.heap.size) HBd.out.size (by omega)))
  have HTe := Lib.hid (HO.out.blk HTd.out (by omega))
  have hpos := HKd.out.pos
  have hlen := HKd.out.len
  have hnw : k.newest ≤ 2000000000 := by unfold KS.newest; omega
  clear HBd HTd HKd HO
  by_cases hj2 : j ≤ 2
  · have hop : (moreK k j).open_ (strB X) = (t, 0) := by
      obtain ⟨m1, m2, m3⟩ := moreK_kept k hpos hlen j hj2
      rw [HX.out, open_made (moreK k j) k t HTO.out hnw, if_neg (by simp [m1, m2]), if_pos (by rw [m3]; rfl)]
    have hXs : X.size ≤ 105 := by rw [HX.out]; exact made_size _ _ HTO.out hnw
    have ho := open_c p (moreK k j) X wr HK.out (by omega) (by omega)
    rw [hop] at ho
    have HOC := Lib.hid ho
    have qj : (j : Int) ≤ 2 := by omega
    clear ho hop hXs
    go_wp2_with fail
    refine HOC.out.mono ?_
    rintro e wf ⟨rfl, hbf⟩
    unfold Tok.val
    have hTf := HTe.out.below hbf HTe.out.lt
    have hal := (Below.refl wf.heap.size wf).alloc (Nat.le_refl _) (.cells #[.int .i64 t.m, .int .i64 t.s, .int .i64 t.i] 36)
    have HTg := Lib.hid (hTf.below hal hTf.lt)
    have HBg := Lib.hid ((HBe.out.trans (hbf.mono HBe.out.size)).trans (hal.mono (by have := HBe.out.size; have := hbf.size; omega)))
    have HVg := Lib.hid (Blk.new wf 36 #[.int .i64 t.m, .int .i64 t.s, .int .i64 t.i])
    obtain ⟨V, hV⟩ : ∃ V, V = wf.heap.size := ⟨_, rfl⟩
    rw [← hV] at HVg
    clear hbf hTf hal HBe HTe
    have g0 : (wf.alloc (.cells #[.int .i64 t.m, .int .i64 t.s, .int .i64 t.i] 36)).cell? ⟨w.heap.size, 0, none⟩ = some (.int .i64 t.m) := HTg.out.cell (i := 0) rfl
    have g1 : (wf.alloc (.cells #[.int .i64 t.m, .int .i64 t.s, .int .i64 t.i] 36)).cell? ⟨w.heap.size, 1, none⟩ = some (.int .i64 t.s) := HTg.out.cell (i := 1) rfl
    have g2 : (wf.alloc (.cells #[.int .i64 t.m, .int .i64 t.s, .int .i64 t.i] 36)).cell? ⟨w.heap.size, 2, none⟩ = some (.int .i64 t.i) := HTg.out.cell (i := 2) rfl
    clear hV
    go_wp2_with fail
    refine (num_c _ _).mono ?_
    rintro e w' ⟨rfl, rfl⟩
    clear g0 g1 g2
    go_wp2_with fail
    refine (tworks_c _).mono ?_
    rintro e wh ⟨rfl, hbh⟩
    have HBh := Lib.hid (HBg.out.trans (hbh.mono HBg.out.size))
    clear hbh
    go_wp2_with fail
    go_ret
    exact ⟨rfl, HBh.out⟩
  · have hop : (moreK k j).open_ (strB X) = (Tok.zero, 162) := by
      have m1 := moreK_gone k hpos hlen j (by omega) (by omega)
      rw [HX.out, open_made (moreK k j) k t HTO.out hnw, if_pos (fun h => by omega)]
    have hXs : X.size ≤ 105 := by rw [HX.out]; exact made_size _ _ HTO.out hnw
    have ho := open_c p (moreK k j) X wr HK.out (by omega) (by omega)
    rw [hop] at ho
    have HOC := Lib.hid ho
    have qj : ¬ (j : Int) ≤ 2 := by omega
    clear ho hop hXs
    go_wp2_with fail
    refine HOC.out.mono ?_
    rintro e wf ⟨rfl, hbf⟩
    unfold Tok.val Tok.zero
    have hal := (Below.refl wf.heap.size wf).alloc (Nat.le_refl _) (.cells #[.int .i64 0, .int .i64 0, .int .i64 0] 36)
    have HBg := Lib.hid ((HBe.out.trans (hbf.mono HBe.out.size)).trans (hal.mono (by have := HBe.out.size; have := hbf.size; omega)))
    clear hbf hal HBe HTe
    go_wp2_with fail
    refine (num_c _ _).mono ?_
    rintro e w' ⟨rfl, rfl⟩
    go_wp2_with fail
    refine (tworks_c _).mono ?_
    rintro e wh ⟨rfl, hbh⟩
    have HBh := Lib.hid (HBg.out.trans (hbh.mono HBg.out.size))
    clear hbh
    go_wp2_with fail
    go_ret
    exact ⟨rfl, HBh.out⟩
end Go.Proofs.Ytomnjhhpeglcnaa

namespace Go.Proofs.Ytomnjhhpeglcnaa
open Go.RowKit Go.ChangeShapes Go.WideShapes
set_option linter.unusedSimpArgs false
set_option linter.unusedVariables false
set_option maxRecDepth 100000

theorem cells36 : Try.prog.cellsOf 36 = 3 := by kernel_rfl
theorem cells3 : Try.prog.cellsOf 3 = 1 := by kernel_rfl
theorem cells2 : Try.prog.cellsOf 2 = 1 := by kernel_rfl
section
variable {H : Type} {enc : TypeId × Value → H} {w : World} {base : Nat} {held : Bool} {fuel : Nat}
theorem tok_cells {cs : List Value} {x : DataW H × List MemPlace} {spare : Nat → Bool} (h : DataW.trod enc Try.prog w base spare held fuel 36 cs = some x) :
    ∃ c : Tok, cs[0]? = some (.int .i64 c.m) ∧ cs[1]? = some (.int .i64 c.s) ∧ cs[2]? = some (.int .i64 c.i) := by
  obtain ⟨xs, n, _, _, hlen, hxl, hf⟩ := DataW.trod_struct Try.underlying36 h
  rw [cells36] at hlen
  have h0 : DataW.trod enc Try.prog w base spare held n 3 ((cs.drop 0).take (Try.prog.cellsOf 3)) = xs[0]? := hf 0 _ rfl
  have h1 : DataW.trod enc Try.prog w base spare held n 2 ((cs.drop 1).take (Try.prog.cellsOf 2)) = xs[1]? := hf 1 _ rfl
  have h2 : DataW.trod enc Try.prog w base spare held n 2 ((cs.drop 2).take (Try.prog.cellsOf 2)) = xs[2]? := hf 2 _ rfl
  rw [cells3] at h0
  rw [cells2] at h1 h2
  match cs, hlen with
  | [c0, c1, c2], _ =>
    match xs, hxl with
    | [y0, y1, y2], _ =>
      obtain ⟨b, e0, _⟩ := DataW.trod_int Try.underlying3 h0
      obtain ⟨p, e1, _⟩ := DataW.trod_int Try.underlying2 h1
      obtain ⟨m, e2, _⟩ := DataW.trod_int Try.underlying2 h2
      simp at e0 e1 e2
      subst e0; subst e1; subst e2
      exact ⟨⟨b, p, m⟩, rfl, rfl, rfl⟩
end
theorem tok_open {H : Type} {enc : TypeId × Value → H} {w : World} {base b0 : Nat} {spare : Nat → Bool} {held : Bool} {r : Reach} {v : Value} {d : DataW H} {p : List MemPlace}
    (hv : Value.okWide Try.prog w r b0 36 v) (h : DataW.Trod enc Try.prog w base spare held 36 v d p) : ∃ x : Tok, v = x.val := by
  obtain ⟨cs, rfl, hsz⟩ := Go.WideShapes.okWide_struct Try.underlying36 hv
  obtain ⟨fuel, hf⟩ := h
  obtain ⟨x, c0, c1, c2⟩ := tok_cells hf
  refine ⟨x, ?_⟩
  have hl : cs.size = 3 := hsz.trans cells36
  unfold Tok.val
  congr 1
  apply Array.ext_getElem?
  intro i
  simp only [Value.cells] at c0 c1 c2
  rcases (by omega : i = 0 ∨ i = 1 ∨ i = 2 ∨ 3 ≤ i) with rfl | rfl | rfl | hi
  · simpa using c0
  · simpa using c1
  · simpa using c2
  · rw [Array.getElem?_eq_none (by omega), Array.getElem?_eq_none (by simpa using hi)]
end Go.Proofs.Ytomnjhhpeglcnaa
