/- A token's text, or that it may not be: the walk. -/
import Derived.Test.YtomnjhhpeglcnaaGreatYa
import Derived.Test.YtomnjhhpeglcnaaGreatZ9
import Derived.Test.YtomnjhhpeglcnaaGreatYc
namespace Go.Proofs.YtomnjhhpeglcnaaGreat
open Go.RowKit
set_option linter.unusedSimpArgs false
set_option linter.unusedVariables false
set_option maxRecDepth 100000

theorem NoKeys.turn_c {w : World} {v : Value} (h : NoKeys w v) (s : ByteArray) : Calls Tryz.prog 17 #[v, .string s] w fun e w' => e = .returned (.int .i64 1) ∧ w = w' := by
  rcases h with rfl | ⟨p, rfl, h⟩
  · exact turn_nil s w
  · exact turn_zero p 0 _ _ _ s w h
theorem NoKeys.newest_c {w : World} {v : Value} (h : NoKeys w v) : Calls Tryz.prog 18 #[v] w fun e w' => e = .returned (.int .i64 0) ∧ w = w' := by
  rcases h with rfl | ⟨p, rfl, h⟩
  · exact newest_nil w
  · exact newest_zero p 0 _ _ _ w h
theorem NoKeys.copy_c {w : World} {v : Value} (h : NoKeys w v) : Calls Tryz.prog 19 #[v] w fun e w' => e = .returned (.pointer none) ∧ w = w' := by
  rcases h with rfl | ⟨p, rfl, h⟩
  · exact copyk_nil w
  · exact copyk_zero p 0 _ _ _ w h
/-- Keys by both, or none. -/
def KV (v7 v8 : Value) (W : World) : Prop := v7 = .pointer none ∨ ∃ (p : Nat) (k : KS) (a' : Option Addr) (c' Q : Nat), v7 = .pointer (some ⟨p, 0, none⟩) ∧ v8 = .pointer (some ⟨Q, 0, none⟩) ∧ Blk W Q 27 (kval k.first a' k.ms.length c') ∧ IsKeys W p k ∧ RK W a' k.ms.length c' k ∧ k.first ≤ 12
theorem KV.below {v7 v8 : Value} {W W' : World} (h : KV v7 v8 W) (hb : Below W.heap.size W W') : KV v7 v8 W' := by
  rcases h with h | ⟨p, k, a', c', Q, h1, h2, h3, h4, h5, h6⟩
  · exact .inl h
  · exact .inr ⟨p, k, a', c', Q, h1, h2, h3.below hb h3.lt, h4.below hb, h5.below hb, h6⟩
set_option maxHeartbeats 16000000 in
theorem makes_walk' (f : ByteArray) (a1 : Option Addr) (len1 cap1 : Nat) (z1 : List ByteArray) (tm ts ti : Int) (w : World) (v1 : Strs w a1 len1 z1 ∧ len1 ≤ maxLen) :
    Calls Tryz.prog 5 #[.string f, .slice a1 len1 cap1, .agg #[.int .i64 tm, .int .i64 ts, .int .i64 ti]] w fun e w' => e = .returned (.bool true) ∧ Below w.heap.size w w' := by
  have hal := (Below.refl w.heap.size w).alloc (Nat.le_refl _) (.cells #[.int .i64 tm, .int .i64 ts, .int .i64 ti] 31)
  have HB := Lib.hid hal
  have HT := Lib.hid (Blk.new w 31 #[.int .i64 tm, .int .i64 ts, .int .i64 ti])
  have HS := Lib.hid (v1.1.below (Nat.le_refl _) hal)
  have hm1 := v1.2
  have hl1 := v1.1.1
  clear hal v1
  go_enter Tryz.func5, Tryz.ntmps5
  go_wp2_with fail
  generalize w.alloc (.cells #[.int .i64 tm, .int .i64 ts, .int .i64 ti] 31) = w1 at HB HT HS ⊢
  refine (few_c f a1 len1 cap1 z1 w1 HS.out hm1).mono ?_
  rintro e w' ⟨rfl, rfl⟩
  by_cases hfw : fewB f z1 = true
  rotate_left
  · have hfw' : fewB f z1 = false := by simpa using hfw
    rw [hfw']
    clear hfw hfw'
    go_wp2_with fail
    refine (tworks_c w1).mono ?_
    rintro e w2 ⟨rfl, hb2⟩
    have HB2 := Lib.hid (HB.out.trans (hb2.mono HB.out.size))
    clear hb2
    go_wp2_with fail
    go_ret
    exact ⟨rfl, HB2.out⟩
  obtain ⟨hf1, hf2, hf3⟩ := fewB_parts hfw
  rw [hfw]
  rw [hl1] at hf2
  clear hfw hm1 hf3
  go_upto_region 3 with fail
  go_cut [7, 8, 9] from 22 to 28 (fun v7 v8 v9 wx => v9 = .bool true ∧ KV v7 v8 wx ∧ Below w1.heap.size w1 wx)
  case first =>
    go_wp2_with fail
    refine (turnedK_c f a1 len1 cap1 z1 w1 HS.out hf2).mono ?_
    rintro e w2 ⟨hb2, (⟨hmf, rfl⟩ | ⟨p, k, a', c', rfl, hk, hkf, hwp, hks, hrk, hne⟩)⟩
    · have HB2 := Lib.hid (hb2.alloc hb2.size (.cells #[.int .i64 0, .slice none 0 0] 27))
      clear hb2
      unfold kval
      go_wp2_with fail
      go_meet
      case rel => exact ⟨rfl, .inl rfl, HB2.out⟩
    · have hal := (Below.refl w2.heap.size w2).alloc (Nat.le_refl _) (.cells #[.int .i64 (k.first : Int), .slice a' k.ms.length c'] 27)
      have HB3 := Lib.hid (hb2.trans (hal.mono hb2.size))
      have HW3 := Lib.hid (Blk.new w2 27 #[.int .i64 (k.first : Int), .slice a' k.ms.length c'])
      have HK3 := Lib.hid (hks.below hal)
      have HR3 := Lib.hid (RK.below hrk hal)
      clear hb2 hal hks hrk hk hne
      unfold kval
      go_wp2_with fail
      go_meet
      case rel => exact ⟨rfl, .inr ⟨p, k, a', c', _, rfl, rfl, HW3.out, HK3.out, HR3.out, hkf⟩, HB3.out⟩
  case rest =>
  obtain ⟨rfl, hkv, hb⟩ := hcut
  have HKV := Lib.hid hkv
  have HT2 := Lib.hid (HT.out.below hb HT.out.lt)
  have HB2 := Lib.hid (HB.out.trans (hb.mono HB.out.size))
  clear hkv hb HB HT HS
  go_upto_if 32 with fail
  go_cut [10] from 33 to 34 (fun v10 wx => NoKeys wx v10 ∧ Below wc.heap.size wc wx)
  case first =>
    by_cases hodd : ((len1 : Int) % 2 == 1) = true
    · have hal := (Below.refl wc.heap.size wc).alloc (Nat.le_refl _) (.cells (kcells 0 0 emptyS emptyS emptyS) 48)
      have hbk := Blk.new wc 48 (kcells 0 0 emptyS emptyS emptyS)
      go_wp2_with fail
      go_meet
      case rel => exact ⟨.inr ⟨_, rfl, hbk⟩, hal⟩
    · have hodd' : ((len1 : Int) % 2 == 1) = false := by simpa using hodd
      go_wp2_with fail
      go_meet
      case rel => exact ⟨.inl rfl, Below.refl _ _⟩
  case rest =>
  obtain ⟨hno, hb⟩ := hcut
  have HNO := Lib.hid hno
  have HKV3 := Lib.hid (HKV.out.below hb)
  have HT3 := Lib.hid (HT2.out.below hb HT2.out.lt)
  have HB3 := Lib.hid (HB2.out.trans (hb.mono HB2.out.size))
  clear hno hb HKV HT2 HB2
  have c0 : wc.cell? ⟨w.heap.size, 0, none⟩ = some (.int .i64 tm) := HT3.out.cell (i := 0) rfl
  have c1 : wc.cell? ⟨w.heap.size, 1, none⟩ = some (.int .i64 ts) := HT3.out.cell (i := 1) rfl
  have c2 : wc.cell? ⟨w.heap.size, 2, none⟩ = some (.int .i64 ti) := HT3.out.cell (i := 2) rfl
  go_wp2_with fail
  clear c0 c1 c2
  change Calls Tryz.prog 16 #[u10, (⟨tm, ts, ti⟩ : Tok).val] wc _
  refine (make_none u10 ⟨tm, ts, ti⟩ wc (fun W hb => (HNO.out.below hb).none_c)).mono ?_
  rintro e w4 ⟨rfl, hb4⟩
  unfold emptyS
  have HNO4 := Lib.hid (HNO.out.below hb4)
  have HKV4 := Lib.hid (HKV3.out.below hb4)
  have HT4 := Lib.hid (HT3.out.below hb4 HT3.out.lt)
  have HB4 := Lib.hid (HB3.out.trans (hb4.mono HB3.out.size))
  clear hb4 HNO HKV3 HT3 HB3
  go_wp2_with fail
  refine (open_none u10 _ w4 (fun W hb => (HNO4.out.below hb).none_c)).mono ?_
  rintro e w5 ⟨rfl, hb5⟩
  unfold Tok.val Tok.zero
  have hb6 := hb5.alloc hb5.size (.cells #[.int .i64 0, .int .i64 0, .int .i64 0] 31)
  have HNO6 := Lib.hid (HNO4.out.below hb6)
  have HKV6 := Lib.hid (HKV4.out.below hb6)
  have HT6 := Lib.hid (HT4.out.below hb6 HT4.out.lt)
  have HB6 := Lib.hid (HB4.out.trans (hb6.mono HB4.out.size))
  clear hb5 hb6 HNO4 HKV4 HT4 HB4
  go_wp2_with fail
  generalize w5.alloc (.cells #[.int .i64 0, .int .i64 0, .int .i64 0] 31) = w6 at HNO6 HKV6 HT6 HB6 ⊢
  refine (num_c _ _).mono ?_
  rintro e w' ⟨rfl, rfl⟩
  go_wp2_with fail
  refine (num_c _ _).mono ?_
  rintro e w' ⟨rfl, rfl⟩
  go_wp2_with fail
  refine (HNO6.out.turn_c _).mono ?_
  rintro e w' ⟨rfl, rfl⟩
  go_wp2_with fail
  refine (num_c _ _).mono ?_
  rintro e w' ⟨rfl, rfl⟩
  go_wp2_with fail
  refine HNO6.out.newest_c.mono ?_
  rintro e w' ⟨rfl, rfl⟩
  go_wp2_with fail
  refine HNO6.out.copy_c.mono ?_
  rintro e w' ⟨rfl, rfl⟩
  go_wp2_with fail
  refine (same_none u10 (.pointer none) w6 HNO6.out (.inl rfl)).mono ?_
  rintro e w' ⟨rfl, rfl⟩
  rcases HKV6.out with hk7 | ⟨p, k, a', c', Q, hk7, hk8, hwant, hks, hrk, hkf⟩
  · subst hk7
    go_wp2_with fail
    refine (tworks_c _).mono ?_
    rintro e wz ⟨rfl, hbz⟩
    have HBZ := Lib.hid (HB6.out.trans (hbz.mono HB6.out.size))
    clear hbz
    go_wp2_with fail
    go_ret
    exact ⟨rfl, HBZ.out⟩
  subst hk7
  subst hk8
  have HW := Lib.hid hwant
  have HK := Lib.hid hks
  have HR := Lib.hid hrk
  have hpos := hks.pos
  have hlen := hks.len
  have HMAY := Lib.hid hks.may
  clear hwant hks hrk HKV6
  have c0 : w6.cell? ⟨w.heap.size, 0, none⟩ = some (.int .i64 tm) := HT6.out.cell (i := 0) rfl
  have c1 : w6.cell? ⟨w.heap.size, 1, none⟩ = some (.int .i64 ts) := HT6.out.cell (i := 1) rfl
  have c2 : w6.cell? ⟨w.heap.size, 2, none⟩ = some (.int .i64 ti) := HT6.out.cell (i := 2) rfl
  go_wp2_with fail
  clear c0 c1 c2
  change Calls Tryz.prog 16 #[.pointer (some ⟨p, 0, none⟩), (⟨tm, ts, ti⟩ : Tok).val] w6 _
  by_cases hto : (⟨tm, ts, ti⟩ : Tok).ok = true
  rotate_left
  · have hto' : (⟨tm, ts, ti⟩ : Tok).ok = false := by simpa using hto
    refine (make_bad p k ⟨tm, ts, ti⟩ w6 HK.out hto').mono ?_
    rintro e w7 ⟨rfl, hb7⟩
    unfold emptyS
    have HT7 := Lib.hid (HT6.out.below hb7 HT6.out.lt)
    have HB7 := Lib.hid (HB6.out.trans (hb7.mono HB6.out.size))
    clear hb7
    have c0 : w7.cell? ⟨w.heap.size, 0, none⟩ = some (.int .i64 tm) := HT7.out.cell (i := 0) rfl
    have c1 : w7.cell? ⟨w.heap.size, 1, none⟩ = some (.int .i64 ts) := HT7.out.cell (i := 1) rfl
    have c2 : w7.cell? ⟨w.heap.size, 2, none⟩ = some (.int .i64 ti) := HT7.out.cell (i := 2) rfl
    go_wp2_with fail
    clear c0 c1 c2
    change Calls Tryz.prog 13 #[(⟨tm, ts, ti⟩ : Tok).val] w7 _
    refine (rright_c ⟨tm, ts, ti⟩ w7).mono ?_
    rintro e w8 ⟨rfl, hb8⟩
    rw [hto']
    have HB8 := Lib.hid (HB7.out.trans (hb8.mono HB7.out.size))
    clear hb8 hto hto'
    go_wp2_with fail
    refine (num_c _ _).mono ?_
    rintro e w' ⟨rfl, rfl⟩
    go_wp2_with fail
    refine (tworks_c _).mono ?_
    rintro e wz ⟨rfl, hbz⟩
    have HBZ := Lib.hid (HB8.out.trans (hbz.mono HB8.out.size))
    clear hbz
    go_wp2_with fail
    go_ret
    exact ⟨rfl, HBZ.out⟩
  refine (make_c p k ⟨tm, ts, ti⟩ w6 HK.out (by omega) hto).mono ?_
  rintro e w7 ⟨rfl, hb7⟩
  obtain ⟨X, hX⟩ : ∃ X, X = strOf (spellB (k.bytes ⟨tm, ts, ti⟩)) := ⟨_, rfl⟩
  rw [← hX]
  have HX := Lib.hid hX
  have HT7 := Lib.hid (HT6.out.below hb7 HT6.out.lt)
  have HB7 := Lib.hid (HB6.out.trans (hb7.mono HB6.out.size))
  have HN7 := Lib.hid (HNO6.out.below hb7)
  have HW7 := Lib.hid (HW.out.below hb7 HW.out.lt)
  have HK7 := Lib.hid (HK.out.below hb7)
  have HR7 := Lib.hid (RK.below HR.out hb7)
  clear hX hb7 HT6 HB6 HNO6 HW HK HR
  have c0 : w7.cell? ⟨w.heap.size, 0, none⟩ = some (.int .i64 tm) := HT7.out.cell (i := 0) rfl
  have c1 : w7.cell? ⟨w.heap.size, 1, none⟩ = some (.int .i64 ts) := HT7.out.cell (i := 1) rfl
  have c2 : w7.cell? ⟨w.heap.size, 2, none⟩ = some (.int .i64 ti) := HT7.out.cell (i := 2) rfl
  go_wp2_with fail
  clear c0 c1 c2
  change Calls Tryz.prog 13 #[(⟨tm, ts, ti⟩ : Tok).val] w7 _
  refine (rright_c ⟨tm, ts, ti⟩ w7).mono ?_
  rintro e w8 ⟨rfl, hb8⟩
  rw [hto]
  have hto2 := hto
  unfold Tok.ok may31 at hto2
  simp only [Bool.and_eq_true, decide_eq_true_eq] at hto2
  obtain ⟨m, rfl⟩ : ∃ x : Nat, tm = (x : Int) := ⟨tm.toNat, by omega⟩
  obtain ⟨s, rfl⟩ : ∃ x : Nat, ts = (x : Int) := ⟨ts.toNat, by omega⟩
  obtain ⟨i, rfl⟩ : ∃ x : Nat, ti = (x : Int) := ⟨ti.toNat, by omega⟩
  have hm15 : m ≤ 15 := by omega
  have hs31 : s ≤ 2147483647 := by omega
  have hi31 : i ≤ 2147483647 := by omega
  have HT8 := Lib.hid (HT7.out.below hb8 HT7.out.lt)
  have HB8 := Lib.hid (HB7.out.trans (hb8.mono HB7.out.size))
  have HN8 := Lib.hid (HN7.out.below hb8)
  have HW8 := Lib.hid (HW7.out.below hb8 HW7.out.lt)
  have HK8 := Lib.hid (HK7.out.below hb8)
  have HR8 := Lib.hid (RK.below HR7.out hb8)
  clear hto hto2 hb8 HT7 HB7 HN7 HW7 HK7 HR7
  have c0 : w8.cell? ⟨w.heap.size, 0, none⟩ = some (.int .i64 (m : Int)) := HT8.out.cell (i := 0) rfl
  have c1 : w8.cell? ⟨w.heap.size, 1, none⟩ = some (.int .i64 (s : Int)) := HT8.out.cell (i := 1) rfl
  have c2 : w8.cell? ⟨w.heap.size, 2, none⟩ = some (.int .i64 (i : Int)) := HT8.out.cell (i := 2) rfl
  go_wp2_with (refine wpl_load_blk rfl 27 _ rfl Q rfl 27 _ _ HW8.out Tryz.underlying27 rfl infoKR ?_)
  clear c0 c1 c2
  refine (rmake_c k a' k.ms.length c' m s i w8 HR8.out hpos hlen (by omega) HMAY.out hm15 hs31 hi31).mono ?_
  rintro e w9 ⟨rfl, hb9⟩
  rw [← HX.out]
  have HB9 := Lib.hid (HB8.out.trans (hb9.mono HB8.out.size))
  have HN9 := Lib.hid (HN8.out.below hb9)
  have HK9 := Lib.hid (HK8.out.below hb9)
  clear hb9 HT8 HB8 HN8 HW8 HK8 HR8
  go_wp2_with fail
  refine (num_c _ _).mono ?_
  rintro e w' ⟨rfl, rfl⟩
  go_wp2_with fail
  refine (same_right u10 p k w9 HN9.out HK9.out).mono ?_
  rintro e w' ⟨rfl, rfl⟩
  go_wp2_with fail
  refine (same_left u10 p k w9 HN9.out HK9.out).mono ?_
  rintro e w' ⟨rfl, rfl⟩
  go_wp2_with fail
  refine (tworks_c _).mono ?_
  rintro e wz ⟨rfl, hbz⟩
  have HBZ := Lib.hid (HB9.out.trans (hbz.mono HB9.out.size))
  clear hbz
  go_wp2_with fail
  go_ret
  exact ⟨rfl, HBZ.out⟩
end Go.Proofs.YtomnjhhpeglcnaaGreat
