/- The walk of WireBack. -/
import Derived.Test.YtnecoapbpicloaaXy
import Derived.Deep.CutRange
namespace Go.Proofs.Ytnecoapbpicloaa
open Go.RowKit Go.Shelf
attribute [local go_sem] Oper.semAt_some
set_option linter.unusedSimpArgs false
set_option linter.unusedVariables false

set_option maxHeartbeats 8000000 in
set_option maxRecDepth 100000 in
theorem back_in (a : Option Addr) (n c : Nat) (xs : List WAct) (b : Option Addr) (m d : Nat) (ss : List ByteArray) (cut : Int) (w : World) (hl : Lays w a n xs) (hmx : n ≤ maxLen) (hs : Strs w b m ss) (hmx2 : m ≤ maxLen) :
    CallsIn Fence.wide 5 Try.prog 10 #[.slice a n c, .slice b m d, .int .i64 cut] w fun e w' => e = .returned (.bool true) ∧ Below w.heap.size w w' := by
  have HA := Lib.hid hl; have HS := Lib.hid hs; have HMX := Lib.hid hmx
  clear hl hs
  have hbf := (Boxed.new w 75 (.slice b m d)).alloc (.cells #[.bool false] 4)
  have hbx := Boxed.new (w.alloc (.cells #[.slice b m d] 75)) 4 (.bool false)
  have hbl := ((Below.refl _ w).alloc (Nat.le_refl _) (.cells #[.slice b m d] 75)).alloc (by simp) (.cells #[.bool false] 4)
  have hz2 : ((w.alloc (.cells #[.slice b m d] 75)).alloc (.cells #[.bool false] 4)).heap.size = w.heap.size + 2 := by simp
  rw [World.size_alloc] at hbx
  refine callsIn_of_wp_marks Try.func10 rfl trivial ?_ rfl
  simp only [Try.ntmps10, List.size_toArray, List.length_cons, List.length_nil, Nat.reduceAdd, Nat.reduceSub, Array.replicate_succ, Array.replicate_zero, List.push_toArray, List.append_toArray, List.nil_append, List.cons_append]
  refine wpIn_wide.2 ?_
  have hcF := hbf.cell
  go_wp2_with fail
  generalize (World.alloc _ _) = w2 at hbf hbx hbl hz2 hcF ⊢
  have HBL := Lib.hid hbl; have HBX := Lib.hid hbx; have HBF := Lib.hid hbf
  have hwz : w.heap.size + 1 < w2.heap.size := by omega
  clear hbl hbx hbf hz2
  refine (few_c a n c xs _ ⟨HA.out.1, fun i x hx => by
    obtain ⟨g, off, e, hg, -, -, -, -, -⟩ := HA.out.2 i x hx
    subst e
    obtain ⟨k0, k1, k2, k3, k4⟩ := lays_at HBL.out HA.out hx
    exact ⟨g, off, rfl, Nat.lt_of_lt_of_le hg HBL.out.size, k0, k1, k2, k3, k4⟩⟩ HMX.out).mono ?_
  rintro e w' ⟨rfl, rfl⟩
  cases hfew : fewL xs
  · go_wp2_with fail
    refine (works_c _).mono ?_; rintro e w1 ⟨rfl, hb⟩
    have HB9 := Lib.hid (HBL.out.trans (hb.mono HBL.out.size))
    have HR9 := Lib.hid (boxed_below HBX.out hb HBX.out.lt)
    have hc9 := HR9.out.cell
    have hf9 := HR9.out.frozen
    clear hb
    go_wp2_with fail
    have hR : (w1.setCell ⟨w.heap.size + 1, 0, none⟩ (.bool true)).cell? ⟨w.heap.size + 1, 0, none⟩ = some (.bool true) := (Boxed.set (.bool true) HR9.out).cell
    have hB : Below w.heap.size w (w1.setCell ⟨w.heap.size + 1, 0, none⟩ (.bool true)) := HB9.out.setCell (by simp) _
    generalize World.setCell _ _ _ = V' at hR hB ⊢
    clear hc9 hf9
    exact ⟨.bool true, by simp [results, Try.results10, go_sem, hR], rfl, hB⟩
  rcases Nat.lt_or_ge 8 m with hn | hn
  · have hnn : decide ((8 : Int) < (m : Int)) = true := by simp; omega
    go_wp2_with fail
    refine (works_c _).mono ?_; rintro e w1 ⟨rfl, hb⟩
    have HB9 := Lib.hid (HBL.out.trans (hb.mono HBL.out.size))
    have HR9 := Lib.hid (boxed_below HBX.out hb HBX.out.lt)
    have hc9 := HR9.out.cell
    have hf9 := HR9.out.frozen
    clear hb
    go_wp2_with fail
    have hR : (w1.setCell ⟨w.heap.size + 1, 0, none⟩ (.bool true)).cell? ⟨w.heap.size + 1, 0, none⟩ = some (.bool true) := (Boxed.set (.bool true) HR9.out).cell
    have hB : Below w.heap.size w (w1.setCell ⟨w.heap.size + 1, 0, none⟩ (.bool true)) := HB9.out.setCell (by simp) _
    generalize World.setCell _ _ _ = V' at hR hB ⊢
    clear hc9 hf9
    exact ⟨.bool true, by simp [results, Try.results10, go_sem, hR], rfl, hB⟩
  have hnn : decide ((8 : Int) < (m : Int)) = false := by simp; omega
  have hfk := fewL_ok hfew
  rw [HA.out.1] at hfk
  have hn2 : n ≤ 40 := hfk.1
  have HFX := Lib.hid hfk.2
  clear hfew hfk
  go_wp2_with fail
  refine (wnew_c _).mono ?_
  rintro e w3 ⟨rfl, hiw, hb⟩
  have HD0 : Hid (DSt w2 w3 w2.heap.size (.slice none 0 0) (.slice none 0 0) [] []) := Lib.hid ⟨hiw, OwnA.nil _ _, hb, Nat.le_refl _, fun i x h => by simp at h⟩
  obtain ⟨p, hp⟩ : ∃ p, p = w2.heap.size := ⟨_, rfl⟩
  rw [← hp] at HD0 ⊢
  have hpw : w2.heap.size ≤ p := by omega
  clear hiw hb hp hnn hcF
  go_wp2_with fail
  go_loopw [8, 9] (fun dv iv wr => ∃ (i : Nat) (v u : Value) (l : List By) (ds : List WAct), i ≤ n ∧ iv = .int .i64 (i : Int) ∧ u = dv ∧ l = dsB ds ∧ l.length ≤ 300 * i ∧ ds.length ≤ i ∧ DSt w2 wr p v u l ds) (fun _ iv _ => n - (intOf iv).toNat)
  case atStart => exact ⟨0, _, _, [], [], Nat.zero_le _, rfl, rfl, rfl, Nat.zero_le _, Nat.zero_le _, HD0.out⟩
  case round =>
  obtain ⟨i, v, u, l, ds, hi, rfl, rfl, hll, hl3, hdl, hst⟩ := hrel
  have HST := Lib.hid hst; have HLD := Lib.hid hll; have HLL := Lib.hid hl3
  clear hst HD0 hll hl3
  by_cases hlt : i < n
  · obtain ⟨x, hx⟩ : ∃ x, xs[i]? = some x := ⟨xs[i]'(by rw [HA.out.1]; exact hlt), List.getElem?_eq_getElem _⟩
    obtain ⟨ga, off, rfl, hga, -, -, -, -, hix⟩ := HA.out.2 i x hx
    have HIX := Lib.hid hix
    obtain ⟨hf1, hf2⟩ := HFX.out i x hx
    have HX := Lib.hid hx
    have HBW := Lib.hid (HBL.out.trans (HST.out.bel.mono HBL.out.size))
    obtain ⟨c0, c1, c2, c3, hi1⟩ := lays_at HBW.out HA.out hx
    have HI1 := Lib.hid hi1
    have HLX := Lib.hid (laid_len x (by rw [hix.1]; exact hf1) hf2)
    have hfar : ∀ g off, x.a = some ⟨g, off, none⟩ → 0 < x.n → ¬ WS p v g := fun g off e hn' hg => by
      have h1 := HST.out.ws g hg
      obtain ⟨y, hy⟩ : ∃ y, x.zs[0]? = some y := ⟨x.zs[0]'(by rw [HIX.out.1]; exact hn'), List.getElem?_eq_getElem _⟩
      obtain ⟨g', off', e', hg', _⟩ := HIX.out.2 0 y hy
      rw [e] at e'
      injection e' with e'
      injection e' with e1 _ _
      omega
    have HFAR := Lib.hid hfar
    have HWV : Hid (WAct.val x = .agg #[.int .i64 x.what, .slice x.a x.n x.c, .string x.text, .bool x.truth]) := Lib.hid rfl
    clear hi1 hix hx hfar
    go_wp2_with fail
    refine (lay_c p v l x _ HST.out.wr HI1.out (by omega) (by omega) (by have := HLL.out; omega) HFAR.out).mono ?_
    rintro e w4 ⟨rfl, v4, hw4, ht4, hm4⟩
    obtain ⟨lx, hlx⟩ : ∃ lx, lx = (laidA x).1 := ⟨_, rfl⟩
    obtain ⟨no, hno⟩ : ∃ no, no = (laidA x).2 := ⟨_, rfl⟩
    rw [← hlx] at hw4 HLX
    rw [← hno]
    have HNO := Lib.hid hno; have HLXE := Lib.hid hlx
    have HST4 := Lib.hid (HST.out.lay hw4 ht4)
    have hz4 : p < w4.heap.size := hw4.lt
    clear hw4 ht4 hm4 HST hlx hno c0 c1 c2 c3 HI1 HFAR
    have HBW4 := Lib.hid (HBL.out.trans (HST4.out.bel.mono HBL.out.size))
    obtain ⟨c0, c1, c2, c3, hi1⟩ := lays_at HBW4.out HA.out HX.out
    have hll3 := HLL.out
    have hlx3 := HLX.out
    go_wp2_with fail
    refine (num_c _ _).mono ?_
    rintro e w' ⟨rfl, rfl⟩
    by_cases h0 : no = 0
    · have q0 : (no == 0) = true := by simp [h0]
      have HIX2 := Lib.hid (HIX.out.below (HBL.out.mono (Nat.le_refl _)))
      clear hi1
      have HOa := Lib.hid ((Tch.of_below (((Below.refl w4.heap.size w4).alloc (Nat.le_refl _) (.cells #[.int .i64 x.what, .slice x.a x.n x.c, .string x.text, .bool x.truth] 30))) (Nat.le_refl _) (fun _ => False)).row HST4.out.ow (fun _ _ e => e))
      have hg0 : (w4.alloc (.cells #[.int .i64 x.what, .slice x.a x.n x.c, .string x.text, .bool x.truth] 30)).cell? ⟨w4.heap.size, 0, none⟩ = some (.int .i64 x.what) := blk0 rfl
      have hg1 : (w4.alloc (.cells #[.int .i64 x.what, .slice x.a x.n x.c, .string x.text, .bool x.truth] 30)).cell? ⟨w4.heap.size, 1, none⟩ = some (.slice x.a x.n x.c) := blk0 rfl
      have hg2 : (w4.alloc (.cells #[.int .i64 x.what, .slice x.a x.n x.c, .string x.text, .bool x.truth] 30)).cell? ⟨w4.heap.size, 2, none⟩ = some (.string x.text) := blk0 rfl
      have hg3 : (w4.alloc (.cells #[.int .i64 x.what, .slice x.a x.n x.c, .string x.text, .bool x.truth] 30)).cell? ⟨w4.heap.size, 3, none⟩ = some (.bool x.truth) := blk0 rfl
      have HG := Lib.hid (And.intro hg0 (And.intro hg1 (And.intro hg2 hg3)))
      have HSA := Lib.hid (HST4.out.below ((Below.refl w4.heap.size w4).alloc (Nat.le_refl _) (.cells #[.int .i64 x.what, .slice x.a x.n x.c, .string x.text, .bool x.truth] 30)))
      have hza : w4.heap.size ≤ (w4.alloc (.cells #[.int .i64 x.what, .slice x.a x.n x.c, .string x.text, .bool x.truth] 30)).heap.size := by simp
      have HZA := Lib.hid hza
      clear hg0 hg1 hg2 hg3 hza
      go_wp2_with (at_builtin; refine wpl_append_act rfl _ _ rfl (p + 1) u ds rfl HOa.out w4.heap.size x rfl HG.out.1 HG.out.2.1 HG.out.2.2.1 HG.out.2.2.2 ?c1 ?c2 ?_)
      case c1 => omega
      case c2 => have := HZA.out; omega
      intro u5 w5 ho5 ht5
      have HST5 := Lib.hid (HSA.out.more ho5 ht5 (fun j y hy => by
        rcases Nat.lt_or_ge j ds.length with hj | hj
        · rw [List.getElem?_append_left hj] at hy
          exact HST4.out.good j y hy
        · have hjl := (List.getElem?_eq_some_iff.1 hy).1
          simp at hjl
          obtain rfl : j = ds.length := by omega
          simp at hy
          subst hy
          exact ⟨by rw [← HNO.out]; exact h0, hf1, hf2, HIX2.out⟩))
      clear ho5 ht5 HOa HG HSA HST4 HBW4 HBW c0 c1 c2 c3
      go_wp2_with fail
      go_roundw
      case rel => exact ⟨i + 1, v4, u5, _, ds ++ [x], by omega, by go_num, rfl, by rw [dsB_snoc, ← HLD.out, ← HLXE.out], by rw [List.length_append]; omega, by simp; omega, HST5.out⟩
      case measure => simp [intOf]; omega
    · have q0 : (no == 0) = false := by simp [h0]
      have hlx0 : lx = [] := by
        rw [HLXE.out]
        rw [HNO.out] at h0
        unfold laidA at h0 ⊢
        by_cases k0 : x.what = 0
        · rw [if_pos k0] at h0 ⊢
          cases hk : okN x.zs
          · simp
          · rw [hk] at h0; simp at h0
        · rw [if_neg k0] at h0
          by_cases k1 : x.what = 1
          · rw [if_pos k1] at h0; simp at h0
          · rw [if_neg k1] at h0; simp at h0
      subst hlx0
      rw [List.append_nil] at HST4
      clear hi1 HBW4 HBW c0 c1 c2 c3
      go_wp2_with fail
      go_roundw
      case rel => exact ⟨i + 1, v4, u, l, ds, by omega, by go_num, rfl, HLD.out, by omega, by omega, HST4.out⟩
      case measure => simp [intOf]; omega
  obtain rfl : i = n := by omega
  obtain ⟨au, cu, rfl, -⟩ := HST.out.ow.at_
  obtain ⟨nd, hnd⟩ : ∃ nd, nd = ds.length := ⟨_, rfl⟩
  rw [← hnd]
  have HND := Lib.hid hnd
  have hnd4 : nd ≤ 40 := by omega
  clear hnd
  go_wp2_with fail
  refine (wall_c p v l _ HST.out.wr (by have := HLL.out; omega)).mono ?_
  rintro e w4 ⟨r, rfl, ho4, hb4⟩
  obtain ⟨ar, cr, rfl, hcr, hyr⟩ := ho4.bys
  have HST4 := Lib.hid (HST.out.below hb4)
  have HYR := Lib.hid hyr
  have hzr := HST.out.bel.size
  have hzr4 := hb4.size
  clear ho4 hb4 hyr HST hcr
  go_wp2_with fail
  refine (read_c ar l.length cr l _ HYR.out (by have := HLL.out; omega)).mono ?_
  rintro e w5 ⟨q, rfl, hq, hrd, hb5⟩
  have HST5 := Lib.hid (HST4.out.below hb5)
  have HRD := Lib.hid hrd
  have hzq : w2.heap.size ≤ q := by omega
  have HUQ : Hid (∀ i, (Value.slice au ds.length cu).ownBlock = some i → i < q) := Lib.hid (fun i e => by have := (World.ownsRow.lt HST4.out.ow i e).2; omega)
  clear hrd hb5 HST4 HYR
  go_wp2_with fail
  go_loopw [11] (fun iv wr => ∃ k : Nat, k ≤ nd ∧ iv = .int .i64 (k : Int) ∧ IsRd wr q ⟨dsB (ds.drop k), 0⟩ ∧ Only q w5 wr) (fun iv _ => nd - (intOf iv).toNat)
  case atStart => exact ⟨0, Nat.zero_le _, rfl, by rw [List.drop_zero, ← HLD.out]; exact HRD.out, Only.refl _ _⟩
  case round =>
  obtain ⟨k, hk, rfl, hr, ho⟩ := hrel
  have HR := Lib.hid hr; have HO := Lib.hid ho
  clear hr ho HRD
  by_cases hlt2 : k < nd
  · obtain ⟨x, hx⟩ : ∃ x, ds[k]? = some x := ⟨ds[k]'(by have := HND.out; omega), List.getElem?_eq_getElem _⟩
    obtain ⟨g1, g2, g3, g4⟩ := HST5.out.good k x hx
    have HOA : Hid (OwnA wr (p + 1) (.slice au ds.length cu) ds) := Lib.hid (HO.out.tch.row HST5.out.ow (fun i e e2 => by have := HUQ.out i e; omega))
    obtain ⟨a9, c9, e9, hat⟩ := HOA.out.at_
    injection e9 with e9 e92 e93
    clear e92
    subst e93
    obtain ⟨gu, e8, c0, c1, c2, c3⟩ := hat k x hx
    rw [← e9] at e8
    subst e8
    have hdd := dsB_drop hx
    have hbq : Below w2.heap.size w2 wr := HST5.out.bel.trans (HO.out.below HST5.out.bel.size hzq)
    have HI := Lib.hid (g4.below hbq)
    have HR2 := Lib.hid HR.out
    rw [hdd] at HR2
    have HAP : Hid (∀ g off, x.a = some ⟨g, off, none⟩ → 0 < x.n → g ≠ q) := Lib.hid (fun g off e hn' => by
      obtain ⟨y, hy⟩ : ∃ y, x.zs[0]? = some y := ⟨x.zs[0]'(by rw [g4.1]; exact hn'), List.getElem?_eq_getElem _⟩
      obtain ⟨g', off', e', hg', _⟩ := g4.2 0 y hy
      rw [e] at e'
      injection e' with e'
      injection e' with e1 _ _
      omega)
    have HWV : Hid (WAct.val x = .agg #[.int .i64 x.what, .slice x.a x.n x.c, .string x.text, .bool x.truth]) := Lib.hid rfl
    have HRL : Hid ((dsB (ds.drop (k + 1))).length ≤ 1000000) := Lib.hid (by
      have e1 : dsB ds = dsB (ds.take (k + 1)) ++ dsB (ds.drop (k + 1)) := by
        unfold dsB
        rw [← List.flatten_append, ← List.map_append, List.take_append_drop]
      have e2 := congrArg List.length e1
      rw [← HLD.out, List.length_append] at e2
      have := HLL.out
      omega)
    have hqlt : (k : Int) < (ds.length : Int) := by have := HND.out; omega
    clear hat e9 hdd hbq hx
    go_wp2_with fail
    refine (read_act q x (dsB (ds.drop (k + 1))) wr HR2.out HI.out g1 g2 g3 HRL.out HAP.out).mono ?_
    rintro e w6 ⟨rfl, hr6, ho6⟩
    have HR6 := Lib.hid hr6; have HO6 := Lib.hid (HO.out.trans ho6)
    clear hr6 ho6 HR HO HR2 HI c0 c1 c2 c3 HOA hqlt
    go_wp2_with fail
    go_roundw
    case rel => exact ⟨k + 1, by omega, by go_num, HR6.out, HO6.out⟩
    case measure => simp [intOf]; omega
  obtain rfl : k = nd := by omega
  have hdn : ds.drop k = [] := by rw [List.drop_eq_nil_iff]; have := HND.out; omega
  rw [hdn] at HR
  have HRe : Hid (IsRd wr q ⟨[], 0⟩) := Lib.hid (by have := HR.out; exact this)
  clear hdn HR
  go_wp2_with fail
  refine (left_c q _ wr HRe.out).mono ?_
  rintro e w' ⟨rfl, rfl⟩
  go_wp2_with fail
  refine (rd_end q _ wr HRe.out).mono ?_
  rintro e w6 ⟨rfl, -, ho6⟩
  have hre : (rend ⟨[], 0⟩).2 = 0 := rfl
  rw [hre]
  have HB6 := Lib.hid (HST5.out.bel.trans ((HO.out.trans ho6).below HST5.out.bel.size hzq))
  clear ho6 HO HST5 HRe hre
  go_wp2_with fail
  refine (num_c _ _).mono ?_
  rintro e w' ⟨rfl, rfl⟩
  go_wp2_with fail
  have HB7 := Lib.hid (HB6.out.trans (((Below.refl w6.heap.size w6).alloc (Nat.le_refl _) (.cells #[.slice none 0 0] 86)).mono HB6.out.size))
  have HE7 := Lib.hid (Boxed.new w6 86 (.slice none 0 0))
  have hz7 : (w6.alloc (.cells #[.slice none 0 0] 86)).heap.size = w6.heap.size + 1 := by simp
  obtain ⟨E, hE⟩ : ∃ E, E = w6.heap.size := ⟨_, rfl⟩
  have hE2 : w2.heap.size ≤ E := by have := HB6.out.size; omega
  rw [← hE] at HE7 hz7 ⊢
  generalize w6.alloc (.cells #[.slice none 0 0] 86) = w7 at HB7 HE7 hz7 ⊢
  clear hE HB6
  go_loopw [12, 14] (fun bv iv wr => ∃ (k : Nat) (v ew : Value), k ≤ m ∧ iv = .int .i64 (k : Int) ∧ v = bv ∧ OwnB wr (E + 1) v (jn (ss.take k)) ∧ OwnN wr (E + 1) ew (endsL ss k) ∧ Boxed wr E 86 ew ∧ Tch (fun i => E ≤ i) w7 wr ∧ (∀ (j : Nat) (s : ByteArray), ss[j]? = some s → j < k → s.size ≤ 100)) (fun _ iv _ => m - (intOf iv).toNat)
  case atStart => exact ⟨0, _, _, Nat.zero_le _, rfl, rfl, own_nil _ _, OwnN.nil _ _, HE7.out, Tch.refl _ _, fun j s _ h => by omega⟩
  case round =>
  obtain ⟨k, v, ew, hk, rfl, rfl, hown, hen, hbe, htc, hsz⟩ := hrel
  have HO := Lib.hid hown; have HEN := Lib.hid hen; have HBE := Lib.hid hbe; have HTC := Lib.hid htc; have HSZ := Lib.hid hsz
  have HBr := Lib.hid (HB7.out.trans (htc.below HB7.out.size (fun i e => by omega)))
  have HBW := Lib.hid (HBL.out.trans (HBr.out.mono HBL.out.size))
  have HBFr := Lib.hid (boxed_below HBF.out HBr.out HBF.out.lt)
  have HBXr := Lib.hid (boxed_below HBX.out HBr.out HBX.out.lt)
  have hcF := HBFr.out.cell
  have hzr7 : w7.heap.size ≤ wr.heap.size := htc.size
  have HJL : Hid ((jn (ss.take k)).length ≤ 1000) := Lib.hid (by
    have h9 := jn_len (ss.take k) (fun j s hs => by
      have hj : j < k := by have := (List.getElem?_eq_some_iff.1 hs).1; rw [List.length_take] at this; omega
      exact hsz j s (by rw [List.getElem?_take_of_lt hj] at hs; exact hs) hj)
    rw [List.length_take] at h9
    have : min k ss.length ≤ 8 := by omega
    omega)
  clear hown hen hbe htc hsz
  by_cases hlt3 : k < m
  · obtain ⟨s, hs⟩ : ∃ s, ss[k]? = some s := ⟨ss[k]'(by rw [HS.out.1]; exact hlt3), List.getElem?_eq_getElem _⟩
    obtain ⟨ga, off, rfl, -⟩ := HS.out.2 k s hs
    have hcell := HS.out.at_ HBW.out hs
    have HSK := Lib.hid hs
    have hq3 : (k : Int) < (m : Int) := by omega
    clear hs
    rcases Nat.lt_or_ge 100 s.size with h1 | h1
    · have q1 : (100 : Int) < (s.size : Int) := by omega
      go_wp2_with fail
      refine (works_c _).mono ?_; rintro e w1 ⟨rfl, hb⟩
      have HB9 := Lib.hid (HBW.out.trans (hb.mono HBW.out.size))
      have HR9 := Lib.hid (boxed_below HBXr.out hb HBXr.out.lt)
      have hc9 := HR9.out.cell
      have hf9 := HR9.out.frozen
      clear hb
      go_wp2_with fail
      have hR : (w1.setCell ⟨w.heap.size + 1, 0, none⟩ (.bool true)).cell? ⟨w.heap.size + 1, 0, none⟩ = some (.bool true) := (Boxed.set (.bool true) HR9.out).cell
      have hB : Below w.heap.size w (w1.setCell ⟨w.heap.size + 1, 0, none⟩ (.bool true)) := HB9.out.setCell (by simp) _
      generalize World.setCell _ _ _ = V' at hR hB ⊢
      clear hc9 hf9
      exact ⟨.bool true, by simp [results, Try.results10, go_sem, hR], rfl, hB⟩
    · have q1 : ¬ (100 : Int) < (s.size : Int) := by omega
      obtain ⟨ae, ce, rfl, -⟩ := HEN.out.at_
      rw [endsL_len] at HEN HBE
      have hcE := HBE.out.cell
      have hfE := HBE.out.frozen
      go_wp2_with (refine wpl_conv_bytes rfl (.tmp 93) rfl s rfl ?_; intro c2 w3 hy3 hb3 hz3 hc3; have HY3 := Lib.hid hy3; have HB3 := Lib.hid hb3; clear hy3 hb3)
      refine (frame_c _ s.size c2 (strB s) w3 HY3.out (by omega)).mono ?_
      rintro e w4 ⟨vf, rfl, hof, hb4⟩
      obtain ⟨mf, hmf⟩ : ∃ mf, mf = (frameB (strB s)).length := ⟨_, rfl⟩
      obtain ⟨af, cf, rfl, hcf, hyf⟩ := hof.bys
      rw [← hmf] at hcf hyf ⊢
      have HML : Hid (mf ≤ 113) := Lib.hid (by have h3 := frame_len (l := strB s) (by rw [strB_len]; omega); rw [strB_len] at h3; omega)
      have HB34 := Lib.hid (HB3.out.trans (hb4.mono HB3.out.size))
      have HO4 := Lib.hid ((HO.out.below HB3.out).below hb4)
      have HYF := Lib.hid hyf
      have hz4 : wr.heap.size ≤ w4.heap.size := HB34.out.size
      have HEN4 : Hid (OwnN w4 (E + 1) (.slice ae k ce) (endsL ss k)) := Lib.hid ((Tch.of_below HB34.out (Nat.le_refl _) (fun _ => False)).row HEN.out (fun _ _ e => e))
      have HBE4 := Lib.hid (boxed_below HBE.out HB34.out HBE.out.lt)
      clear hof hyf hb4 hcell hcE hfE hmf
      go_wp2_with fail
      refine (num_c _ _).mono ?_
      rintro e w' ⟨rfl, rfl⟩
      go_wp2_with (at_builtin; refine wpl_append_bysM rfl _ _ rfl (E + 1) _ _ rfl HO4.out af mf cf (frameB (strB s)) rfl HYF.out ?c1 ?c2 ?_)
      case c1 => have := HJL.out; have := HML.out; omega
      case c2 => omega
      intro v5 w5' ho5 ht5 hm5 _
      have HO5 : Hid (OwnB w5' (E + 1) v5 (jn (ss.take (k + 1)))) := Lib.hid (by rw [jn_snoc HSK.out]; exact ho5)
      have HEN5 : Hid (OwnN w5' (E + 1) (.slice ae k ce) (endsL ss k)) := Lib.hid (ht5.row HEN4.out (fun i e e2 => rows_ne (HEN4.out : w4.ownsRow _ 3 _ _ _ _) (HO4.out : w4.ownsRow _ 5 _ _ _ _) (by decide) i e e2))
      have HBE5 := Lib.hid (ht5.boxed HBE4.out (fun e => by have := (own_lt HO4.out E e).1; omega))
      have HT5 : Hid (Tch (fun i => E ≤ i) w7 w5') := Lib.hid ((HTC.out.trans (Tch.of_below HB34.out (Nat.le_refl _) (fun i => E ≤ i)) (fun i _ e => e)).trans ht5 (fun i _ e => by have := (own_lt HO4.out i e).1; omega))
      obtain ⟨a5, c5, rfl, -, -⟩ := HO5.out.bys
      obtain ⟨n5, hn5⟩ : ∃ n5, n5 = (jn (ss.take (k + 1))).length := ⟨_, rfl⟩
      have HO5b : Hid (OwnB w5' (E + 1) (.slice a5 n5 c5) (jn (ss.take (k + 1)))) := Lib.hid (by rw [hn5]; exact HO5.out)
      rw [← hn5]
      have HN5 := Lib.hid hn5
      have hcE := HBE5.out.cell
      have hfE := HBE5.out.frozen
      have hz5 : w4.heap.size ≤ w5'.heap.size := ht5.size
      have hEz : E < w5'.heap.size := HBE5.out.lt
      have hal := (Below.refl w5'.heap.size w5').alloc (Nat.le_refl _) (.cells #[.int .i64 (n5 : Int)] 3)
      have HENa : Hid (OwnN (w5'.alloc (.cells #[.int .i64 (n5 : Int)] 3)) (E + 1) (.slice ae k ce) (endsL ss k)) := Lib.hid ((Tch.of_below hal (Nat.le_refl _) (fun _ => False)).row HEN5.out (fun _ _ e => e))
      have HGa : Hid ((w5'.alloc (.cells #[.int .i64 (n5 : Int)] 3)).cell? ⟨w5'.heap.size, 0, none⟩ = some (.int .i64 (n5 : Int))) := Lib.hid (blk0 rfl)
      have HOa := Lib.hid (HO5b.out.below hal)
      have HBEa := Lib.hid (boxed_below HBE5.out hal hEz)
      have HTa := Lib.hid (HT5.out.alloc (.cells #[.int .i64 (n5 : Int)] 3))
      have HZa : Hid (E + 1 ≤ (w5'.alloc (.cells #[.int .i64 (n5 : Int)] 3)).heap.size ∧ (endsL ss k).length ≤ 1000000) := Lib.hid ⟨by simp; omega, by rw [endsL_len]; omega⟩
      clear hn5 ho5 ht5 hm5 hal HO5 HO HEN HTC HBE
      go_wp2_with (at_builtin; refine wpl_append_num rfl _ _ rfl (E + 1) (.slice ae k ce) (endsL ss k) rfl HENa.out w5'.heap.size n5 rfl HGa.out HZa.out.2 HZa.out.1 ?_; intro a6 c6 w6' ho6 ht6; rw [endsL_len] at ho6 ⊢; have hbe6 := ht6.boxed HBEa.out (fun e => by have := (World.ownsRow.lt HENa.out E e).1; omega); have hcE6 := hbe6.cell; have hfE6 := hbe6.frozen)
      have HO6 := Lib.hid (ht6.own HOa.out (fun i e e2 => rows_ne (HENa.out : World.ownsRow _ _ 3 _ _ _ _) (HOa.out : World.ownsRow _ _ 5 _ _ _ _) (by decide) i e2 e))
      have HSE := Lib.hid ((Tch.refl (fun i => i = E) w6').setCell (p := ⟨E, 0, none⟩) (.inl rfl) (.slice a6 (k + 1) c6))
      have HO7 := Lib.hid (HSE.out.own HO6.out (fun i e e2 => by have := (own_lt HO6.out i e).1; omega))
      have HEN7 : Hid (OwnN (w6'.setCell ⟨E, 0, none⟩ (.slice a6 (k + 1) c6)) (E + 1) (.slice a6 (k + 1) c6) (endsL ss (k + 1))) := Lib.hid (HSE.out.row (by rw [endsL_succ, ← HN5.out]; exact ho6) (fun i e e2 => by have := (World.ownsRow.lt ho6 i e).1; omega))
      have HBE7 := Lib.hid (Boxed.set (.slice a6 (k + 1) c6) hbe6)
      have HT7 := Lib.hid ((HTa.out.trans ht6 (fun i _ e => by have := (World.ownsRow.lt HENa.out i e).1; omega)).trans HSE.out (fun i _ e => by omega))
      clear ho6 ht6 hbe6
      go_wp2_with fail
      go_roundw
      case rel => exact ⟨k + 1, .slice a5 n5 c5, .slice a6 (k + 1) c6, by omega, by go_num, rfl, HO7.out, HEN7.out, HBE7.out, HT7.out, fun j s' hs' hj => by
        rcases Nat.lt_or_ge j k with h | h
        · exact HSZ.out j s' hs' h
        · obtain rfl : j = k := by omega
          rw [HSK.out] at hs'
          injection hs' with hs'
          subst hs'
          exact h1⟩
      case measure => simp [intOf]; omega
  obtain rfl : k = m := by omega
  have hst : ss.take k = ss := List.take_of_length_le (by rw [HS.out.1]; exact Nat.le_refl _)
  rw [hst] at HO HJL
  obtain ⟨L, hL⟩ : ∃ L, L = jn ss := ⟨_, rfl⟩
  rw [← hL] at HO HJL
  obtain ⟨av, cv, rfl, hcv, -⟩ := HO.out.bys
  obtain ⟨nb, hnb⟩ : ∃ nb, nb = L.length := ⟨_, rfl⟩
  have HO1 : Hid (OwnB wr (E + 1) (.slice av nb cv) L) := Lib.hid (by rw [hnb]; exact HO.out)
  have hcv2 : nb ≤ cv := by omega
  have HNB := Lib.hid hnb; have HLJ := Lib.hid hL
  have hnb1 : nb ≤ 1000 := by have := HJL.out; omega
  have HSZA : Hid (∀ (j : Nat) (s : ByteArray), ss[j]? = some s → s.size ≤ 100) := Lib.hid (fun j s hs => HSZ.out j s hs (by have := (List.getElem?_eq_some_iff.1 hs).1; have := HS.out.1; omega))
  rw [← hnb]
  clear hcv HO hst hL hnb HSZ
  go_upto_region 30 with (fail)
  go_cut [2] from 20 to 162 (fun tv wx => wx = wr ∧ ∃ c : Nat, c ≤ nb ∧ tv = .int .i64 (c : Int))
  case first =>
    rcases Int.lt_or_le cut 0 with h1 | h1
    · have q1 : ¬ (nb : Int) ≤ cut := by omega
      have q2 : cut ≤ (nb : Int) := by omega
      have q3 : cut < (nb : Int) := by omega
      have q4 : min (nb : Int) cut = cut := by omega
      have q5 : max 0 cut = 0 := by omega
      go_wp2_with fail
      all_goals (go_meet; case rel => first | exact ⟨rfl, 0, Nat.zero_le _, by simp⟩ | (exfalso; omega) | skip)
    · obtain ⟨kc, rfl⟩ : ∃ kc : Nat, cut = (kc : Int) := ⟨cut.toNat, by omega⟩
      rcases Nat.lt_or_ge nb kc with h2 | h2
      · have q1 : (nb : Int) < (kc : Int) := by omega
        have q2 : ¬ (kc : Int) < (nb : Int) := by omega
        have q3 : ¬ (kc : Int) ≤ (nb : Int) := by omega
        have q4 : min (nb : Int) (kc : Int) = (nb : Int) := by omega
        have q5 : max 0 (nb : Int) = (nb : Int) := by omega
        go_wp2_with fail
        all_goals (go_meet; case rel => first | exact ⟨rfl, nb, Nat.le_refl _, rfl⟩ | exact ⟨rfl, 0, Nat.zero_le _, by simp⟩ | (exfalso; omega) | skip)
      · have q1 : ¬ (nb : Int) < (kc : Int) := by omega
        have q3 : (kc : Int) ≤ (nb : Int) := by omega
        have q4 : min (nb : Int) (kc : Int) = (kc : Int) := by omega
        have q5 : max 0 (kc : Int) = (kc : Int) := by omega
        go_wp2_with fail
        all_goals (go_meet; case rel => first | exact ⟨rfl, kc, h2, rfl⟩ | exact ⟨rfl, nb, Nat.le_refl _, rfl⟩ | exact ⟨rfl, 0, Nat.zero_le _, by simp⟩ | (exfalso; omega) | skip)
  case rest =>
  obtain ⟨rfl, cc, hcc, rfl⟩ := hcut
  obtain ⟨C2, hrun, hOC, hC2⟩ := slice_hi HO1.out HNB.out.symm hcc hcv2
  obtain ⟨l, hl⟩ : ∃ l, l = L.take cc := ⟨_, rfl⟩
  rw [← hl] at hOC
  have HLE := Lib.hid hl
  have hlen : l.length = cc := by rw [hl, List.length_take]; have := HNB.out; omega
  have HLN := Lib.hid hlen
  have HOC := Lib.hid hOC
  obtain ⟨ae, ce, rfl, -⟩ := HEN.out.at_
  rw [endsL_len] at HEN HBE
  have HPC : Hid ((partsB l).length ≤ ss.length ∧ (∀ (k : Nat) (q : Nat × List By), (partsB l)[k]? = some q → ∃ s, ss[k]? = some s ∧ q = ((jn (ss.take (k + 1))).length, strB s)) ∧ ((partsB l).length < ss.length → cc < (jn (ss.take ((partsB l).length + 1))).length)) := Lib.hid (by
    have h := parts_cut ss HSZA.out 0 cc (by rw [← HLJ.out]; have := HNB.out; omega)
    rw [← HLJ.out, ← hl, ← partsB_from] at h
    refine ⟨h.1, fun k q hq => ?_, h.2.2⟩
    obtain ⟨s, h1, h2⟩ := h.2.1 k q hq
    exact ⟨s, h1, by rw [h2, Nat.zero_add]⟩)
  have hal := (Below.refl wc.heap.size wc).alloc (Nat.le_refl _) (.cells #[.int .i64 0] 3)
  have HN8 := Lib.hid (Boxed.new wc 3 (.int .i64 0))
  have HY8 := Lib.hid (HOC.out.below hal).bysP.1
  have HA8 := Lib.hid hal
  have hz8 : (wc.alloc (.cells #[.int .i64 0] 3)).heap.size = wc.heap.size + 1 := by simp
  have hnf := fun W B => run_eql_func_nil W 58 #[.pointer (some ⟨B, 0, none⟩)]
  clear hl hlen hOC hal
  go_wp2_with fail
  obtain ⟨N, hN⟩ : ∃ N, N = wc.heap.size := ⟨_, rfl⟩
  rw [← hN] at HN8 hz8 ⊢
  have HNE := Lib.hid hN
  clear hN
  generalize wc.alloc (.cells #[.int .i64 0] 3) = w8 at HN8 HY8 HA8 hz8 ⊢
  refine (frames_c av cc C2 l _ HY8.out (by omega)).mono ?_
  rintro e w9 ⟨A0, C0, rfl, hit, hb9⟩
  have HB9 := Lib.hid hb9
  clear hit hb9
  go_wp2_with fail
  refine (frames_c av cc C2 l _ (HY8.out.below HB9.out) (by omega)).mono ?_
  rintro e Z ⟨A, C, rfl, hit, hbZ⟩
  clear hnf hrun
  have HV : Hid (CSt w Z (w.heap.size + 1) w.heap.size E (.slice b k d) (.slice ae k ce) (endsL ss k) (.slice av nb cv) L w9.heap.size A C cc l) := Lib.hid (by
    have h8Z : Below w8.heap.size w8 Z := HB9.out.trans (hbZ.mono HB9.out.size)
    have hcZ : Below wc.heap.size wc Z := HA8.out.trans (h8Z.mono (by have := HNE.out; omega))
    have hwE : w.heap.size ≤ E + 1 := by omega
    exact ⟨HBW.out.trans (hcZ.mono HBW.out.size), boxed_below HBXr.out hcZ HBXr.out.lt, boxed_below HBFr.out hcZ HBFr.out.lt, boxed_below HBE.out hcZ HBE.out.lt, own_low ((Tch.of_below hcZ (Nat.le_refl _) (fun _ => False)).row HEN.out (fun _ _ e => e)) hwE, OwnB.below (w := wc) (own_low HO1.out hwE) hcZ, hit⟩)
  have HN0 : Hid (Boxed Z N 3 (.int .i64 0)) := Lib.hid (by
    have h8Z : Below w8.heap.size w8 Z := HB9.out.trans (hbZ.mono HB9.out.size)
    exact boxed_below HN8.out h8Z HN8.out.lt)
  have hwN : w.heap.size + 1 < N := by have := HNE.out; have := HBXr.out.lt; omega
  have HEW : Hid (∀ i, (Value.slice ae k ce).ownBlock = some i → i < N) := Lib.hid (fun i e => by have := (World.ownsRow.lt HEN.out i e).2; have := HNE.out; omega)
  obtain ⟨Bb, hBb⟩ : ∃ B, B = w9.heap.size := ⟨_, rfl⟩
  rw [← hBb] at HV ⊢
  clear hit hbZ HB9 HA8 HN8 HY8 hz8 hBb HOC HEN HBE HTC HBr HBW HBFr HBXr hcF hzr7 HO1
  go_wp2_with fail
  refine (wpIn_wide (n := 5)).1 ?_
  have hNZ := HN0.out.lt
  refine range_gives2 (p := 123) (q := 124) (HV.out.it.gives (by omega)) rfl (enters_of Try.func58 (by kernel_rfl) rfl)
    (fun X hb => HV.out.it.below hb) (fun i hi => by rcases hi with rfl | hi; exact HV.out.it.box.lt; exact (HV.out.it.xb _ hi).2) (fun _ h => h.elim)
    (fun i => i = N) (fun i hi => by
      subst hi
      refine ⟨hNZ, fun e => ?_⟩
      rcases e with e | ⟨off, e⟩
      · exact Boxed.ne HV.out.it.box HN0.out (by decide) e.symm
      · exact own_box HN0.out HV.out.it.own i (by rw [e]; rfl) rfl)
    18 19
    (fun j X => Boxed X N 3 (.int .i64 (j : Int)) ∧ Tch (fun i => i = N ∨ Z.heap.size ≤ i) Z X ∧ j ≤ (partsB l).length)
    (fun c j X => False)
    (fun j X Y ht h => ⟨ht.boxed h.1 (fun e => by rcases e with e | e; exact e; omega), h.2.1.trans ht (fun i _ e => by rcases e with e | e; exact e.elim; exact .inr e), h.2.2⟩)
    (fun c j X Y ht h => h)
    ⟨HN0.out, Tch.refl _ _, Nat.zero_le _⟩ ?assign ?body ?done ?stop
  case assign =>
    intro l1 v u X K hK
    simp only [List.setIfInBounds_toArray, List.set_cons_zero, List.set_cons_succ] at hK ⊢
    gi_wp2
    exact hK
  case body =>
    intro l1 j dd lx mx av2 cv2 W hmx hzW hI hx hown
    simp only [List.setIfInBounds_toArray, List.set_cons_zero, List.set_cons_succ]
    obtain ⟨hn1, ht, hkl⟩ := hI
    have HVW := Lib.hid (HV.out.box HN0.out (by omega) HEW.out ht)
    have hcn := hn1.cell
    have hfn := hn1.frozen
    have hcF := HVW.out.bf.cell
    have hcE := HVW.out.be.cell
    have hkp := (List.getElem?_eq_some_iff.1 hx).1
    have hjk : j < k := by have := HPC.out.1; have := HS.out.1; omega
    obtain ⟨s, hs, hq⟩ := HPC.out.2.1 j (dd, lx) hx
    injection hq with hq1 hq2
    obtain ⟨gb, offb, rfl, -⟩ := HS.out.2 j s hs
    have hcs := HS.out.at_ HVW.out.bel hs
    obtain ⟨a9, c9, e9, hat⟩ := HVW.out.en.at_
    obtain ⟨ge, e8, hce⟩ := hat j _ (endsL_at hjk)
    injection e9 with e9 e92 e93
    clear e92
    rw [← e9] at e8
    subst e8
    subst e93
    rw [← hq1] at hce
    have hyx := hown.bysP.1
    have s1 : ∀ n, (convert 22 9 (.slice av2 mx cv2)).run Try.prog (W.drewN n) = .ok (.string (strOf lx)) (W.drewN n) := fun n => run_str (W.drewN n) av2 mx cv2 lx hyx
    have hse : s = strOf lx := by rw [hq2, strOf_B]
    rw [hse] at hcs
    clear hse
    have q1 : decide (k ≤ j) = false := by simp; omega
    have q2 : (j : Int) < (k : Int) := by omega
    have hq3 : (j : Int) + 1 ≤ 9223372036854775807 := by omega
    have HN1 := Lib.hid hn1; have HT1 := Lib.hid ht; have HKP := Lib.hid hkp
    clear hn1 ht hkl hown hx hmx hkp hat hyx e9 hq1 hq2 hs hmx2
    gi_wp2_with fail
    refine region_quiet_round rfl (by kernel_rfl) (by kernel_rfl) (by kernel_rfl) ?_
    repeat (gi_big_quiet_step (fail))
    refine wpQuietIn_nil ?_
    intro W2 hw'
    have hT2 : Tch (fun i => i = N ∨ XB av2 i) W W2 := by obtain ⟨nq, rfl⟩ := hw'; exact ⟨rfl, rfl, rfl, Nat.le_refl _, fun _ _ _ => rfl⟩
    have hT3 : Tch (fun i => i = N ∨ Z.heap.size ≤ i) Z W2 := by obtain ⟨nq, rfl⟩ := hw'; exact ⟨HT1.out.os, HT1.out.tape, HT1.out.output, HT1.out.size, HT1.out.block⟩
    have hN2 : Boxed W2 N 3 (.int .i64 (j : Int)) := by obtain ⟨nq, rfl⟩ := hw'; exact HN1.out
    have HTa := Lib.hid (hT2.setCell (p := ⟨N, 0, none⟩) (.inl (.inl rfl)) (.int .i64 ((j : Int) + 1)))
    have HTb := Lib.hid (hT3.setCell (p := ⟨N, 0, none⟩) (.inl (.inl rfl)) (.int .i64 ((j : Int) + 1)))
    have HNb := Lib.hid (Boxed.set (.int .i64 ((j : Int) + 1)) hN2)
    have hcn := hN2.cell
    have hfn := hN2.frozen
    clear hcs hce s1 hcF hcE hT2 hT3 hN2 hw'
    gi_wp2_with fail
    exact ⟨by simpa using HTa.out, by simpa using HNb.out, by simpa using HTb.out, HKP.out⟩
  case stop =>
    intro D c j W hD hp hi hK
    exact hi.elim
  case done =>
  intro D W hD hi hK
  obtain ⟨hn1, ht, -⟩ := hi
  have HVW := Lib.hid (HV.out.box HN0.out (by omega) HEW.out ht)
  have HK := Lib.hid hK
  have hcn := hn1.cell
  have hcF := HVW.out.bf.cell
  have hcE := HVW.out.be.cell
  have hDw : w.heap.size + 1 < D := by have := HV.out.br.lt; omega
  obtain ⟨k0, hk0⟩ : ∃ k0, k0 = (partsB l).length := ⟨_, rfl⟩
  have HPL := Lib.hid HPC.out
  rw [← hk0] at hcn HPL
  clear hn1 ht hK hD HN0 HV hk0
  have hfork : ∃ t : Bool, t = ((k0 : Int) == (k : Int)) ∧ (t = false → ∃ ge x, ae = some ⟨ge, 0, none⟩ ∧ k0 < k ∧ W.cell? ⟨ge, k0, none⟩ = some (.int .i64 (x : Nat)) ∧ (cc : Int) < (x : Int)) := by
    refine ⟨_, rfl, fun h => ?_⟩
    have h1 : k0 < k := by
      have h2 := HPL.out.1
      have h3 := HS.out.1
      simp at h
      omega
    obtain ⟨a9, c9, e9, hat⟩ := HVW.out.en.at_
    obtain ⟨ge, e8, hce⟩ := hat k0 _ (endsL_at h1)
    injection e9 with e9 e92 e93
    exact ⟨ge, _, by rw [e9]; exact e8, h1, hce, by have := HPL.out.2.2 (by have := HS.out.1; omega); omega⟩
  obtain ⟨t, ht, htf⟩ := hfork
  cases t
  · obtain ⟨ge, x, rfl, hlt, hce, hgt⟩ := htf rfl
    have q1 : ((k0 : Int) == (k : Int)) = false := ht.symm
    have q2 : (k0 : Int) < (k : Int) := by omega
    have q3 : decide ((cc : Int) < (x : Int)) = true := by simp; omega
    clear ht htf
    go_wp2_with fail
    refine (works_c _).mono ?_
    rintro e w' ⟨rfl, hb⟩
    have HVE := Lib.hid (HVW.out.below hb)
    have HDE := Lib.hid ((hb.block D ((Array.getElem?_eq_some_iff.1 HK.out).1)).trans HK.out)
    clear hb hcn hcF hcE
    have hcr := HVE.out.br.cell
    have hfr := HVE.out.br.frozen
    go_wp2_with fail
    have hF2 : (w'.setCell ⟨w.heap.size + 1, 0, none⟩ (.bool true)).heap[D]? = some (.deferred (some [])) := (Below.heap_setCell w' ⟨w.heap.size + 1, 0, none⟩ _ D (by simp; omega)).trans HDE.out
    have hR : ((w'.setCell ⟨w.heap.size + 1, 0, none⟩ (.bool true)).putObj D (.deferred none)).cell? ⟨w.heap.size + 1, 0, none⟩ = some (.bool true) := by
      have h1 := (Boxed.set (.bool true) HVE.out.br)
      have h2 : Boxed ((w'.setCell ⟨w.heap.size + 1, 0, none⟩ (.bool true)).putObj D (.deferred none)) (w.heap.size + 1) 4 (.bool true) := (World.putObj_heap_other (by omega)).trans h1
      exact h2.cell
    have hB : Below w.heap.size w ((w'.setCell ⟨w.heap.size + 1, 0, none⟩ (.bool true)).putObj D (.deferred none)) := by
      have b1 := HVE.out.bel.setCell (p := ⟨w.heap.size + 1, 0, none⟩) (by simp) (.bool true)
      exact b1.trans (belowK_b (w := w) (Nat.le_refl _) _ D _ (.deferred none) (by omega) hF2 rfl rfl)
    refine ⟨by simp, .inl ⟨_, _, rfl, run_takeDeferred hF2, ?_⟩⟩
    generalize World.putObj _ D _ = V' at hR hB ⊢
    clear hF2
    exact ⟨.bool true, by simp [results, Try.results10, go_sem, hR], rfl, hB⟩
  · have q1 : ((k0 : Int) == (k : Int)) = true := ht.symm
    clear ht htf
    go_wp2_with fail
    refine (works_c _).mono ?_
    rintro e w' ⟨rfl, hb⟩
    have HVE := Lib.hid (HVW.out.below hb)
    have HDE := Lib.hid ((hb.block D ((Array.getElem?_eq_some_iff.1 HK.out).1)).trans HK.out)
    clear hb hcn hcF hcE
    have hcr := HVE.out.br.cell
    have hfr := HVE.out.br.frozen
    go_wp2_with fail
    have hF2 : (w'.setCell ⟨w.heap.size + 1, 0, none⟩ (.bool true)).heap[D]? = some (.deferred (some [])) := (Below.heap_setCell w' ⟨w.heap.size + 1, 0, none⟩ _ D (by simp; omega)).trans HDE.out
    have hR : ((w'.setCell ⟨w.heap.size + 1, 0, none⟩ (.bool true)).putObj D (.deferred none)).cell? ⟨w.heap.size + 1, 0, none⟩ = some (.bool true) := by
      have h1 := (Boxed.set (.bool true) HVE.out.br)
      have h2 : Boxed ((w'.setCell ⟨w.heap.size + 1, 0, none⟩ (.bool true)).putObj D (.deferred none)) (w.heap.size + 1) 4 (.bool true) := (World.putObj_heap_other (by omega)).trans h1
      exact h2.cell
    have hB : Below w.heap.size w ((w'.setCell ⟨w.heap.size + 1, 0, none⟩ (.bool true)).putObj D (.deferred none)) := by
      have b1 := HVE.out.bel.setCell (p := ⟨w.heap.size + 1, 0, none⟩) (by simp) (.bool true)
      exact b1.trans (belowK_b (w := w) (Nat.le_refl _) _ D _ (.deferred none) (by omega) hF2 rfl rfl)
    refine ⟨by simp, .inl ⟨_, _, rfl, run_takeDeferred hF2, ?_⟩⟩
    generalize World.putObj _ D _ = V' at hR hB ⊢
    clear hF2
    exact ⟨.bool true, by simp [results, Try.results10, go_sem, hR], rfl, hB⟩
theorem back_walk (a : Option Addr) (n c : Nat) (xs : List WAct) (b : Option Addr) (m d : Nat) (ss : List ByteArray) (cut : Int) (w : World) (hl : Lays w a n xs ∧ n ≤ maxLen) (hs : Strs w b m ss ∧ m ≤ maxLen) :
    Calls Try.prog 10 #[.slice a n c, .slice b m d, .int .i64 cut] w fun e w' => e = .returned (.bool true) ∧ Below w.heap.size w w' := callsIn_wide.1 (back_in a n c xs b m d ss cut w hl.1 hl.2 hs.1 hs.2)
end Go.Proofs.Ytnecoapbpicloaa
