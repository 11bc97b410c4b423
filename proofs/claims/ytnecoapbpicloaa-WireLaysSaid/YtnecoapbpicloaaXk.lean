/- The walk of WireLays. -/
import Derived.Test.YtnecoapbpicloaaXj
namespace Go.Proofs.Ytnecoapbpicloaa
open Go.RowKit
set_option linter.unusedSimpArgs false
set_option linter.unusedVariables false
set_option maxRecDepth 100000

theorem own_bys {w : World} {base n c : Nat} {a : Option Addr} {l : List By} (h : OwnB w base (.slice a n c) l) : Bys w a n l := by
  obtain ⟨a9, c9, e9, _, hy9⟩ := h.bys
  cases e9
  exact hy9

set_option maxHeartbeats 8000000 in
theorem lays_walk (al : Option Addr) (nl cl : Nat) (xs : List WAct) (w : World) (ha0 : Lays w al nl xs) (hmx : nl ≤ maxLen) :
    Calls Try.prog 4 #[.slice al nl cl] w fun e w' => e = .returned (.bool true) ∧ Below w.heap.size w w' := by
  have HA := Lib.hid ha0
  cases hfew : fewL xs
  · have HF := Lib.hid hfew
    have HMX := Lib.hid hmx
    clear hfew ha0 hmx
    go_enter Try.func4, Try.ntmps4
    go_wp2_with fail
    refine (few_c al nl cl xs _ HA.out HMX.out).mono ?_
    rintro e w' ⟨rfl, rfl⟩
    rw [HF.out]
    go_wp2_with fail
    refine (works_c _).mono ?_
    rintro e w' ⟨rfl, hb⟩
    have HB := Lib.hid hb; clear hb
    go_wp2_with fail
    go_ret
    exact ⟨rfl, HB.out⟩
  have hfk := fewL_ok hfew
  rw [HA.out.1] at hfk
  have hn2 : nl ≤ 40 := hfk.1
  have HFX := Lib.hid hfk.2
  have HF := Lib.hid hfew
  have HMX := Lib.hid hmx
  clear hfew ha0 hfk hmx
  go_enter Try.func4, Try.ntmps4
  go_wp2_with fail
  refine (few_c al nl cl xs _ HA.out HMX.out).mono ?_
  rintro e w' ⟨rfl, rfl⟩
  rw [HF.out]
  clear HF HMX
  go_wp2_with fail
  refine (wnew_c _).mono ?_
  rintro e w1 ⟨rfl, hiw, hb⟩
  obtain ⟨p, hp⟩ : ∃ p, p = w.heap.size := ⟨_, rfl⟩
  rw [← hp] at hiw ⊢
  have HST1 := Lib.hid (LSt.new hiw hb (by omega))
  clear hiw hb hp
  go_wp2_with fail
  go_loopw [4, 5] (fun uv iv wr => ∃ (i : Nat) (v u : Value) (l : List By), i ≤ nl ∧ iv = .int .i64 (i : Int) ∧ u = uv ∧ l.length ≤ 300 * i ∧ LSt w wr p v u l l) (fun _ iv _ => nl - (intOf iv).toNat)
  case atStart => exact ⟨0, _, _, [], Nat.zero_le _, rfl, rfl, Nat.zero_le _, HST1.out⟩
  case round =>
  obtain ⟨i, v, u, l, hi, rfl, rfl, hll, hst⟩ := hrel
  have HST := Lib.hid hst
  have HLL := Lib.hid hll
  clear hst HST1 hll
  by_cases hlt : i < nl
  · obtain ⟨x, hx⟩ : ∃ x, xs[i]? = some x := ⟨xs[i]'(by rw [HA.out.1]; exact hlt), List.getElem?_eq_getElem _⟩
    obtain ⟨ga, off, rfl, hga, -, -, -, -, hix⟩ := HA.out.2 i x hx
    have HIX := Lib.hid hix
    obtain ⟨hf1, hf2⟩ := HFX.out i x hx
    have HX := Lib.hid hx
    obtain ⟨c0, c1, c2, c3, hi1⟩ := lays_at HST.out.bel HA.out hx
    have HI1 := Lib.hid hi1
    have HLX := Lib.hid (laid_len x (by rw [hix.1]; exact hf1) hf2)
    have HWV : Hid (WAct.val x = .agg #[.int .i64 x.what, .slice x.a x.n x.c, .string x.text, .bool x.truth]) := Lib.hid rfl
    clear hi1 hix hx
    go_wp2_with fail
    refine (laid_c x _ HI1.out (by omega) (by omega)).mono ?_
    rintro e w2 ⟨⟨A2, C2, rfl, ho2⟩, hb2⟩
    obtain ⟨lx, hlx⟩ : ∃ lx, lx = (laidA x).1 := ⟨_, rfl⟩
    obtain ⟨no, hno⟩ : ∃ no, no = (laidA x).2 := ⟨_, rfl⟩
    obtain ⟨mx, hmx⟩ : ∃ mx, mx = lx.length := ⟨_, rfl⟩
    rw [← hlx] at ho2 HLX ⊢
    rw [← hno]
    rw [← hmx] at ho2 HLX ⊢
    have HMX := Lib.hid hmx; have HNO := Lib.hid hno; have HLXE := Lib.hid hlx
    have HX2 : Hid (Bys w2 A2 mx lx) := Lib.hid (by
      obtain ⟨a9, c9, e9, _, hy9⟩ := ho2.bys
      cases e9
      rw [hmx]
      exact hy9)
    have HO2 := Lib.hid ho2
    have hz1 := HST.out.bel.size
    have HWS : Hid (∀ i, WS p v i → i < wr.heap.size) := Lib.hid (by
      rintro i (rfl | e)
      · exact HST.out.wr.lt
      · exact (own_lt HST.out.wr.2 _ e).2)
    have HST2 := Lib.hid (HST.out.below hb2)
    obtain ⟨d0, d1, d2, d3, hi2⟩ := lays_at HST2.out.bel HA.out HX.out
    have HI2 := Lib.hid hi2
    clear HST hb2 ho2 hi2 HI1 c0 c1 c2 c3 hmx hno hlx
    go_wp2_with fail
    refine (lay_c p v l x _ HST2.out.wr HI2.out (by omega) (by omega) (by have := HLL.out; omega) (HST2.out.far HIX.out)).mono ?_
    rintro e w3 ⟨rfl, v3, hw3, ht3, hm3⟩
    rw [← HLXE.out] at hw3
    rw [← HNO.out]
    have HX3 : Hid (Bys w3 A2 mx lx) := Lib.hid (by
      obtain ⟨a9, c9, e9, _, hy9⟩ := (ht3.own HO2.out (fun i9 e9 h9 => by have := (own_lt HO2.out i9 e9).1; have := HWS.out i9 h9; omega)).bys
      cases e9
      rw [HMX.out]
      exact hy9)
    have HST3 := Lib.hid (HST2.out.lay hw3 ht3 hm3)
    clear hw3 ht3 hm3 HST2 HX2 HO2 HI2 d0 d1 d2 d3
    go_wp2_with fail
    refine (num_c _ _).mono ?_
    rintro e w' ⟨rfl, rfl⟩
    have hll3 := HLL.out
    have hlx3 := HLX.out
    go_wp2_with (at_builtin; refine wpl_append_bysM rfl _ _ rfl (p + 1) u l rfl HST3.out.ow A2 mx C2 lx rfl HX3.out ?c1 ?c2 ?_)
    iterate 3 (first | (case c1 => omega) | (case c2 => exact HST3.out.wr.lt) | skip)
    intro u4 w4 ho4 ht4 hm4 _
    have HST4 := Lib.hid (HST3.out.want ho4 ht4 hm4)
    clear ho4 ht4 hm4 HX3 HST3
    obtain ⟨l4, hl4⟩ : ∃ l4, l4 = l ++ lx := ⟨_, rfl⟩
    rw [← hl4] at HST4
    have hl4n : l4.length ≤ 300 * (i + 1) := by rw [hl4, List.length_append, ← HMX.out]; omega
    have HL4 := Lib.hid hl4n
    clear hl4n hl4 hll3 hlx3
    go_wp2_with fail
    refine (wall_c p _ l4 _ HST4.out.wr (by have := HL4.out; omega)).mono ?_
    rintro e w5 ⟨r, rfl, ho5, hb5⟩
    have hz4 := HST4.out.bel.size
    have HO5 := Lib.hid ho5
    have HB5 := Lib.hid hb5
    obtain ⟨ar, cr, rfl, hcr, hyr⟩ := ho5.bys
    obtain ⟨au, cu, rfl, hcu, hyu⟩ := HST4.out.ow.bys
    have hyu5 := hyu.below hb5
    obtain ⟨m4, hm4⟩ : ∃ m4, m4 = l4.length := ⟨_, rfl⟩
    rw [← hm4] at hyr hyu5 HO5 HST4 ⊢
    have q1 := run_str w5 ar m4 cr l4 hyr
    have q2 := run_str w5 au m4 cu l4 hyu5
    have HM4 := Lib.hid hm4
    have hz5 := hb5.size
    clear ho5 hb5 hyr hyu hyu5 hcr hcu hm4
    go_wp2_with fail
    clear q1 q2
    go_loopw [9] (fun iv wr => ∃ (k : Nat) (l' : List By), k ≤ m4 ∧ iv = .int .i64 (k : Int) ∧ l'.length = m4 ∧ OwnB wr w4.heap.size (.slice ar m4 cr) l' ∧ Below w4.heap.size w4 wr) (fun iv _ => m4 - (intOf iv).toNat)
    case atStart => exact ⟨0, l4, Nat.zero_le _, rfl, HM4.out.symm, HO5.out, HB5.out⟩
    case round =>
    obtain ⟨k, l', hk, rfl, hl', ho', hb'⟩ := hrel
    have HO' := Lib.hid ho'; have HBl := Lib.hid hb'; have HL' := Lib.hid hl'
    clear ho' hb' hl'
    have hm4b : m4 ≤ 12000 := by have := HL4.out; have := HM4.out; omega
    by_cases hltk : k < m4
    · obtain ⟨g, c9, e9, _⟩ := HO'.out.here (by intro e; injection e; omega)
      injection e9 with e1 e2 e3
      subst e1
      clear e2 e3
      obtain ⟨y, hy⟩ : ∃ y, l'[k]? = some y := ⟨l'[k]'(by rw [HL'.out]; exact hltk), List.getElem?_eq_getElem _⟩
      obtain ⟨s1, s2⟩ := HO'.out.at_ hy
      have hbase := HO'.out.base
      have hyl := y.isLt
      have hput := HO'.out.put k (y + 1#8)
      have hyv : (((y + 1#8 : By)).toNat : Int) = ((y.toNat : Int) + 1) % 256 := by rw [BitVec.toNat_add]; simp
      rw [hyv] at hput
      have HP := Lib.hid hput
      clear hput hyv hy
      go_wp2_with fail
      go_roundw
      case rel => exact ⟨k + 1, _, by omega, by go_num, by rw [List.length_set]; exact HL'.out, HP.out, HBl.out.setCell (p := ⟨g, k, none⟩) hbase.1 _⟩
      case measure => simp [intOf]; omega
    obtain rfl : k = m4 := by omega
    have HST6 := Lib.hid (HST4.out.below HBl.out)
    clear HO' HBl HO5 HB5
    go_wp2_with fail
    go_roundw
    case rel => exact ⟨i + 1, _, _, l4, by omega, by go_num, rfl, HL4.out, HST6.out⟩
    case measure => simp [intOf]; omega
  obtain rfl : i = nl := by omega
  obtain ⟨au, cu, rfl, -, -⟩ := HST.out.ow.bys
  obtain ⟨m, hm⟩ : ∃ m, m = l.length := ⟨_, rfl⟩
  rw [← hm] at HST ⊢
  have HM := Lib.hid hm
  clear hm
  go_wp2_with fail
  · have hbk := Blk.new wr 49 #[.slice none 0 0, .bool false]
    have HN : Hid (NoWr (wr.alloc (.cells #[.slice none 0 0, .bool false] 49)) (some ⟨wr.heap.size, 0, none⟩)) := Lib.hid (.inr ⟨_, rfl, hbk.cell (i := 1) rfl⟩)
    have hb := (Below.refl wr.heap.size wr).alloc (Nat.le_refl _) (.cells #[.slice none 0 0, .bool false] 49)
    have HST1 := Lib.hid (HST.out.below hb)
    clear hbk hb HST
    generalize (World.alloc _ _) = wA at HN HST1 ⊢
    obtain ⟨gz, hgz⟩ : ∃ gz, gz = wr.heap.size := ⟨_, rfl⟩
    rw [← hgz] at HN ⊢
    clear hgz
    have hS0 : (fun W => LSt w W p v (.slice au m cu) l l ∧ NoWr W (some ⟨gz, 0, none⟩)) wA.drew := ⟨HST1.out.below (Below.refl _ _).drew, HN.out.below (Below.refl _ _).drew⟩
    refine wp_region_held_drew (S := (fun W => LSt w W p v (.slice au m cu) l l ∧ NoWr W (some ⟨gz, 0, none⟩))) (by kernel_rfl) hS0 ?_
    intro hS0'
    refine wpAnyH_take (i := 0) (v := .pointer (some ⟨p, 0, none⟩)) rfl (by kernel_rfl) (by kernel_rfl) (by kernel_rfl) (fun _ _ _ h => h) (Or.inl ⟨by kernel_rfl, fun w hSw => ?_⟩) hS0' ?_
    · go_simp
    try simp only [Act.put, List.getElem_toArray, List.getElem_cons_succ, List.getElem_cons_zero, List.setIfInBounds_toArray, List.set_cons_zero, List.set_cons_succ]
    refine wpAnyH_take (i := 3) (v := .slice au m cu) rfl (by kernel_rfl) (by kernel_rfl) (by kernel_rfl) (fun _ _ _ h => h) (Or.inl ⟨by kernel_rfl, fun w hSw => ?_⟩) hS0' ?_
    · go_simp
    try simp only [Act.put, List.getElem_toArray, List.getElem_cons_succ, List.getElem_cons_zero, List.setIfInBounds_toArray, List.set_cons_zero, List.set_cons_succ]
    refine wpAnyH_take (i := 4) (v := .string (strOf l)) rfl (by kernel_rfl) (by kernel_rfl) (by kernel_rfl) (fun _ _ _ h => h) (Or.inl ⟨by kernel_rfl, fun w hSw => ?_⟩) hS0' ?_
    · have q := run_str w au m cu l (own_bys hSw.1.ow)
      go_simp
    try simp only [Act.put, List.getElem_toArray, List.getElem_cons_succ, List.getElem_cons_zero, List.setIfInBounds_toArray, List.set_cons_zero, List.set_cons_succ]
    refine wpAnyH_ready (rs := [1]) (by kernel_rfl) (by simp) ?_
    refine AllReadyH.cons (by rfl) ?_ AllReadyH.nil
    intro K hK
    go_simp
    refine (wall_c p v l _ hS0'.1.wr (by have := HLL.out; omega)).mono ?_
    rintro e w5 ⟨r, rfl, ho5, hb5⟩
    obtain ⟨a9, c9, rfl, _, hy9⟩ := ho5.bys
    have q9 := run_str w5 a9 _ c9 _ hy9
    have hSw5 : (fun W => LSt w W p v (.slice au m cu) l l ∧ NoWr W (some ⟨gz, 0, none⟩)) w5 := ⟨hS0'.1.below hb5, hS0'.2.below hb5⟩
    clear ho5 hb5 hy9
    refine hK.out _ _ hSw5 (fun hS1 => ?_)
    clear hK K
    refine wpAnyH_ready (rs := [2]) (by kernel_rfl) (by simp) ?_
    refine AllReadyH.cons (by rfl) ?_ AllReadyH.nil
    intro K hK
    go_simp
    refine hK.out _ _ hS1 (fun hS2 => ?_)
    clear hK K
    refine wpAnyH_take (i := 5) (v := .bool true) rfl (by kernel_rfl) (by kernel_rfl) (by kernel_rfl) (fun _ _ _ h => h) (Or.inl ⟨by kernel_rfl, fun w hSw => ?_⟩) hS2 ?_
    · go_simp
    try simp only [Act.put, List.getElem_toArray, List.getElem_cons_succ, List.getElem_cons_zero, List.setIfInBounds_toArray, List.set_cons_zero, List.set_cons_succ]
    refine wpAnyH_take (i := 6) (v := .bool true) rfl (by kernel_rfl) (by kernel_rfl) (by kernel_rfl) (fun _ _ _ h => h) (Or.inl ⟨by kernel_rfl, fun w hSw => ?_⟩) hS2 ?_
    · go_simp
    try simp only [Act.put, List.getElem_toArray, List.getElem_cons_succ, List.getElem_cons_zero, List.setIfInBounds_toArray, List.set_cons_zero, List.set_cons_succ]
    refine wpAnyH_take (i := 7) (v := .pointer (some ⟨gz, 0, none⟩)) rfl (by kernel_rfl) (by kernel_rfl) (by kernel_rfl) (fun _ _ _ h => h) (Or.inl ⟨by kernel_rfl, fun w hSw => ?_⟩) hS2 ?_
    · go_simp
    try simp only [Act.put, List.getElem_toArray, List.getElem_cons_succ, List.getElem_cons_zero, List.setIfInBounds_toArray, List.set_cons_zero, List.set_cons_succ]
    refine wpAnyH_ready (rs := [8]) (by kernel_rfl) (by simp) ?_
    refine AllReadyH.cons (by rfl) ?_ AllReadyH.nil
    intro K hK
    go_simp
    refine hK.out _ _ ⟨hS2.1.below ((Below.refl _ _).alloc (Nat.le_refl _) _), hS2.2.below ((Below.refl _ _).alloc (Nat.le_refl _) _)⟩ (fun hS3 => ?_)
    clear hK K
    refine wpAnyH_ready (rs := [9]) (by kernel_rfl) (by simp) ?_
    refine AllReadyH.cons (by rfl) ?_ AllReadyH.nil
    intro K hK
    go_simp
    refine (wnumber_none _ _ _ _ _ hS3.2).mono ?_
    rintro e w' ⟨rfl, rfl⟩
    refine hK.out _ _ hS3 (fun hS4 => ?_)
    clear hK K
    refine wpAnyH_ready (rs := [10]) (by kernel_rfl) (by simp) ?_
    refine AllReadyH.cons (by rfl) ?_ AllReadyH.nil
    intro K hK
    go_simp
    refine (num_c _ _).mono ?_
    rintro e w' ⟨rfl, rfl⟩
    refine hK.out _ _ hS4 (fun hS5 => ?_)
    clear hK K
    refine wpAnyH_take (i := 11) (v := .bool true) rfl (by kernel_rfl) (by kernel_rfl) (by kernel_rfl) (fun _ _ _ h => h) (Or.inl ⟨by kernel_rfl, fun w hSw => ?_⟩) hS5 ?_
    · go_simp
    try simp only [Act.put, List.getElem_toArray, List.getElem_cons_succ, List.getElem_cons_zero, List.setIfInBounds_toArray, List.set_cons_zero, List.set_cons_succ]
    refine wpAnyH_take (i := 12) (v := .bool true) rfl (by kernel_rfl) (by kernel_rfl) (by kernel_rfl) (fun _ _ _ h => h) (Or.inl ⟨by kernel_rfl, fun w hSw => ?_⟩) hS5 ?_
    · go_simp
    try simp only [Act.put, List.getElem_toArray, List.getElem_cons_succ, List.getElem_cons_zero, List.setIfInBounds_toArray, List.set_cons_zero, List.set_cons_succ]
    refine wpAnyH_take (i := 13) (v := .bool true) rfl (by kernel_rfl) (by kernel_rfl) (by kernel_rfl) (fun _ _ _ h => h) (Or.inl ⟨by kernel_rfl, fun w hSw => ?_⟩) hS5 ?_
    · go_simp
    try simp only [Act.put, List.getElem_toArray, List.getElem_cons_succ, List.getElem_cons_zero, List.setIfInBounds_toArray, List.set_cons_zero, List.set_cons_succ]
    refine wpAnyH_take (i := 14) (v := .pointer (some ⟨gz, 0, none⟩)) rfl (by kernel_rfl) (by kernel_rfl) (by kernel_rfl) (fun _ _ _ h => h) (Or.inl ⟨by kernel_rfl, fun w hSw => ?_⟩) hS5 ?_
    · go_simp
    try simp only [Act.put, List.getElem_toArray, List.getElem_cons_succ, List.getElem_cons_zero, List.setIfInBounds_toArray, List.set_cons_zero, List.set_cons_succ]
    refine wpAnyH_ready (rs := [15]) (by kernel_rfl) (by simp) ?_
    refine AllReadyH.cons (by rfl) ?_ AllReadyH.nil
    intro K hK
    go_simp
    refine (wtext_none _ _ _ hS5.2).mono ?_
    rintro e w' ⟨rfl, rfl⟩
    refine hK.out _ _ hS5 (fun hS6 => ?_)
    clear hK K
    refine wpAnyH_ready (rs := [16]) (by kernel_rfl) (by simp) ?_
    refine AllReadyH.cons (by rfl) ?_ AllReadyH.nil
    intro K hK
    go_simp
    refine (num_c _ _).mono ?_
    rintro e w' ⟨rfl, rfl⟩
    refine hK.out _ _ hS6 (fun hS7 => ?_)
    clear hK K
    refine wpAnyH_take (i := 17) (v := .bool true) rfl (by kernel_rfl) (by kernel_rfl) (by kernel_rfl) (fun _ _ _ h => h) (Or.inl ⟨by kernel_rfl, fun w hSw => ?_⟩) hS7 ?_
    · go_simp
    try simp only [Act.put, List.getElem_toArray, List.getElem_cons_succ, List.getElem_cons_zero, List.setIfInBounds_toArray, List.set_cons_zero, List.set_cons_succ]
    refine wpAnyH_take (i := 18) (v := .bool true) rfl (by kernel_rfl) (by kernel_rfl) (by kernel_rfl) (fun _ _ _ h => h) (Or.inl ⟨by kernel_rfl, fun w hSw => ?_⟩) hS7 ?_
    · go_simp
    try simp only [Act.put, List.getElem_toArray, List.getElem_cons_succ, List.getElem_cons_zero, List.setIfInBounds_toArray, List.set_cons_zero, List.set_cons_succ]
    refine wpAnyH_take (i := 19) (v := .bool true) rfl (by kernel_rfl) (by kernel_rfl) (by kernel_rfl) (fun _ _ _ h => h) (Or.inl ⟨by kernel_rfl, fun w hSw => ?_⟩) hS7 ?_
    · go_simp
    try simp only [Act.put, List.getElem_toArray, List.getElem_cons_succ, List.getElem_cons_zero, List.setIfInBounds_toArray, List.set_cons_zero, List.set_cons_succ]
    refine wpAnyH_take (i := 20) (v := .pointer (some ⟨gz, 0, none⟩)) rfl (by kernel_rfl) (by kernel_rfl) (by kernel_rfl) (fun _ _ _ h => h) (Or.inl ⟨by kernel_rfl, fun w hSw => ?_⟩) hS7 ?_
    · go_simp
    try simp only [Act.put, List.getElem_toArray, List.getElem_cons_succ, List.getElem_cons_zero, List.setIfInBounds_toArray, List.set_cons_zero, List.set_cons_succ]
    refine wpAnyH_ready (rs := [21]) (by kernel_rfl) (by simp) ?_
    refine AllReadyH.cons (by rfl) ?_ AllReadyH.nil
    intro K hK
    go_simp
    refine (wtruth_none _ _ _ hS7.2).mono ?_
    rintro e w' ⟨rfl, rfl⟩
    refine hK.out _ _ hS7 (fun hS8 => ?_)
    clear hK K
    refine wpAnyH_ready (rs := [22]) (by kernel_rfl) (by simp) ?_
    refine AllReadyH.cons (by rfl) ?_ AllReadyH.nil
    intro K hK
    go_simp
    refine (num_c _ _).mono ?_
    rintro e w' ⟨rfl, rfl⟩
    refine hK.out _ _ hS8 (fun hS9 => ?_)
    clear hK K
    refine wpAnyH_take (i := 23) (v := .bool true) rfl (by kernel_rfl) (by kernel_rfl) (by kernel_rfl) (fun _ _ _ h => h) (Or.inl ⟨by kernel_rfl, fun w hSw => ?_⟩) hS9 ?_
    · go_simp
    try simp only [Act.put, List.getElem_toArray, List.getElem_cons_succ, List.getElem_cons_zero, List.setIfInBounds_toArray, List.set_cons_zero, List.set_cons_succ]
    refine wpAnyH_take (i := 24) (v := .bool true) rfl (by kernel_rfl) (by kernel_rfl) (by kernel_rfl) (fun _ _ _ h => h) (Or.inl ⟨by kernel_rfl, fun w hSw => ?_⟩) hS9 ?_
    · go_simp
    try simp only [Act.put, List.getElem_toArray, List.getElem_cons_succ, List.getElem_cons_zero, List.setIfInBounds_toArray, List.set_cons_zero, List.set_cons_succ]
    refine wpAnyH_take (i := 25) (v := .bool true) rfl (by kernel_rfl) (by kernel_rfl) (by kernel_rfl) (fun _ _ _ h => h) (Or.inl ⟨by kernel_rfl, fun w hSw => ?_⟩) hS9 ?_
    · go_simp
    try simp only [Act.put, List.getElem_toArray, List.getElem_cons_succ, List.getElem_cons_zero, List.setIfInBounds_toArray, List.set_cons_zero, List.set_cons_succ]
    refine wpAnyH_take (i := 26) (v := .pointer (some ⟨gz, 0, none⟩)) rfl (by kernel_rfl) (by kernel_rfl) (by kernel_rfl) (fun _ _ _ h => h) (Or.inl ⟨by kernel_rfl, fun w hSw => ?_⟩) hS9 ?_
    · go_simp
    try simp only [Act.put, List.getElem_toArray, List.getElem_cons_succ, List.getElem_cons_zero, List.setIfInBounds_toArray, List.set_cons_zero, List.set_cons_succ]
    refine wpAnyH_ready (rs := [27]) (by kernel_rfl) (by simp) ?_
    refine AllReadyH.cons (by rfl) ?_ AllReadyH.nil
    intro K hK
    go_simp
    refine (wall_none _ _ hS9.2).mono ?_
    rintro e w' ⟨rfl, rfl⟩
    refine hK.out _ _ hS9 (fun hS10 => ?_)
    clear hK K
    refine wpAnyH_take (i := 28) (v := .int .i64 0) rfl (by kernel_rfl) (by kernel_rfl) (by kernel_rfl) (fun _ _ _ h => h) (Or.inl ⟨by kernel_rfl, fun w hSw => ?_⟩) hS10 ?_
    · go_simp
    try simp only [Act.put, List.getElem_toArray, List.getElem_cons_succ, List.getElem_cons_zero, List.setIfInBounds_toArray, List.set_cons_zero, List.set_cons_succ]
    refine wpAnyH_take (i := 29) (v := .bool true) rfl (by kernel_rfl) (by kernel_rfl) (by kernel_rfl) (fun _ _ _ h => h) (Or.inl ⟨by kernel_rfl, fun w hSw => ?_⟩) hS10 ?_
    · go_simp
    try simp only [Act.put, List.getElem_toArray, List.getElem_cons_succ, List.getElem_cons_zero, List.setIfInBounds_toArray, List.set_cons_zero, List.set_cons_succ]
    refine wpAnyH_take (i := 30) (v := .bool true) rfl (by kernel_rfl) (by kernel_rfl) (by kernel_rfl) (fun _ _ _ h => h) (Or.inl ⟨by kernel_rfl, fun w hSw => ?_⟩) hS10 ?_
    · go_simp
    try simp only [Act.put, List.getElem_toArray, List.getElem_cons_succ, List.getElem_cons_zero, List.setIfInBounds_toArray, List.set_cons_zero, List.set_cons_succ]
    refine wpAnyH_take (i := 31) (v := .bool true) rfl (by kernel_rfl) (by kernel_rfl) (by kernel_rfl) (fun _ _ _ h => h) (Or.inl ⟨by kernel_rfl, fun w hSw => ?_⟩) hS10 ?_
    · go_simp
    try simp only [Act.put, List.getElem_toArray, List.getElem_cons_succ, List.getElem_cons_zero, List.setIfInBounds_toArray, List.set_cons_zero, List.set_cons_succ]
    refine wpAnyH_ready (rs := [32]) (by kernel_rfl) (by simp) ?_
    refine AllReadyH.cons (by rfl) ?_ AllReadyH.nil
    intro K hK
    go_simp
    refine (works_c _).mono ?_
    rintro e wz ⟨rfl, hbz⟩
    have hSz : (fun W => LSt w W p v (.slice au m cu) l l ∧ NoWr W (some ⟨gz, 0, none⟩)) wz := ⟨hS10.1.below hbz, hS10.2.below hbz⟩
    clear hbz
    refine hK.out _ _ hSz (fun hS11 => ?_)
    clear hK K
    refine wpAnyH_take (i := 33) (v := .bool true) rfl (by kernel_rfl) (by kernel_rfl) (by kernel_rfl) (fun _ _ _ h => h) (Or.inl ⟨by kernel_rfl, fun w hSw => ?_⟩) hS11 ?_
    · go_simp
    try simp only [Act.put, List.getElem_toArray, List.getElem_cons_succ, List.getElem_cons_zero, List.setIfInBounds_toArray, List.set_cons_zero, List.set_cons_succ]
    refine wpAnyH_ready (rs := [34]) (by kernel_rfl) (by simp) ?_
    refine AllReadyH.cons (by rfl) ?_ AllReadyH.nil
    intro K hK
    go_simp
    refine hK.out _ _ hS11 (fun hS12 => ?_)
    clear hK K
    refine wpAnyH_done (by kernel_rfl) ?_ _
    go_wp2_with fail
    go_ret
    exact ⟨rfl, hS12.1.bel⟩
  · have HN : Hid (NoWr wr none) := Lib.hid (.inl rfl)
    have HST1 := HST
    clear HST
    have hS0 : (fun W => LSt w W p v (.slice au m cu) l l ∧ NoWr W none) wr.drew := ⟨HST1.out.below (Below.refl _ _).drew, HN.out.below (Below.refl _ _).drew⟩
    refine wp_region_held_drew (S := (fun W => LSt w W p v (.slice au m cu) l l ∧ NoWr W none)) (by kernel_rfl) hS0 ?_
    intro hS0'
    refine wpAnyH_take (i := 0) (v := .pointer (some ⟨p, 0, none⟩)) rfl (by kernel_rfl) (by kernel_rfl) (by kernel_rfl) (fun _ _ _ h => h) (Or.inl ⟨by kernel_rfl, fun w hSw => ?_⟩) hS0' ?_
    · go_simp
    try simp only [Act.put, List.getElem_toArray, List.getElem_cons_succ, List.getElem_cons_zero, List.setIfInBounds_toArray, List.set_cons_zero, List.set_cons_succ]
    refine wpAnyH_take (i := 3) (v := .slice au m cu) rfl (by kernel_rfl) (by kernel_rfl) (by kernel_rfl) (fun _ _ _ h => h) (Or.inl ⟨by kernel_rfl, fun w hSw => ?_⟩) hS0' ?_
    · go_simp
    try simp only [Act.put, List.getElem_toArray, List.getElem_cons_succ, List.getElem_cons_zero, List.setIfInBounds_toArray, List.set_cons_zero, List.set_cons_succ]
    refine wpAnyH_take (i := 4) (v := .string (strOf l)) rfl (by kernel_rfl) (by kernel_rfl) (by kernel_rfl) (fun _ _ _ h => h) (Or.inl ⟨by kernel_rfl, fun w hSw => ?_⟩) hS0' ?_
    · have q := run_str w au m cu l (own_bys hSw.1.ow)
      go_simp
    try simp only [Act.put, List.getElem_toArray, List.getElem_cons_succ, List.getElem_cons_zero, List.setIfInBounds_toArray, List.set_cons_zero, List.set_cons_succ]
    refine wpAnyH_ready (rs := [1]) (by kernel_rfl) (by simp) ?_
    refine AllReadyH.cons (by rfl) ?_ AllReadyH.nil
    intro K hK
    go_simp
    refine (wall_c p v l _ hS0'.1.wr (by have := HLL.out; omega)).mono ?_
    rintro e w5 ⟨r, rfl, ho5, hb5⟩
    obtain ⟨a9, c9, rfl, _, hy9⟩ := ho5.bys
    have q9 := run_str w5 a9 _ c9 _ hy9
    have hSw5 : (fun W => LSt w W p v (.slice au m cu) l l ∧ NoWr W none) w5 := ⟨hS0'.1.below hb5, hS0'.2.below hb5⟩
    clear ho5 hb5 hy9
    refine hK.out _ _ hSw5 (fun hS1 => ?_)
    clear hK K
    refine wpAnyH_ready (rs := [2]) (by kernel_rfl) (by simp) ?_
    refine AllReadyH.cons (by rfl) ?_ AllReadyH.nil
    intro K hK
    go_simp
    refine hK.out _ _ hS1 (fun hS2 => ?_)
    clear hK K
    refine wpAnyH_take (i := 5) (v := .bool true) rfl (by kernel_rfl) (by kernel_rfl) (by kernel_rfl) (fun _ _ _ h => h) (Or.inl ⟨by kernel_rfl, fun w hSw => ?_⟩) hS2 ?_
    · go_simp
    try simp only [Act.put, List.getElem_toArray, List.getElem_cons_succ, List.getElem_cons_zero, List.setIfInBounds_toArray, List.set_cons_zero, List.set_cons_succ]
    refine wpAnyH_take (i := 6) (v := .bool true) rfl (by kernel_rfl) (by kernel_rfl) (by kernel_rfl) (fun _ _ _ h => h) (Or.inl ⟨by kernel_rfl, fun w hSw => ?_⟩) hS2 ?_
    · go_simp
    try simp only [Act.put, List.getElem_toArray, List.getElem_cons_succ, List.getElem_cons_zero, List.setIfInBounds_toArray, List.set_cons_zero, List.set_cons_succ]
    refine wpAnyH_take (i := 7) (v := .pointer none) rfl (by kernel_rfl) (by kernel_rfl) (by kernel_rfl) (fun _ _ _ h => h) (Or.inl ⟨by kernel_rfl, fun w hSw => ?_⟩) hS2 ?_
    · go_simp
    try simp only [Act.put, List.getElem_toArray, List.getElem_cons_succ, List.getElem_cons_zero, List.setIfInBounds_toArray, List.set_cons_zero, List.set_cons_succ]
    refine wpAnyH_ready (rs := [8]) (by kernel_rfl) (by simp) ?_
    refine AllReadyH.cons (by rfl) ?_ AllReadyH.nil
    intro K hK
    go_simp
    refine hK.out _ _ ⟨hS2.1.below ((Below.refl _ _).alloc (Nat.le_refl _) _), hS2.2.below ((Below.refl _ _).alloc (Nat.le_refl _) _)⟩ (fun hS3 => ?_)
    clear hK K
    refine wpAnyH_ready (rs := [9]) (by kernel_rfl) (by simp) ?_
    refine AllReadyH.cons (by rfl) ?_ AllReadyH.nil
    intro K hK
    go_simp
    refine (wnumber_none _ _ _ _ _ hS3.2).mono ?_
    rintro e w' ⟨rfl, rfl⟩
    refine hK.out _ _ hS3 (fun hS4 => ?_)
    clear hK K
    refine wpAnyH_ready (rs := [10]) (by kernel_rfl) (by simp) ?_
    refine AllReadyH.cons (by rfl) ?_ AllReadyH.nil
    intro K hK
    go_simp
    refine (num_c _ _).mono ?_
    rintro e w' ⟨rfl, rfl⟩
    refine hK.out _ _ hS4 (fun hS5 => ?_)
    clear hK K
    refine wpAnyH_take (i := 11) (v := .bool true) rfl (by kernel_rfl) (by kernel_rfl) (by kernel_rfl) (fun _ _ _ h => h) (Or.inl ⟨by kernel_rfl, fun w hSw => ?_⟩) hS5 ?_
    · go_simp
    try simp only [Act.put, List.getElem_toArray, List.getElem_cons_succ, List.getElem_cons_zero, List.setIfInBounds_toArray, List.set_cons_zero, List.set_cons_succ]
    refine wpAnyH_take (i := 12) (v := .bool true) rfl (by kernel_rfl) (by kernel_rfl) (by kernel_rfl) (fun _ _ _ h => h) (Or.inl ⟨by kernel_rfl, fun w hSw => ?_⟩) hS5 ?_
    · go_simp
    try simp only [Act.put, List.getElem_toArray, List.getElem_cons_succ, List.getElem_cons_zero, List.setIfInBounds_toArray, List.set_cons_zero, List.set_cons_succ]
    refine wpAnyH_take (i := 13) (v := .bool true) rfl (by kernel_rfl) (by kernel_rfl) (by kernel_rfl) (fun _ _ _ h => h) (Or.inl ⟨by kernel_rfl, fun w hSw => ?_⟩) hS5 ?_
    · go_simp
    try simp only [Act.put, List.getElem_toArray, List.getElem_cons_succ, List.getElem_cons_zero, List.setIfInBounds_toArray, List.set_cons_zero, List.set_cons_succ]
    refine wpAnyH_take (i := 14) (v := .pointer none) rfl (by kernel_rfl) (by kernel_rfl) (by kernel_rfl) (fun _ _ _ h => h) (Or.inl ⟨by kernel_rfl, fun w hSw => ?_⟩) hS5 ?_
    · go_simp
    try simp only [Act.put, List.getElem_toArray, List.getElem_cons_succ, List.getElem_cons_zero, List.setIfInBounds_toArray, List.set_cons_zero, List.set_cons_succ]
    refine wpAnyH_ready (rs := [15]) (by kernel_rfl) (by simp) ?_
    refine AllReadyH.cons (by rfl) ?_ AllReadyH.nil
    intro K hK
    go_simp
    refine (wtext_none _ _ _ hS5.2).mono ?_
    rintro e w' ⟨rfl, rfl⟩
    refine hK.out _ _ hS5 (fun hS6 => ?_)
    clear hK K
    refine wpAnyH_ready (rs := [16]) (by kernel_rfl) (by simp) ?_
    refine AllReadyH.cons (by rfl) ?_ AllReadyH.nil
    intro K hK
    go_simp
    refine (num_c _ _).mono ?_
    rintro e w' ⟨rfl, rfl⟩
    refine hK.out _ _ hS6 (fun hS7 => ?_)
    clear hK K
    refine wpAnyH_take (i := 17) (v := .bool true) rfl (by kernel_rfl) (by kernel_rfl) (by kernel_rfl) (fun _ _ _ h => h) (Or.inl ⟨by kernel_rfl, fun w hSw => ?_⟩) hS7 ?_
    · go_simp
    try simp only [Act.put, List.getElem_toArray, List.getElem_cons_succ, List.getElem_cons_zero, List.setIfInBounds_toArray, List.set_cons_zero, List.set_cons_succ]
    refine wpAnyH_take (i := 18) (v := .bool true) rfl (by kernel_rfl) (by kernel_rfl) (by kernel_rfl) (fun _ _ _ h => h) (Or.inl ⟨by kernel_rfl, fun w hSw => ?_⟩) hS7 ?_
    · go_simp
    try simp only [Act.put, List.getElem_toArray, List.getElem_cons_succ, List.getElem_cons_zero, List.setIfInBounds_toArray, List.set_cons_zero, List.set_cons_succ]
    refine wpAnyH_take (i := 19) (v := .bool true) rfl (by kernel_rfl) (by kernel_rfl) (by kernel_rfl) (fun _ _ _ h => h) (Or.inl ⟨by kernel_rfl, fun w hSw => ?_⟩) hS7 ?_
    · go_simp
    try simp only [Act.put, List.getElem_toArray, List.getElem_cons_succ, List.getElem_cons_zero, List.setIfInBounds_toArray, List.set_cons_zero, List.set_cons_succ]
    refine wpAnyH_take (i := 20) (v := .pointer none) rfl (by kernel_rfl) (by kernel_rfl) (by kernel_rfl) (fun _ _ _ h => h) (Or.inl ⟨by kernel_rfl, fun w hSw => ?_⟩) hS7 ?_
    · go_simp
    try simp only [Act.put, List.getElem_toArray, List.getElem_cons_succ, List.getElem_cons_zero, List.setIfInBounds_toArray, List.set_cons_zero, List.set_cons_succ]
    refine wpAnyH_ready (rs := [21]) (by kernel_rfl) (by simp) ?_
    refine AllReadyH.cons (by rfl) ?_ AllReadyH.nil
    intro K hK
    go_simp
    refine (wtruth_none _ _ _ hS7.2).mono ?_
    rintro e w' ⟨rfl, rfl⟩
    refine hK.out _ _ hS7 (fun hS8 => ?_)
    clear hK K
    refine wpAnyH_ready (rs := [22]) (by kernel_rfl) (by simp) ?_
    refine AllReadyH.cons (by rfl) ?_ AllReadyH.nil
    intro K hK
    go_simp
    refine (num_c _ _).mono ?_
    rintro e w' ⟨rfl, rfl⟩
    refine hK.out _ _ hS8 (fun hS9 => ?_)
    clear hK K
    refine wpAnyH_take (i := 23) (v := .bool true) rfl (by kernel_rfl) (by kernel_rfl) (by kernel_rfl) (fun _ _ _ h => h) (Or.inl ⟨by kernel_rfl, fun w hSw => ?_⟩) hS9 ?_
    · go_simp
    try simp only [Act.put, List.getElem_toArray, List.getElem_cons_succ, List.getElem_cons_zero, List.setIfInBounds_toArray, List.set_cons_zero, List.set_cons_succ]
    refine wpAnyH_take (i := 24) (v := .bool true) rfl (by kernel_rfl) (by kernel_rfl) (by kernel_rfl) (fun _ _ _ h => h) (Or.inl ⟨by kernel_rfl, fun w hSw => ?_⟩) hS9 ?_
    · go_simp
    try simp only [Act.put, List.getElem_toArray, List.getElem_cons_succ, List.getElem_cons_zero, List.setIfInBounds_toArray, List.set_cons_zero, List.set_cons_succ]
    refine wpAnyH_take (i := 25) (v := .bool true) rfl (by kernel_rfl) (by kernel_rfl) (by kernel_rfl) (fun _ _ _ h => h) (Or.inl ⟨by kernel_rfl, fun w hSw => ?_⟩) hS9 ?_
    · go_simp
    try simp only [Act.put, List.getElem_toArray, List.getElem_cons_succ, List.getElem_cons_zero, List.setIfInBounds_toArray, List.set_cons_zero, List.set_cons_succ]
    refine wpAnyH_take (i := 26) (v := .pointer none) rfl (by kernel_rfl) (by kernel_rfl) (by kernel_rfl) (fun _ _ _ h => h) (Or.inl ⟨by kernel_rfl, fun w hSw => ?_⟩) hS9 ?_
    · go_simp
    try simp only [Act.put, List.getElem_toArray, List.getElem_cons_succ, List.getElem_cons_zero, List.setIfInBounds_toArray, List.set_cons_zero, List.set_cons_succ]
    refine wpAnyH_ready (rs := [27]) (by kernel_rfl) (by simp) ?_
    refine AllReadyH.cons (by rfl) ?_ AllReadyH.nil
    intro K hK
    go_simp
    refine (wall_none _ _ hS9.2).mono ?_
    rintro e w' ⟨rfl, rfl⟩
    refine hK.out _ _ hS9 (fun hS10 => ?_)
    clear hK K
    refine wpAnyH_take (i := 28) (v := .int .i64 0) rfl (by kernel_rfl) (by kernel_rfl) (by kernel_rfl) (fun _ _ _ h => h) (Or.inl ⟨by kernel_rfl, fun w hSw => ?_⟩) hS10 ?_
    · go_simp
    try simp only [Act.put, List.getElem_toArray, List.getElem_cons_succ, List.getElem_cons_zero, List.setIfInBounds_toArray, List.set_cons_zero, List.set_cons_succ]
    refine wpAnyH_take (i := 29) (v := .bool true) rfl (by kernel_rfl) (by kernel_rfl) (by kernel_rfl) (fun _ _ _ h => h) (Or.inl ⟨by kernel_rfl, fun w hSw => ?_⟩) hS10 ?_
    · go_simp
    try simp only [Act.put, List.getElem_toArray, List.getElem_cons_succ, List.getElem_cons_zero, List.setIfInBounds_toArray, List.set_cons_zero, List.set_cons_succ]
    refine wpAnyH_take (i := 30) (v := .bool true) rfl (by kernel_rfl) (by kernel_rfl) (by kernel_rfl) (fun _ _ _ h => h) (Or.inl ⟨by kernel_rfl, fun w hSw => ?_⟩) hS10 ?_
    · go_simp
    try simp only [Act.put, List.getElem_toArray, List.getElem_cons_succ, List.getElem_cons_zero, List.setIfInBounds_toArray, List.set_cons_zero, List.set_cons_succ]
    refine wpAnyH_take (i := 31) (v := .bool true) rfl (by kernel_rfl) (by kernel_rfl) (by kernel_rfl) (fun _ _ _ h => h) (Or.inl ⟨by kernel_rfl, fun w hSw => ?_⟩) hS10 ?_
    · go_simp
    try simp only [Act.put, List.getElem_toArray, List.getElem_cons_succ, List.getElem_cons_zero, List.setIfInBounds_toArray, List.set_cons_zero, List.set_cons_succ]
    refine wpAnyH_ready (rs := [32]) (by kernel_rfl) (by simp) ?_
    refine AllReadyH.cons (by rfl) ?_ AllReadyH.nil
    intro K hK
    go_simp
    refine (works_c _).mono ?_
    rintro e wz ⟨rfl, hbz⟩
    have hSz : (fun W => LSt w W p v (.slice au m cu) l l ∧ NoWr W none) wz := ⟨hS10.1.below hbz, hS10.2.below hbz⟩
    clear hbz
    refine hK.out _ _ hSz (fun hS11 => ?_)
    clear hK K
    refine wpAnyH_take (i := 33) (v := .bool true) rfl (by kernel_rfl) (by kernel_rfl) (by kernel_rfl) (fun _ _ _ h => h) (Or.inl ⟨by kernel_rfl, fun w hSw => ?_⟩) hS11 ?_
    · go_simp
    try simp only [Act.put, List.getElem_toArray, List.getElem_cons_succ, List.getElem_cons_zero, List.setIfInBounds_toArray, List.set_cons_zero, List.set_cons_succ]
    refine wpAnyH_ready (rs := [34]) (by kernel_rfl) (by simp) ?_
    refine AllReadyH.cons (by rfl) ?_ AllReadyH.nil
    intro K hK
    go_simp
    refine hK.out _ _ hS11 (fun hS12 => ?_)
    clear hK K
    refine wpAnyH_done (by kernel_rfl) ?_ _
    go_wp2_with fail
    go_ret
    exact ⟨rfl, hS12.1.bel⟩
end Go.Proofs.Ytnecoapbpicloaa
