/- The walk of SuspectCopies. -/
import Derived.Test.YtgajbaipkhopkaaXq
namespace Go.Proofs.Ytgajbaipkhopkaa
open Go.RowKit
set_option linter.unusedSimpArgs false
set_option linter.unusedVariables false

theorem same_b (b b' : Nat) (s s' : St) (w : World) (hW : IsW w b s) (hW' : IsW w b' s') (hs : Good s) (hs' : Good s') :
    Calls Try.prog 23 #[.pointer (some ⟨b, 0, none⟩), .pointer (some ⟨b', 0, none⟩)] w fun e w' => e = .returned (.bool (sameB s s')) ∧ Below w.heap.size w w' :=
  (same_c b b' s s' w hW hW' hs hs').mono fun e w' ⟨he, n, hn⟩ => ⟨he, by rw [hn]; exact below_drewN (Below.refl _ _) n⟩
theorem c14 {w W W' : World} {b b2 G G2 : Nat} {sx sk : St} {csx cs : Array Value} {x y : Ac} (hb : Below W.heap.size W W')
    (h : (Blk W G2 35 csx ∧ Blk W G 35 cs ∧ IsW W b sx ∧ IsW W b2 sk) ∧ CP w W b G sx cs x y) : (Blk W' G2 35 csx ∧ Blk W' G 35 cs ∧ IsW W' b sx ∧ IsW W' b2 sk) ∧ CP w W' b G sx cs x y :=
  ⟨⟨h.1.1.below hb h.1.1.lt, h.1.2.1.below hb h.1.2.1.lt, h.1.2.2.1.below hb h.1.2.2.1.lt, h.1.2.2.2.below hb h.1.2.2.2.lt⟩, h.2.below hb⟩
theorem CP.start {w : World} (x y : Ac) : Blk ((w.alloc (.cells x.cells 24)).alloc (.cells y.cells 24)) w.heap.size 24 x.cells ∧ Blk ((w.alloc (.cells x.cells 24)).alloc (.cells y.cells 24)) (w.heap.size + 1) 24 y.cells ∧ Below w.heap.size w ((w.alloc (.cells x.cells 24)).alloc (.cells y.cells 24)) ∧ ((w.alloc (.cells x.cells 24)).alloc (.cells y.cells 24)).heap.size = w.heap.size + 2 :=
  ⟨(Blk.new _ _ _).alloc _, Blk.new2 _ _ _ _, ((Below.refl _ _).alloc (Nat.le_refl _) _).alloc (by simp) _, by simp⟩

set_option maxHeartbeats 8000000 in
set_option maxRecDepth 100000 in
theorem copies_walk (a : Option Addr) (n cap : Nat) (xs : List Ac) (x y : Ac) (w : World) (ha : Acts w a n xs) :
    Calls Try.prog 7 #[.slice a n cap, x.val, y.val] w fun e w' => e = .returned (.bool true) ∧ Below w.heap.size w w' := by
  have HA0 := Lib.hid ha; clear ha
  have hst := CP.start (w := w) x y
  have HG0 := Lib.hid (good_new new513)
  have HO0 := Lib.hid (good_new new523)
  rcases Nat.lt_or_ge 30 n with hn | hn
  · have hnn : (30 : Int) < (n : Int) := by omega
    unfold Ac.cells at hst
    unfold Ac.val
    go_enter Try.func7, Try.ntmps7
    go_wp2_with fail
    generalize (World.alloc _ _) = w2 at hst ⊢
    have HB := Lib.hid hst.2.2.1
    clear hst
    refine (works_any _).mono ?_; rintro e w1 ⟨rfl, hb⟩
    have HB1 := Lib.hid (HB.out.trans (hb.mono HB.out.size)); clear hb
    go_wp2_with fail
    go_ret
    exact ⟨rfl, HB1.out⟩
  · have hnn : ¬ ((n : Int) > 30) := by omega
    unfold Ac.cells at hst
    unfold Ac.val
    go_enter Try.func7, Try.ntmps7
    go_wp2_with fail
    generalize (World.alloc _ _) = w2 at hst ⊢
    have HST := Lib.hid hst
    clear hst
    refine (new_ok 5 1 3 _ new513).mono ?_
    rintro e w3 ⟨b, rfl, hbb, hW, hb⟩
    have HW3 := Lib.hid hW
    have HX3 := Lib.hid (HST.out.1.below hb HST.out.1.lt)
    have HY3 := Lib.hid (HST.out.2.1.below hb HST.out.2.1.lt)
    have HB3 := Lib.hid (HST.out.2.2.1.trans (hb.mono HST.out.2.2.1.size))
    have hb0 : w.heap.size + 1 < b := by have := HST.out.2.2.2; omega
    clear hW hb hbb HST
    go_wp2_with fail
    refine (rnew_ok 5 1 3 _ new513).mono ?_
    rintro e w4 ⟨⟨cs, rfl, hc⟩, hb⟩
    have HC := Lib.hid hc
    have HW4 := Lib.hid (HW3.out.below hb HW3.out.lt)
    have HX4 := Lib.hid (HX3.out.below hb HX3.out.lt)
    have HY4 := Lib.hid (HY3.out.below hb HY3.out.lt)
    have HB4 := Lib.hid (HB3.out.trans (hb.mono HB3.out.size))
    clear hc hb HW3 HX3 HY3 HB3
    obtain ⟨s0, hs0⟩ : ∃ s, s = St.new 5 1 3 (5 : Int).toNat := ⟨_, rfl⟩
    have HSS : Hid (s0.self = 1) := Lib.hid (by rw [hs0]; rfl)
    have e5 : St.new 5 1 3 (5 : Int).toNat = s0 := hs0.symm
    rw [e5] at HG0
    have HG := HG0
    have HW4' : Hid (IsW w4 b s0) := Lib.hid (by rw [← e5]; exact HW4.out)
    have HC' : Hid (RC cs s0) := Lib.hid (by rw [← e5]; exact HC.out)
    clear HG0 HW4 HC e5 hs0
    have HW4 := HW4'; have HC := HC'
    clear HW4' HC'
    go_wp2_with (refine wpl_store_blk rfl 35 _ _ rfl w4.heap.size 35 _ cs rfl rfl (Blk.new w4 35 _) (by rw [HC.out.size]; rfl) HC.out.info HC.out.one ?_; intro w5 hB5 hO5 hz5)
    have hb45 := ((Below.refl w4.heap.size w4).alloc (Nat.le_refl _) _).trans (hO5.below (B := w4.heap.size) (by simp) (Nat.le_refl _))
    have HP5 : Hid (CP w w5 b w4.heap.size s0 cs x y) := Lib.hid ⟨HW4.out.below hb45 HW4.out.lt, hB5, HB4.out.trans (hb45.mono HB4.out.size), HX4.out.below hb45 HX4.out.lt, HY4.out.below hb45 HY4.out.lt, hb0, HW4.out.lt⟩
    clear hB5 hO5 hz5 hb45 HW4 HX4 HY4 HB4
    generalize w4.heap.size = G at HP5 ⊢
    go_loopw [11] (fun i wr => ∃ (k : Nat) (cs' : Array Value), k ≤ n ∧ i = .int .i64 k ∧ CP w wr b G (after s0 xs k) cs' x y ∧ RC cs' (after s0 xs k)) (fun i _ => n - (intOf i).toNat)
    case atStart => exact ⟨0, cs, Nat.zero_le _, rfl, HP5.out, HC.out⟩
    case round =>
    obtain ⟨k, cs', hk, rfl, hP, hC'⟩ := hrel
    have HP := Lib.hid hP; have HC' := Lib.hid hC'
    clear hP hC'
    have HGK := Lib.hid (good_after HG.out xs k)
    by_cases hlt : k < n
    · have hlt' : (k : Int) < (n : Int) := by omega
      have j0 : (0 : Int) ≤ (k : Int) := by omega
      obtain ⟨z, hz⟩ : ∃ x, xs[k]? = some x := ⟨xs[k]'(by rw [HA0.out.1]; exact hlt), List.getElem?_eq_getElem _⟩
      obtain ⟨ga, off, rfl, -⟩ := HA0.out.2 k z hz
      have HE := Lib.hid (after_succ (s := s0) hz)
      have hq := cells_at HP.out.bel HA0.out hz
      clear hz
      go_wp2_with fail
      have HP := Lib.hid (HP.out.below ((Below.refl _ _).drew))
      refine wp_region_any (by kernel_rfl) ?_
      change wpAny _ _ _ _ _ _ _ (World.drew _)
      have hq' : wr.drew.cell? ⟨ga, off + k * 3, none⟩ = some (.bool z.hear) ∧ wr.drew.cell? ⟨ga, off + k * 3 + 1, none⟩ = some (.int .i64 z.place) ∧ wr.drew.cell? ⟨ga, off + k * 3 + 2, none⟩ = some (.int .i64 z.n) := hq
      clear hq
      generalize wr.drew = wA at HP hq' ⊢
      obtain ⟨q0, q1, q2⟩ := hq'
      refine wpAny_take (i := 0) (v := .pointer (some ⟨b, 0, none⟩)) rfl (by kernel_rfl) (by kernel_rfl) (by kernel_rfl) (fun _ _ _ h => h) (Or.inl ⟨by kernel_rfl, fun w => ?_⟩) ?_
      · go_simp
      try simp only [Act.put, List.getElem_toArray, List.getElem_cons_succ, List.getElem_cons_zero, List.setIfInBounds_toArray, List.set_cons_zero, List.set_cons_succ]
      refine wpAny_take (i := 2) (v := .slice (some ⟨ga, off, none⟩) n cap) rfl (by kernel_rfl) (by kernel_rfl) (by kernel_rfl) (fun _ _ _ h => h) (Or.inl ⟨by kernel_rfl, fun w => ?_⟩) ?_
      · go_simp
      try simp only [Act.put, List.getElem_toArray, List.getElem_cons_succ, List.getElem_cons_zero, List.setIfInBounds_toArray, List.set_cons_zero, List.set_cons_succ]
      refine wpAny_take (i := 3) (v := .int .i64 (k : Int)) rfl (by kernel_rfl) (by kernel_rfl) (by kernel_rfl) (fun _ _ _ h => h) (Or.inl ⟨by kernel_rfl, fun w => ?_⟩) ?_
      · go_simp
      try simp only [Act.put, List.getElem_toArray, List.getElem_cons_succ, List.getElem_cons_zero, List.setIfInBounds_toArray, List.set_cons_zero, List.set_cons_succ]
      refine wpAny_take (i := 4) (v := .pointer (some ⟨ga, off + k * 3, none⟩)) rfl (by kernel_rfl) (by kernel_rfl) (by kernel_rfl) (fun _ _ _ h => h) (Or.inl ⟨by kernel_rfl, fun w => ?_⟩) ?_
      · go_simp
      try simp only [Act.put, List.getElem_toArray, List.getElem_cons_succ, List.getElem_cons_zero, List.setIfInBounds_toArray, List.set_cons_zero, List.set_cons_succ]
      refine wpAny_ready (rs := [1, 5]) (by kernel_rfl) (by simp) ?_
      refine all_ready_yes (by rfl) (by kernel_rfl) ?_ ?_
      · intro K hK
        with_reducible refine wp_load_blk 35 (.tmp 9) ?_ G ?_ 35 cs' _ HP.out.blk Try.underlying35 ?_ HC'.out.info ?_
        · kernel_rfl
        · kernel_rfl
        · kernel_rfl
        simp only [Act.put, List.getElem_toArray, List.getElem_cons_succ, List.getElem_cons_zero, List.setIfInBounds_toArray, List.set_cons_zero, List.set_cons_succ]
        refine hK _ _ ?_
        clear hK K
        refine wpAny_ready (rs := [5]) (by kernel_rfl) (by simp) ?_
        refine AllReady.cons (by rfl) ?_ AllReady.nil
        intro K hK
        go_simp
        refine hK _ _ ?_
        clear hK K
        refine wpAny_ready (rs := [6]) (by kernel_rfl) (by simp) ?_
        refine AllReady.cons (by rfl) ?_ AllReady.nil
        intro K hK
        go_simp
        refine (act_c b _ cs' z _ HP.out.isw HGK.out.fair HC'.out).mono ?_
        rintro e wB ⟨⟨cs'', rfl, hc2⟩, hW2, hO2⟩
        have HC2 := Lib.hid hc2
        have HPM := Lib.hid (HP.out.act hW2 hO2)
        clear hc2 hW2 hO2
        refine hK _ _ ?_
        clear hK K
        refine wpAny_take (i := 7) (v := .tuple #[.agg cs'', .bool true]) rfl (by kernel_rfl) (by kernel_rfl) (by kernel_rfl) (fun _ _ _ h => h) (Or.inl ⟨by kernel_rfl, fun w => ?_⟩) ?_
        · go_simp
        try simp only [Act.put, List.getElem_toArray, List.getElem_cons_succ, List.getElem_cons_zero, List.setIfInBounds_toArray, List.set_cons_zero, List.set_cons_succ]
        refine wpAny_take (i := 8) (v := .agg cs'') rfl (by kernel_rfl) (by kernel_rfl) (by kernel_rfl) (fun _ _ _ h => h) (Or.inl ⟨by kernel_rfl, fun w => ?_⟩) ?_
        · go_simp
        try simp only [Act.put, List.getElem_toArray, List.getElem_cons_succ, List.getElem_cons_zero, List.setIfInBounds_toArray, List.set_cons_zero, List.set_cons_succ]
        refine wpAny_take (i := 9) (v := .bool true) rfl (by kernel_rfl) (by kernel_rfl) (by kernel_rfl) (fun _ _ _ h => h) (Or.inl ⟨by kernel_rfl, fun w => ?_⟩) ?_
        · go_simp
        try simp only [Act.put, List.getElem_toArray, List.getElem_cons_succ, List.getElem_cons_zero, List.setIfInBounds_toArray, List.set_cons_zero, List.set_cons_succ]
        refine wpAny_ready (rs := [10]) (by kernel_rfl) (by simp) ?_
        refine all_ready_yes (by rfl) (by kernel_rfl) ?_ AllReady.nil
        intro K hK
        with_reducible refine wp_store_blk 35 (.tmp 9) (.tmp 45) ?_ G 35 _ cs'' ?_ ?_ HPM.out.blk ?_ HC2.out.info HC2.out.one ?_
        · kernel_rfl
        · kernel_rfl
        · kernel_rfl
        · rw [HC2.out.size, HC'.out.size]
        intro w6 hB6 hO6 hz6
        have HPN := Lib.hid (HPM.out.put hB6 hO6)
        clear hB6 hO6 hz6
        simp only [Act.put, List.getElem_toArray, List.getElem_cons_succ, List.getElem_cons_zero, List.setIfInBounds_toArray, List.set_cons_zero, List.set_cons_succ]
        refine hK _ _ ?_
        clear hK K
        refine wpAny_done (by kernel_rfl) ?_ _
        go_wp2_with fail
        go_roundw
        case rel => exact ⟨k + 1, cs'', by omega, by go_num, HE.out ▸ HPN.out, HE.out ▸ HC2.out⟩
        case measure => simp [intOf]; omega
      refine AllReady.cons (by rfl) ?_ AllReady.nil
      intro K hK
      go_simp
      refine hK _ _ ?_
      clear hK K
      refine wpAny_ready (rs := [1]) (by kernel_rfl) (by simp) ?_
      refine all_ready_yes (by rfl) (by kernel_rfl) ?_ AllReady.nil
      intro K hK
      with_reducible refine wp_load_blk 35 (.tmp 9) ?_ G ?_ 35 cs' _ HP.out.blk Try.underlying35 ?_ HC'.out.info ?_
      · kernel_rfl
      · kernel_rfl
      · kernel_rfl
      simp only [Act.put, List.getElem_toArray, List.getElem_cons_succ, List.getElem_cons_zero, List.setIfInBounds_toArray, List.set_cons_zero, List.set_cons_succ]
      refine hK _ _ ?_
      clear hK K
      refine wpAny_ready (rs := [6]) (by kernel_rfl) (by simp) ?_
      refine AllReady.cons (by rfl) ?_ AllReady.nil
      intro K hK
      go_simp
      refine (act_c b _ cs' z _ HP.out.isw HGK.out.fair HC'.out).mono ?_
      rintro e wB ⟨⟨cs'', rfl, hc2⟩, hW2, hO2⟩
      have HC2 := Lib.hid hc2
      have HPM := Lib.hid (HP.out.act hW2 hO2)
      clear hc2 hW2 hO2
      refine hK _ _ ?_
      clear hK K
      refine wpAny_take (i := 7) (v := .tuple #[.agg cs'', .bool true]) rfl (by kernel_rfl) (by kernel_rfl) (by kernel_rfl) (fun _ _ _ h => h) (Or.inl ⟨by kernel_rfl, fun w => ?_⟩) ?_
      · go_simp
      try simp only [Act.put, List.getElem_toArray, List.getElem_cons_succ, List.getElem_cons_zero, List.setIfInBounds_toArray, List.set_cons_zero, List.set_cons_succ]
      refine wpAny_take (i := 8) (v := .agg cs'') rfl (by kernel_rfl) (by kernel_rfl) (by kernel_rfl) (fun _ _ _ h => h) (Or.inl ⟨by kernel_rfl, fun w => ?_⟩) ?_
      · go_simp
      try simp only [Act.put, List.getElem_toArray, List.getElem_cons_succ, List.getElem_cons_zero, List.setIfInBounds_toArray, List.set_cons_zero, List.set_cons_succ]
      refine wpAny_take (i := 9) (v := .bool true) rfl (by kernel_rfl) (by kernel_rfl) (by kernel_rfl) (fun _ _ _ h => h) (Or.inl ⟨by kernel_rfl, fun w => ?_⟩) ?_
      · go_simp
      try simp only [Act.put, List.getElem_toArray, List.getElem_cons_succ, List.getElem_cons_zero, List.setIfInBounds_toArray, List.set_cons_zero, List.set_cons_succ]
      refine wpAny_ready (rs := [10]) (by kernel_rfl) (by simp) ?_
      refine all_ready_yes (by rfl) (by kernel_rfl) ?_ AllReady.nil
      intro K hK
      with_reducible refine wp_store_blk 35 (.tmp 9) (.tmp 45) ?_ G 35 _ cs'' ?_ ?_ HPM.out.blk ?_ HC2.out.info HC2.out.one ?_
      · kernel_rfl
      · kernel_rfl
      · kernel_rfl
      · rw [HC2.out.size, HC'.out.size]
      intro w6 hB6 hO6 hz6
      have HPN := Lib.hid (HPM.out.put hB6 hO6)
      clear hB6 hO6 hz6
      simp only [Act.put, List.getElem_toArray, List.getElem_cons_succ, List.getElem_cons_zero, List.setIfInBounds_toArray, List.set_cons_zero, List.set_cons_succ]
      refine hK _ _ ?_
      clear hK K
      refine wpAny_done (by kernel_rfl) ?_ _
      go_wp2_with fail
      go_roundw
      case rel => exact ⟨k + 1, cs'', by omega, by go_num, HE.out ▸ HPN.out, HE.out ▸ HC2.out⟩
      case measure => simp [intOf]; omega
    obtain rfl : k = n := by omega
    obtain ⟨sk, hsk⟩ : ∃ s, s = after s0 xs k := ⟨_, rfl⟩
    have HSK : Hid (sk.self = 1) := Lib.hid (by rw [hsk, after_self]; exact HSS.out)
    rw [← hsk] at HGK HP HC'
    clear hsk
    go_wp2_with fail
    refine (copy_c b _ _ HP.out.isw HGK.out.fair.sane).mono ?_
    rintro e w6 ⟨⟨b2, rfl, hb2, hW6⟩, hb⟩
    have hgb2 : G < b2 := Nat.lt_of_lt_of_le HP.out.blk.lt hb2
    have HP6 := Lib.hid (HP.out.below hb)
    have HW6 := Lib.hid hW6
    clear hb2 hW6 hb
    go_wp2_with fail
    refine (new_ok 5 2 3 _ new523).mono ?_
    rintro e w7 ⟨b3, rfl, hb3, hW7, hb⟩
    have HP7 := Lib.hid (HP6.out.below hb)
    have HW7 := Lib.hid (HW6.out.below hb HW6.out.lt)
    have HV7 := Lib.hid hW7
    clear hb3 hW7 hb
    go_wp2_with fail
    refine (num_any _ _).mono ?_; rintro e w' ⟨rfl, rfl⟩
    go_wp2_with fail
    refine (same_c b b2 _ _ _ HP7.out.isw HW7.out HGK.out HGK.out).mono ?_
    rintro e w' ⟨rfl, m1, rfl⟩
    rw [sameB_self]
    have hbd := below_drewN (Below.refl w7.heap.size w7) m1
    have HP8 := Lib.hid (HP7.out.below hbd)
    have HW8 := Lib.hid (HW7.out.below hbd HW7.out.lt)
    have HV8 := Lib.hid (HV7.out.below hbd HV7.out.lt)
    clear hbd
    generalize w7.drewN m1 = w8 at HP8 HW8 HV8 ⊢
    go_wp2_with fail
    refine (same_c b b3 _ _ _ HP8.out.isw HV8.out HGK.out HO0.out).mono ?_
    rintro e w' ⟨rfl, m1, rfl⟩
    rw [same_other (s := sk) (s' := St.new 5 2 3 (5 : Int).toNat) (by rw [HSK.out]; decide)]
    have hbd := below_drewN (Below.refl w8.heap.size w8) m1
    have HPA := Lib.hid (HP8.out.below hbd)
    have HWA := Lib.hid (HW8.out.below hbd HW8.out.lt)
    clear hbd
    generalize w8.drewN m1 = wa at HPA HWA ⊢
    go_wp2_with (refine wpl_load_blk_g 35 _ rfl G rfl rfl 35 cs' _ HPA.out.blk Try.underlying35 rfl HC'.out.info ?_)
    refine (is_good b2 _ cs' _ HWA.out HGK.out HC'.out).mono ?_
    rintro e wb ⟨rfl, hb⟩
    have HPB := Lib.hid (HPA.out.below hb)
    have HWB := Lib.hid (HWA.out.below hb HWA.out.lt)
    clear hb
    go_wp2_with (first | (refine wpl_load_blk rfl 35 _ rfl G rfl 35 cs' _ HPB.out.blk Try.underlying35 rfl HC'.out.info ?_; obtain ⟨x0, x1, x2⟩ := HPB.out.cx))
    refine (act_c b _ cs' x _ HPB.out.isw HGK.out.fair HC'.out).mono ?_
    rintro e wc ⟨⟨csx, rfl, hcx⟩, hWc, hOc⟩
    clear x0 x1 x2
    have HCX := Lib.hid hcx
    have HPC := Lib.hid (HPB.out.act hWc hOc)
    have HWC := Lib.hid (HWB.out.far2 hOc (by have := HPB.out.o2; omega))
    have hgc := HPC.out.blk.lt
    have hb2c := HWC.out.lt
    have HGX := Lib.hid (good_act HGK.out x)
    obtain ⟨sx, hsx⟩ : ∃ s, s = actS sk x := ⟨_, rfl⟩
    rw [← hsx] at HGX HPC HCX
    clear hsx hcx hWc hOc
    obtain ⟨u, hu⟩ : ∃ u, sameB sx sk = u := ⟨_, rfl⟩
    have HU := Lib.hid hu
    clear hu
    go_wp2_with (refine wpl_store_blk rfl 35 _ _ rfl wc.heap.size 35 _ csx rfl rfl (Blk.new wc 35 _) (by rw [HCX.out.size]; rfl) HCX.out.info HCX.out.one ?_; intro wd hBd hOd hzd)
    have HPD := Lib.hid ((HPC.out.below ((Below.refl _ _).alloc (Nat.le_refl _) _)).far hOd hgc)
    have HWD := Lib.hid ((HWC.out.alloc _).far2 hOd (Nat.ne_of_lt hb2c))
    have HXD := Lib.hid hBd
    clear hBd hOd hzd
    generalize hG2 : wc.heap.size = G2 at HXD hgc hb2c ⊢
    clear hG2
    have hS0 := c14 (w := w) (b := b) (b2 := b2) (G := G) (G2 := G2) (sx := sx) (sk := sk) (csx := csx) (cs := cs') (x := x) (y := y) ((Below.refl wd.heap.size wd).drew) ⟨⟨HXD.out, HPD.out.blk, HPD.out.isw, HWD.out⟩, HPD.out⟩
    refine wp_region_held_drew (S := (fun W => (Blk W G2 35 csx ∧ Blk W G 35 cs' ∧ IsW W b sx ∧ IsW W b2 sk) ∧ CP w W b G sx cs' x y)) (by kernel_rfl) hS0 ?_
    intro hS0'
    refine wpAnyH_take (i := 0) (v := .bool true) rfl (by kernel_rfl) (by kernel_rfl) (by kernel_rfl) (fun _ _ _ h => h) (Or.inl ⟨by kernel_rfl, fun w hSw => ?_⟩) hS0' ?_
    · go_simp
    try simp only [Act.put, List.getElem_toArray, List.getElem_cons_succ, List.getElem_cons_zero, List.setIfInBounds_toArray, List.set_cons_zero, List.set_cons_succ]
    refine wpAnyH_take (i := 1) (v := .bool false) rfl (by kernel_rfl) (by kernel_rfl) (by kernel_rfl) (fun _ _ _ h => h) (Or.inl ⟨by kernel_rfl, fun w hSw => ?_⟩) hS0' ?_
    · go_simp
    try simp only [Act.put, List.getElem_toArray, List.getElem_cons_succ, List.getElem_cons_zero, List.setIfInBounds_toArray, List.set_cons_zero, List.set_cons_succ]
    refine wpAnyH_take (i := 2) (v := .bool false) rfl (by kernel_rfl) (by kernel_rfl) (by kernel_rfl) (fun _ _ _ h => h) (Or.inl ⟨by kernel_rfl, fun w hSw => ?_⟩) hS0' ?_
    · go_simp
    try simp only [Act.put, List.getElem_toArray, List.getElem_cons_succ, List.getElem_cons_zero, List.setIfInBounds_toArray, List.set_cons_zero, List.set_cons_succ]
    refine wpAnyH_take (i := 3) (v := .pointer (some ⟨b, 0, none⟩)) rfl (by kernel_rfl) (by kernel_rfl) (by kernel_rfl) (fun _ _ _ h => h) (Or.inl ⟨by kernel_rfl, fun w hSw => ?_⟩) hS0' ?_
    · go_simp
    try simp only [Act.put, List.getElem_toArray, List.getElem_cons_succ, List.getElem_cons_zero, List.setIfInBounds_toArray, List.set_cons_zero, List.set_cons_succ]
    refine wpAnyH_take (i := 4) (v := .pointer (some ⟨b2, 0, none⟩)) rfl (by kernel_rfl) (by kernel_rfl) (by kernel_rfl) (fun _ _ _ h => h) (Or.inl ⟨by kernel_rfl, fun w hSw => ?_⟩) hS0' ?_
    · go_simp
    try simp only [Act.put, List.getElem_toArray, List.getElem_cons_succ, List.getElem_cons_zero, List.setIfInBounds_toArray, List.set_cons_zero, List.set_cons_succ]
    refine wpAnyH_take (i := 6) (v := .agg csx) rfl (by kernel_rfl) (by kernel_rfl) (by kernel_rfl) (fun _ _ _ h => h) ?_ hS0' ?_
    · exact yieldsIf_load_blk (by kernel_rfl) 35 (.tmp 15) (by kernel_rfl) G2 (by kernel_rfl) 35 csx _ (fun _ h => h.1.1) Try.underlying35 rfl HCX.out.info
    try simp only [Act.put, List.getElem_toArray, List.getElem_cons_succ, List.getElem_cons_zero, List.setIfInBounds_toArray, List.set_cons_zero, List.set_cons_succ]
    refine wpAnyH_take (i := 7) (v := .agg cs') rfl (by kernel_rfl) (by kernel_rfl) (by kernel_rfl) (fun _ _ _ h => h) ?_ hS0' ?_
    · exact yieldsIf_load_blk (by kernel_rfl) 35 (.tmp 9) (by kernel_rfl) G (by kernel_rfl) 35 cs' _ (fun _ h => h.1.2.1) Try.underlying35 rfl HC'.out.info
    try simp only [Act.put, List.getElem_toArray, List.getElem_cons_succ, List.getElem_cons_zero, List.setIfInBounds_toArray, List.set_cons_zero, List.set_cons_succ]
    refine wpAnyH_take (i := 8) (v := .bool u) rfl (by kernel_rfl) (by kernel_rfl) (by kernel_rfl) (fun _ _ _ h => h) ?_ hS0' ?_
    · have q := fun W => run_eql35 HCX.out HC'.out HGX.out.wf HGK.out.wf W
      rw [HU.out] at q
      exact .inl ⟨by kernel_rfl, fun W _ => eql_op (q W) (by kernel_rfl) (by kernel_rfl) (by kernel_rfl)⟩
    try simp only [Act.put, List.getElem_toArray, List.getElem_cons_succ, List.getElem_cons_zero, List.setIfInBounds_toArray, List.set_cons_zero, List.set_cons_succ]
    refine wpAnyH_ready (rs := [5]) (by kernel_rfl) (by simp) ?_
    refine AllReadyH.cons (by rfl) ?_ AllReadyH.nil
    intro K hK
    go_simp
    refine (same_b b b2 _ _ _ hS0'.1.2.2.1 hS0'.1.2.2.2 HGX.out HGK.out).mono ?_
    rintro e wp ⟨rfl, hb⟩
    rw [HU.out]
    refine hK.out _ _ (c14 hb hS0') (fun hS1 => ?_)
    clear hK K
    refine wpAnyH_take (i := 9) (v := .bool false) rfl (by kernel_rfl) (by kernel_rfl) (by kernel_rfl) (fun _ _ _ h => h) (Or.inl ⟨by kernel_rfl, fun w hSw => ?_⟩) hS1 ?_
    · go_simp
    try simp only [Act.put, List.getElem_toArray, List.getElem_cons_succ, List.getElem_cons_zero, List.setIfInBounds_toArray, List.set_cons_zero, List.set_cons_succ]
    refine wpAnyH_take (i := 10) (v := .bool false) rfl (by kernel_rfl) (by kernel_rfl) (by kernel_rfl) (fun _ _ _ h => h) (Or.inl ⟨by kernel_rfl, fun w hSw => ?_⟩) hS1 ?_
    · go_simp
    try simp only [Act.put, List.getElem_toArray, List.getElem_cons_succ, List.getElem_cons_zero, List.setIfInBounds_toArray, List.set_cons_zero, List.set_cons_succ]
    refine wpAnyH_take (i := 11) (v := .bool false) rfl (by kernel_rfl) (by kernel_rfl) (by kernel_rfl) (fun _ _ _ h => h) (Or.inl ⟨by kernel_rfl, fun w hSw => ?_⟩) hS1 ?_
    · go_simp
    try simp only [Act.put, List.getElem_toArray, List.getElem_cons_succ, List.getElem_cons_zero, List.setIfInBounds_toArray, List.set_cons_zero, List.set_cons_succ]
    refine wpAnyH_take (i := 12) (v := .pointer (some ⟨b2, 0, none⟩)) rfl (by kernel_rfl) (by kernel_rfl) (by kernel_rfl) (fun _ _ _ h => h) (Or.inl ⟨by kernel_rfl, fun w hSw => ?_⟩) hS1 ?_
    · go_simp
    try simp only [Act.put, List.getElem_toArray, List.getElem_cons_succ, List.getElem_cons_zero, List.setIfInBounds_toArray, List.set_cons_zero, List.set_cons_succ]
    refine wpAnyH_take (i := 13) (v := .pointer (some ⟨b, 0, none⟩)) rfl (by kernel_rfl) (by kernel_rfl) (by kernel_rfl) (fun _ _ _ h => h) (Or.inl ⟨by kernel_rfl, fun w hSw => ?_⟩) hS1 ?_
    · go_simp
    try simp only [Act.put, List.getElem_toArray, List.getElem_cons_succ, List.getElem_cons_zero, List.setIfInBounds_toArray, List.set_cons_zero, List.set_cons_succ]
    refine wpAnyH_take (i := 15) (v := .agg csx) rfl (by kernel_rfl) (by kernel_rfl) (by kernel_rfl) (fun _ _ _ h => h) ?_ hS1 ?_
    · exact yieldsIf_load_blk (by kernel_rfl) 35 (.tmp 15) (by kernel_rfl) G2 (by kernel_rfl) 35 csx _ (fun _ h => h.1.1) Try.underlying35 rfl HCX.out.info
    try simp only [Act.put, List.getElem_toArray, List.getElem_cons_succ, List.getElem_cons_zero, List.setIfInBounds_toArray, List.set_cons_zero, List.set_cons_succ]
    refine wpAnyH_take (i := 16) (v := .agg cs') rfl (by kernel_rfl) (by kernel_rfl) (by kernel_rfl) (fun _ _ _ h => h) ?_ hS1 ?_
    · exact yieldsIf_load_blk (by kernel_rfl) 35 (.tmp 9) (by kernel_rfl) G (by kernel_rfl) 35 cs' _ (fun _ h => h.1.2.1) Try.underlying35 rfl HC'.out.info
    try simp only [Act.put, List.getElem_toArray, List.getElem_cons_succ, List.getElem_cons_zero, List.setIfInBounds_toArray, List.set_cons_zero, List.set_cons_succ]
    refine wpAnyH_take (i := 17) (v := .bool u) rfl (by kernel_rfl) (by kernel_rfl) (by kernel_rfl) (fun _ _ _ h => h) ?_ hS1 ?_
    · have q := fun W => run_eql35 HCX.out HC'.out HGX.out.wf HGK.out.wf W
      rw [HU.out] at q
      exact .inl ⟨by kernel_rfl, fun W _ => eql_op (q W) (by kernel_rfl) (by kernel_rfl) (by kernel_rfl)⟩
    try simp only [Act.put, List.getElem_toArray, List.getElem_cons_succ, List.getElem_cons_zero, List.setIfInBounds_toArray, List.set_cons_zero, List.set_cons_succ]
    refine wpAnyH_ready (rs := [14]) (by kernel_rfl) (by simp) ?_
    refine AllReadyH.cons (by rfl) ?_ AllReadyH.nil
    intro K hK
    go_simp
    refine (same_b b2 b _ _ _ hS1.1.2.2.2 hS1.1.2.2.1 HGK.out HGX.out).mono ?_
    rintro e wq ⟨rfl, hb⟩
    rw [sameB_comm, HU.out]
    refine hK.out _ _ (c14 hb hS1) (fun hS2 => ?_)
    clear hK K
    refine wpAnyH_take (i := 18) (v := .bool false) rfl (by kernel_rfl) (by kernel_rfl) (by kernel_rfl) (fun _ _ _ h => h) (Or.inl ⟨by kernel_rfl, fun w hSw => ?_⟩) hS2 ?_
    · go_simp
    try simp only [Act.put, List.getElem_toArray, List.getElem_cons_succ, List.getElem_cons_zero, List.setIfInBounds_toArray, List.set_cons_zero, List.set_cons_succ]
    refine wpAnyH_take (i := 19) (v := .bool false) rfl (by kernel_rfl) (by kernel_rfl) (by kernel_rfl) (fun _ _ _ h => h) (Or.inl ⟨by kernel_rfl, fun w hSw => ?_⟩) hS2 ?_
    · go_simp
    try simp only [Act.put, List.getElem_toArray, List.getElem_cons_succ, List.getElem_cons_zero, List.setIfInBounds_toArray, List.set_cons_zero, List.set_cons_succ]
    refine wpAnyH_done (by kernel_rfl) ?_ _
    go_wp2_with (first | (refine wpl_load_blk rfl 35 _ rfl G rfl 35 cs' _ hS2.1.2.1 Try.underlying35 rfl HC'.out.info ?_; obtain ⟨y0, y1, y2⟩ := hS2.2.cy))
    refine (act_c b2 _ cs' y _ hS2.1.2.2.2 HGK.out.fair HC'.out).mono ?_
    rintro e w9 ⟨⟨csy, rfl, hcy⟩, hW9, hO9⟩
    clear y0 y1 y2
    have HCY := Lib.hid hcy
    have HP9 := Lib.hid (hS2.2.far hO9 hgb2)
    have HX9 := Lib.hid (hO9.blk hS2.1.1 (by omega))
    have HW9 := Lib.hid hW9
    have hz9 : G2 < w9.heap.size := HX9.out.lt
    have hz9' : b2 < w9.heap.size := HW9.out.lt
    have hz9g : G < w9.heap.size := HP9.out.blk.lt
    clear hcy hO9 hW9
    go_wp2_with (first | (refine wpl_store_blk rfl 35 _ _ rfl w9.heap.size 35 _ csy rfl rfl (Blk.new w9 35 _) (by rw [HCY.out.size]; rfl) HCY.out.info HCY.out.one ?_; intro w10 hB10 hO10 hz10; have HP10 := Lib.hid ((HP9.out.below ((Below.refl _ _).alloc (Nat.le_refl _) _)).far hO10 hz9g); have HX10 := Lib.hid (hO10.blk (HX9.out.alloc _) (Nat.ne_of_lt hz9)); have HW10 := Lib.hid ((HW9.out.alloc _).far2 hO10 (Nat.ne_of_lt hz9')); have HY10 := Lib.hid hB10; clear hB10 hO10 hz10) | (refine wpl_load_blk_g 35 _ rfl G2 rfl rfl 35 csx _ HX10.out Try.underlying35 rfl HCX.out.info ?_))
    refine (is_good b _ csx _ HP10.out.isw HGX.out HCX.out).mono ?_
    rintro e w11 ⟨rfl, hb⟩
    have HP11 := Lib.hid (HP10.out.below hb)
    have HW11 := Lib.hid (HW10.out.below hb HW10.out.lt)
    have HY11 := Lib.hid (HY10.out.below hb HY10.out.lt)
    clear hb
    go_wp2_with (refine wpl_load_blk_g 35 _ rfl w9.heap.size rfl rfl 35 csy _ HY11.out Try.underlying35 rfl HCY.out.info ?_)
    refine (is_good b2 _ csy _ HW11.out (good_act HGK.out y) HCY.out).mono ?_
    rintro e w12 ⟨rfl, hb⟩
    have HB12 := Lib.hid (HP11.out.bel.trans (hb.mono HP11.out.bel.size))
    clear hb
    go_wp2_with fail
    refine (works_any _).mono ?_; rintro e w13 ⟨rfl, hb⟩
    have HB13 := Lib.hid (HB12.out.trans (hb.mono HB12.out.size))
    clear hb
    go_wp2_with fail
    go_ret
    exact ⟨rfl, HB13.out⟩

/-- A call that comes in. -/
theorem act_open {H : Type} {enc : TypeId × Value → H} {w : World} {base b0 : Nat} {spare : Nat → Bool} {held : Bool} {r : Reach} {v : Value} {d : DataW H} {p : List MemPlace}
    (hv : Value.okWide Try.prog w r b0 24 v) (h : DataW.Trod enc Try.prog w base spare held 24 v d p) : ∃ x : Ac, v = x.val := by
  obtain ⟨cs, rfl, hsz⟩ := Go.WideShapes.okWide_struct Try.underlying24 hv
  obtain ⟨fuel, hf⟩ := h
  obtain ⟨x, c0, c1, c2⟩ := act_cells hf
  refine ⟨x, ?_⟩
  have hl : cs.size = 3 := hsz.trans cells24
  unfold Ac.val
  congr 1
  apply Array.ext_getElem?
  intro i
  simp only [Value.cells] at c0 c1 c2
  rcases (by omega : i = 0 ∨ i = 1 ∨ i = 2 ∨ 3 ≤ i) with rfl | rfl | rfl | hi
  · simpa using c0
  · simpa using c1
  · simpa using c2
  · rw [Array.getElem?_eq_none (by omega), Array.getElem?_eq_none (by simpa using hi)]
end Go.Proofs.Ytgajbaipkhopkaa
