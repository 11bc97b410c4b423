/- The walk of BlakeKeyed. -/
import Derived.Test.YticgknjjhkgggaaWx
namespace Go.Proofs.Yticgknjjhkgggaa
open Go.RowKit
set_option linter.unusedSimpArgs false
set_option linter.unusedVariables false

/-- Bytes copied, with one sign more behind. -/
theorem own_cell {w : World} {base : Nat} {a : Option Addr} {n c : Nat} {l : List By} {x : By} (h : OwnB w base (.slice a (n + 1) c) (l ++ [x])) (hl : l.length = n) : ∃ g, a = some ⟨g, 0, none⟩ ∧ base ≤ g ∧ n + 1 ≤ c ∧ w.cell? ⟨g, n, none⟩ = some (.int .u8 (x.toNat : Int)) ∧ Bys w a n l := by
  obtain ⟨ad, cap, e, h1, h2, h3, h4⟩ := own_form h
  have hll : (l ++ [x]).length = n + 1 := by rw [List.length_append, hl]; rfl
  rw [hll] at e h1 h4
  injection e with e1 e2 e3
  cases ad with
  | none => have := h2 rfl; omega
  | some g =>
    refine ⟨g, e1, h3 g rfl, by omega, ?_, ?_⟩
    · obtain ⟨g', off, e', _, hc⟩ := h4.2 n x (by simp [← hl])
      injection e' with e'
      injection e' with e4 e5
      subst e4; subst e5
      simpa using hc
    · have := h4.take n (by omega)
      rw [List.take_left' hl] at this
      rw [e1]
      exact this
set_option maxRecDepth 100000 in
set_option maxHeartbeats 4000000 in
theorem keyeds_walk (size : Int) (a : Option Addr) (n c : Nat) (key : List By) (pa : Option Addr) (pn pc : Nat) (ps : List (List By)) (w : World) (hk : Bys w a n key) (h : PrsX w pa pn ps) : Calls Try.prog 6 #[.int .i64 size, .slice a n c, .slice pa pn pc] w fun e w' => e = .returned (.bool true) ∧ Below w.heap.size w w' := by
  have H := Lib.hid h
  have HK := Lib.hid hk
  have HKN := Lib.hid hk.1
  clear h hk
  go_enter Try.func6, Try.ntmps6
  go_wp2_with fail
  refine (joined_c pa pn pc ps _ H.out).mono ?_
  rintro e w2 ⟨v, ok, rfl, hb, hok⟩
  have HB := Lib.hid hb
  have HOK := Lib.hid hok
  clear hb hok
  by_cases hcs : ok = false ∨ 100 < n
  · have hex : Calls Try.prog 12 #[] w2 fun e w' => e = .returned (.bool true) ∧ Below w2.heap.size w2 w' := works_c w2
    have HEX := Lib.hid hex
    clear hex
    rcases hcs with rfl | hn
    · go_wp2_with fail
      refine HEX.out.mono ?_
      rintro e w3 ⟨rfl, hb⟩
      have HB3 := Lib.hid (HB.out.trans (hb.mono HB.out.size))
      clear hb
      go_wp2_with fail
      go_ret
      exact ⟨rfl, HB3.out⟩
    · have hn' : (100 : Int) < (n : Int) := by omega
      cases ok
      all_goals
        go_wp2_with fail
        refine HEX.out.mono ?_
        rintro e w3 ⟨rfl, hb⟩
        have HB3 := Lib.hid (HB.out.trans (hb.mono HB.out.size))
        clear hb
        go_wp2_with fail
        go_ret
        exact ⟨rfl, HB3.out⟩
  · obtain rfl : ok = true := by cases ok <;> simp_all
    have hn100 : n ≤ 100 := by omega
    have hn' : ¬ (100 : Int) < (n : Int) := by omega
    clear hcs
    obtain ⟨hown, hn20, hl200⟩ := HOK.out rfl
    obtain ⟨b, hbd⟩ : ∃ b, b = ps.flatten := ⟨_, rfl⟩
    have hbl : b.length ≤ 4000 := by
      rw [hbd]
      have := flat_bound ps 200 hl200
      have := H.out.1
      omega
    rw [← hbd] at hown
    obtain ⟨ba, bc, rfl, _, hvb⟩ := hown.bys
    have HPr := Lib.hid ((H.out.prs (fun p hp => by have := hl200 p hp; omega)).below HB.out)
    obtain ⟨m, hm⟩ : ∃ m, m = b.length := ⟨_, rfl⟩
    rw [← hm] at hvb hbl ⊢
    have HVB := Lib.hid hvb
    have HBD := Lib.hid hbd
    have HMm := Lib.hid hm
    have HK := Lib.hid (HK.out.below HB.out)
    clear hown hvb hl200 hm HOK hbd
    have HE := Lib.hid (own_empty w2)
    have HK3 := Lib.hid (HK.out.below ((Below.refl w2.heap.size w2).alloc (Nat.le_refl _) (.cells #[] 5)))
    go_wp2_with (at_builtin; refine wpl_append_bys rfl (.tmp 25) (.tmp 26) rfl w2.heap.size _ [] rfl HE.out a n c key rfl HK3.out ?c1 ?c2 ?_)
    case c1 => simp; omega
    case c2 => simp
    intro v3 w3 hown3 hg3 _
    have hb3 := own_grown HE.out hg3 (Nat.le_refl _) (by simp)
    have hb23 : Below w2.heap.size w2 w3 := ((Below.refl w2.heap.size w2).alloc (Nat.le_refl _) (.cells #[] 5)).trans hb3
    have HO3 := Lib.hid (hown3.below ((Below.refl w3.heap.size w3).alloc (Nat.le_refl _) (.cells #[.int .u8 77] 5)))
    have HL3 := Lib.hid (Bys.lit (W := w3) (cs := #[.int .u8 77]) (l := [77#8]) (n := 1) 5 rfl rfl)
    have HB3 := Lib.hid (hb23.alloc hb23.size (.cells #[.int .u8 77] 5))
    have hz3 := hb23.size
    clear hown3 hg3 hb3 hb23 HE HK3
    go_wp2_with (at_builtin; refine wpl_append_bys rfl (.tmp 27) (.tmp 28) rfl w2.heap.size _ key rfl HO3.out (some ⟨w3.heap.size, 0, none⟩) 1 1 [77#8] rfl HL3.out ?c1 ?c2 ?_)
    case c1 => have := HKN.out; omega
    case c2 => simp; omega
    intro v4 w4 hown4 hg4 _
    have hb4 := own_grown HO3.out hg4 (Nat.le_refl _) (by simp; omega)
    have hb24 := HB3.out.trans hb4
    obtain ⟨ma, mc, rfl, hmc, _⟩ := hown4.bys
    have hl1 : (key ++ [77#8]).length = n + 1 := by rw [List.length_append, HKN.out]; rfl
    rw [hl1] at hown4 hmc ⊢
    obtain ⟨gm, rfl, hgm, _, hc77, hmb⟩ := own_cell hown4 HKN.out
    have HK4 := Lib.hid (HK.out.below hb24)
    have HV4 := Lib.hid (HVB.out.below hb24)
    have HP4 := Lib.hid (HPr.out.below hb24)
    have HB4 := Lib.hid (HB.out.trans (hb24.mono HB.out.size))
    have HMB := Lib.hid hmb
    have H77 := Lib.hid hc77
    have k1 : ¬ (mc : Int) < (n : Int) := by omega
    have k2 : (n : Int) ≤ (mc : Int) := by omega
    have k3 : ¬ (mc : Int) < (n : Int) + 1 := by omega
    have k4 : (n : Int) + 1 ≤ (mc : Int) := by omega
    clear hown4 hg4 hb4 hb24 hc77 hmb HO3 HL3 HB3 HB HK HVB HPr hl1
    go_wp2_with fail
    have hneq : ∀ (l : List By), ((strOf l).toList == (strOf l).toList) = true := fun l => by rw [str_eq]; simp
    by_cases hr : rightB size n = true
    · obtain ⟨hr1, hr2, hr3⟩ : 1 ≤ size ∧ size ≤ 32 ∧ n ≤ 32 := by unfold rightB at hr; simpa using hr
      obtain ⟨wide, rfl⟩ : ∃ wide : Nat, size = (wide : Int) := ⟨size.toNat, by omega⟩
      have h1 : 1 ≤ wide := by omega
      have h2 : wide ≤ 32 := by omega
      have h3 : n ≤ 32 := hr3
      have HRR := Lib.hid hr
      clear hr hr1 hr2 hr3
      refine (keyed_c wide _ n mc key pa pn pc ps _ HMB.out h1 h2 h3 HP4.out (by omega) (by rw [← HBD.out, ← HMm.out]; omega)).mono ?_
      rintro e w5 ⟨v, rfl, hv, hb5⟩
      obtain ⟨KS, hKS⟩ : ∃ K, K = keyed wide key b := ⟨_, rfl⟩
      rw [← HBD.out, ← hKS] at hv
      have hKL : KS.length = wide := by rw [hKS]; exact keyed_len _ _ _ h2
      have HKK : Hid (keyed wide key b = KS) := Lib.hid hKS.symm
      obtain ⟨sa, sc, rfl, _, hsb⟩ := hv.bys
      rw [hKL] at hsb ⊢
      have HSB := Lib.hid hsb
      have hs1 := run_str w5 (some ⟨gm, 0, none⟩) n mc key (HMB.out.below hb5)
      have hs2 := run_str w5 a n c key (HK4.out.below hb5)
      have hc7 : w5.cell? ⟨gm, n, none⟩ = some (.int .u8 77) := (hb5.cell (p := ⟨gm, n, none⟩) (cell_lt H77.out)).trans H77.out
      have HK5 := Lib.hid (HK4.out.below hb5)
      have HV5 := Lib.hid (HV4.out.below hb5)
      have HB5 := Lib.hid (HB4.out.trans (hb5.mono HB4.out.size))
      clear hv hb5 hKS hsb hKL
      go_wp2_with fail
      refine (right_c _ a n c _).mono ?_
      rintro e w' ⟨rfl, rfl⟩
      rw [HRR.out]
      go_wp2_with fail
      have HS := Lib.hid (⟨HSB.out.below (Below.refl w5.heap.size w5).drew, HK5.out.below (Below.refl w5.heap.size w5).drew, HV5.out.below (Below.refl w5.heap.size w5).drew⟩ : Bys w5.drew sa wide KS ∧ Bys w5.drew a n key ∧ Bys w5.drew ba m b)
      have HB := Lib.hid HB5.out.drew
      clear hs1 hs2 hc7
      have hS0 : Bys w5.drew sa wide KS ∧ Bys w5.drew a n key ∧ Bys w5.drew ba m b := HS.out
      refine wp_region_held_drew (S := (fun W => Bys W sa wide KS ∧ Bys W a n key ∧ Bys W ba m b)) (by kernel_rfl) hS0 ?_
      intro hS0'
      generalize w5.drew = wA at hS0' HB HS ⊢
      refine wpAnyH_take (i := 0) (v := .slice sa wide sc) rfl (by kernel_rfl) (by kernel_rfl) (by kernel_rfl) (fun _ _ _ h => h) (Or.inl ⟨by kernel_rfl, fun w hSw => ?_⟩) hS0' ?_
      · go_simp
      try simp only [Act.put, List.getElem_toArray, List.getElem_cons_succ, List.getElem_cons_zero, List.setIfInBounds_toArray, List.set_cons_zero, List.set_cons_succ]
      refine wpAnyH_take (i := 1) (v := .string (strOf KS)) rfl (by kernel_rfl) (by kernel_rfl) (by kernel_rfl) (fun _ _ _ h => h) (Or.inl ⟨by kernel_rfl, fun w hSw => ?_⟩) hS0' ?_
      · have hs1 := run_str w sa wide sc KS hSw.1
        clear hSw
        go_simp
      try simp only [Act.put, List.getElem_toArray, List.getElem_cons_succ, List.getElem_cons_zero, List.setIfInBounds_toArray, List.set_cons_zero, List.set_cons_succ]
      refine wpAnyH_take (i := 2) (v := .int .i64 (wide : Int)) rfl (by kernel_rfl) (by kernel_rfl) (by kernel_rfl) (fun _ _ _ h => h) (Or.inl ⟨by kernel_rfl, fun w hSw => ?_⟩) hS0' ?_
      · go_simp
      try simp only [Act.put, List.getElem_toArray, List.getElem_cons_succ, List.getElem_cons_zero, List.setIfInBounds_toArray, List.set_cons_zero, List.set_cons_succ]
      refine wpAnyH_take (i := 3) (v := .slice a n c) rfl (by kernel_rfl) (by kernel_rfl) (by kernel_rfl) (fun _ _ _ h => h) (Or.inl ⟨by kernel_rfl, fun w hSw => ?_⟩) hS0' ?_
      · go_simp
      try simp only [Act.put, List.getElem_toArray, List.getElem_cons_succ, List.getElem_cons_zero, List.setIfInBounds_toArray, List.set_cons_zero, List.set_cons_succ]
      refine wpAnyH_take (i := 4) (v := .slice ba m bc) rfl (by kernel_rfl) (by kernel_rfl) (by kernel_rfl) (fun _ _ _ h => h) (Or.inl ⟨by kernel_rfl, fun w hSw => ?_⟩) hS0' ?_
      · go_simp
      try simp only [Act.put, List.getElem_toArray, List.getElem_cons_succ, List.getElem_cons_zero, List.setIfInBounds_toArray, List.set_cons_zero, List.set_cons_succ]
      refine wpAnyH_ready (rs := [5]) (by kernel_rfl) (by simp) ?_
      refine AllReadyH.cons (by rfl) ?_ AllReadyH.nil
      intro K hK
      go_simp
      refine (rkeyed_c wide a n c key ba m bc b _ hS0'.2.1 h1 h2 h3 hS0'.2.2 (by omega)).mono ?_
      rintro e wm1 ⟨v1, rfl, hv1, hb⟩
      have HB := Lib.hid (HB.out.trans (hb.mono HB.out.size))
      have HS := Lib.hid (⟨HS.out.1.below hb, HS.out.2.1.below hb, HS.out.2.2.below hb⟩ : Bys _ sa wide KS ∧ Bys _ a n key ∧ Bys _ ba m b)
      rw [HKK.out] at hv1
      obtain ⟨ra, rc, rfl, _, hrb⟩ := hv1.bys
      have hs4 := run_str wm1 ra _ rc KS hrb
      clear hb hv1 hrb
      refine hK.out _ _ HS.out (fun hS1 => ?_)
      clear hK K
      refine wpAnyH_ready (rs := [6]) (by kernel_rfl) (by simp) ?_
      refine AllReadyH.cons (by rfl) ?_ AllReadyH.nil
      intro K hK
      go_simp
      clear hs4
      refine hK.out _ _ HS.out (fun hS2 => ?_)
      clear hK K
      refine wpAnyH_ready (rs := [7]) (by kernel_rfl) (by simp) ?_
      refine AllReadyH.cons (by rfl) ?_ AllReadyH.nil
      intro K hK
      go_simp
      refine hK.out _ _ HS.out (fun hS3 => ?_)
      clear hK K
      refine wpAnyH_take (i := 8) (v := .bool true) rfl (by kernel_rfl) (by kernel_rfl) (by kernel_rfl) (fun _ _ _ h => h) (Or.inl ⟨by kernel_rfl, fun w hSw => ?_⟩) hS3 ?_
      · go_simp
      try simp only [Act.put, List.getElem_toArray, List.getElem_cons_succ, List.getElem_cons_zero, List.setIfInBounds_toArray, List.set_cons_zero, List.set_cons_succ]
      refine wpAnyH_take (i := 9) (v := .int .i64 0) rfl (by kernel_rfl) (by kernel_rfl) (by kernel_rfl) (fun _ _ _ h => h) (Or.inl ⟨by kernel_rfl, fun w hSw => ?_⟩) hS3 ?_
      · go_simp
      try simp only [Act.put, List.getElem_toArray, List.getElem_cons_succ, List.getElem_cons_zero, List.setIfInBounds_toArray, List.set_cons_zero, List.set_cons_succ]
      refine wpAnyH_ready (rs := [10]) (by kernel_rfl) (by simp) ?_
      refine AllReadyH.cons (by rfl) ?_ AllReadyH.nil
      intro K hK
      go_simp
      refine (num_c _ _).mono ?_
      rintro e w' ⟨rfl, rfl⟩
      refine hK.out _ _ HS.out (fun hS4 => ?_)
      clear hK K
      refine wpAnyH_take (i := 11) (v := .bool true) rfl (by kernel_rfl) (by kernel_rfl) (by kernel_rfl) (fun _ _ _ h => h) (Or.inl ⟨by kernel_rfl, fun w hSw => ?_⟩) hS4 ?_
      · go_simp
      try simp only [Act.put, List.getElem_toArray, List.getElem_cons_succ, List.getElem_cons_zero, List.setIfInBounds_toArray, List.set_cons_zero, List.set_cons_succ]
      refine wpAnyH_take (i := 12) (v := .bool true) rfl (by kernel_rfl) (by kernel_rfl) (by kernel_rfl) (fun _ _ _ h => h) (Or.inl ⟨by kernel_rfl, fun w hSw => ?_⟩) hS4 ?_
      · go_simp
      try simp only [Act.put, List.getElem_toArray, List.getElem_cons_succ, List.getElem_cons_zero, List.setIfInBounds_toArray, List.set_cons_zero, List.set_cons_succ]
      refine wpAnyH_take (i := 13) (v := .bool true) rfl (by kernel_rfl) (by kernel_rfl) (by kernel_rfl) (fun _ _ _ h => h) (Or.inl ⟨by kernel_rfl, fun w hSw => ?_⟩) hS4 ?_
      · go_simp
      try simp only [Act.put, List.getElem_toArray, List.getElem_cons_succ, List.getElem_cons_zero, List.setIfInBounds_toArray, List.set_cons_zero, List.set_cons_succ]
      refine wpAnyH_ready (rs := [14]) (by kernel_rfl) (by simp) ?_
      refine AllReadyH.cons (by rfl) ?_ AllReadyH.nil
      intro K hK
      go_simp
      refine (works_c _).mono ?_
      rintro e wm3 ⟨rfl, hb⟩
      have HB := Lib.hid (HB.out.trans (hb.mono HB.out.size))
      have HS := Lib.hid (⟨HS.out.1.below hb, HS.out.2.1.below hb, HS.out.2.2.below hb⟩ : Bys _ sa wide KS ∧ Bys _ a n key ∧ Bys _ ba m b)
      clear hb
      refine hK.out _ _ HS.out (fun hS5 => ?_)
      clear hK K
      refine wpAnyH_take (i := 15) (v := .bool true) rfl (by kernel_rfl) (by kernel_rfl) (by kernel_rfl) (fun _ _ _ h => h) (Or.inl ⟨by kernel_rfl, fun w hSw => ?_⟩) hS5 ?_
      · go_simp
      try simp only [Act.put, List.getElem_toArray, List.getElem_cons_succ, List.getElem_cons_zero, List.setIfInBounds_toArray, List.set_cons_zero, List.set_cons_succ]
      refine wpAnyH_take (i := 16) (v := .bool true) rfl (by kernel_rfl) (by kernel_rfl) (by kernel_rfl) (fun _ _ _ h => h) (Or.inl ⟨by kernel_rfl, fun w hSw => ?_⟩) hS5 ?_
      · go_simp
      try simp only [Act.put, List.getElem_toArray, List.getElem_cons_succ, List.getElem_cons_zero, List.setIfInBounds_toArray, List.set_cons_zero, List.set_cons_succ]
      refine wpAnyH_done (by kernel_rfl) ?_ _
      go_wp2_with fail
      go_ret
      exact ⟨rfl, HB.out⟩
    · have hrf : rightB size n = false := by simpa using hr
      have HRR := Lib.hid hrf
      clear hr hrf
      refine (keyed_bad size _ n mc pa pn pc _ HRR.out).mono ?_
      rintro e w' ⟨rfl, rfl⟩
      have hs1 := run_str w4 (some ⟨gm, 0, none⟩) n mc key HMB.out
      have hs2 := run_str w4 a n c key HK4.out
      have hc7 : w4.cell? ⟨gm, n, none⟩ = some (.int .u8 77) := H77.out
      go_wp2_with fail
      refine (right_c _ a n c _).mono ?_
      rintro e w' ⟨rfl, rfl⟩
      rw [HRR.out]
      go_wp2_with fail
      refine (num_c _ _).mono ?_
      rintro e w' ⟨rfl, rfl⟩
      go_wp2_with fail
      refine (works_c _).mono ?_
      rintro e w6 ⟨rfl, hb⟩
      have HB6 := Lib.hid (HB4.out.trans (hb.mono HB4.out.size))
      clear hb
      go_wp2_with fail
      go_ret
      exact ⟨rfl, HB6.out⟩
end Go.Proofs.Yticgknjjhkgggaa
