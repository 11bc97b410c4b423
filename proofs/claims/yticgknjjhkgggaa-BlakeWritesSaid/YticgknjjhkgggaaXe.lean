/- The walk of BlakeWrites. -/
import Derived.Test.YticgknjjhkgggaaXd
namespace Go.Proofs.Yticgknjjhkgggaa
open Go.RowKit
set_option linter.unusedSimpArgs false
set_option linter.unusedVariables false

set_option maxRecDepth 100000 in
set_option maxHeartbeats 8000000 in
theorem writes_walk (size : Int) (ka : Option Addr) (n kc : Nat) (key : List By) (pa : Option Addr) (pn pc : Nat) (ps : List (List By)) (w : World) (hk : Bys w ka n key) (h : PrsX w pa pn ps) : Calls Try.prog 9 #[.int .i64 size, .slice ka n kc, .slice pa pn pc] w fun e w' => e = .returned (.bool true) ∧ Below w.heap.size w w' := by
  have H := Lib.hid h
  have HK := Lib.hid hk
  have HKN := Lib.hid hk.1
  clear h hk
  go_enter Try.func9, Try.ntmps9
  go_wp2_with fail
  refine (joined_c pa pn pc ps _ H.out).mono ?_
  rintro e w2 ⟨v, ok, rfl, hb, hok⟩
  have HB := Lib.hid hb
  have HOK := Lib.hid hok
  clear hb hok
  by_cases hcs : ok = false ∨ 100 < n
  · have hex : Calls Try.prog 12 #[] w2 fun e w' => e = .returned (.bool true) ∧ Below w2.heap.size w2 w' := works_c w2
    have HEX := Lib.hid hex
    clear hex
    rcases hcs with rfl | hn
    · go_wp2_with fail
      refine HEX.out.mono ?_
      rintro e w3 ⟨rfl, hb⟩
      have HB3 := Lib.hid (HB.out.trans (hb.mono HB.out.size))
      clear hb
      go_wp2_with fail
      go_ret
      exact ⟨rfl, HB3.out⟩
    · have hn' : (100 : Int) < (n : Int) := by omega
      cases ok
      all_goals
        go_wp2_with fail
        refine HEX.out.mono ?_
        rintro e w3 ⟨rfl, hb⟩
        have HB3 := Lib.hid (HB.out.trans (hb.mono HB.out.size))
        clear hb
        go_wp2_with fail
        go_ret
        exact ⟨rfl, HB3.out⟩
  · obtain rfl : ok = true := by cases ok <;> simp_all
    have hn100 : n ≤ 100 := by omega
    have hn' : ¬ (100 : Int) < (n : Int) := by omega
    clear hcs
    obtain ⟨hown, hn20, hl200⟩ := HOK.out rfl
    obtain ⟨D, hD⟩ : ∃ D, D = ps.flatten := ⟨_, rfl⟩
    have hbl : D.length ≤ 4000 := by
      rw [hD]
      have := flat_bound ps 200 hl200
      have := H.out.1
      omega
    rw [← hD] at hown
    obtain ⟨va, vc, rfl, hvc, hvb⟩ := hown.bys
    have HL2 := Lib.hid hl200
    obtain ⟨m, hm⟩ : ∃ m, m = D.length := ⟨_, rfl⟩
    rw [← hm] at hvb hbl hvc ⊢
    have HVB := Lib.hid hvb
    have HD := Lib.hid hD
    have HMm := Lib.hid hm
    have HK2 := Lib.hid (HK.out.below HB.out)
    have HPL : Hid (ps.length = pn) := Lib.hid H.out.1
    clear hown hvb hl200 hm HOK hD
    by_cases hr : rightB size n = true
    · obtain ⟨hr1, hr2, hr3⟩ : 1 ≤ size ∧ size ≤ 32 ∧ n ≤ 32 := by unfold rightB at hr; simpa using hr
      obtain ⟨wide, rfl⟩ : ∃ wide : Nat, size = (wide : Int) := ⟨size.toNat, by omega⟩
      have h1 : 1 ≤ wide := by omega
      have h2 : wide ≤ 32 := by omega
      have h3 : n ≤ 32 := hr3
      have HRR := Lib.hid hr
      clear hr hr1 hr2 hr3
      go_wp2_with fail
      refine (new_c wide ka n kc key _ HK2.out h1 h2 h3).mono ?_
      rintro e w3 ⟨h_, rfl, hh, hge, hb⟩
      have HGE := Lib.hid (Nat.le_trans HB.out.size hge)
      have HB := Lib.hid (HB.out.trans (hb.mono HB.out.size))
      have HVB := Lib.hid (HVB.out.below hb)
      have HH := Lib.hid hh
      have HKB : Hid ((keyB key).length ≤ 64) := Lib.hid (by
        unfold keyB
        by_cases hk0 : key = []
        · rw [if_pos hk0]; simp
        · rw [if_neg hk0, pad_len key (by have := HKN.out; omega)]; omega)
      clear hh hge hb HK2
      go_upto_if 41 with (fail)
      go_cut [11] (fun v wx => ∃ p, v = .pointer p ∧ NoHash wx p ∧ Below w3.heap.size w3 wx)
      case first =>
        go_wp2_with fail
        all_goals (go_meet; case rel => first | exact ⟨none, rfl, .inl rfl, Below.refl _ _⟩ | exact ⟨_, rfl, .inr ⟨_, rfl, (Blk.new _ 57 _).cell rfl⟩, (Below.refl _ _).alloc (Nat.le_refl _) _⟩)
      case rest =>
      obtain ⟨p0, rfl, hno, hbc⟩ := hcut
      have HNO := Lib.hid hno
      have HVB := Lib.hid (HVB.out.below hbc); have HH := Lib.hid (HH.out.below hbc)
      have HB := Lib.hid (HB.out.trans (hbc.mono HB.out.size))
      clear hno hbc
      go_wp2_with fail
      refine (write_none p0 none 0 0 _ HNO.out).mono ?_
      rintro e w5 ⟨rfl, hb⟩
      have HNO := Lib.hid (HNO.out.below hb)
      have HVB := Lib.hid (HVB.out.below hb); have HH := Lib.hid (HH.out.below hb)
      have HB := Lib.hid (HB.out.trans (hb.mono HB.out.size))
      clear hb
      go_wp2_with fail
      refine (num_c _ _).mono ?_
      rintro e w' ⟨rfl, rfl⟩
      go_wp2_with fail
      refine (sum_none p0 _ HNO.out).mono ?_
      rintro e w' ⟨rfl, rfl⟩
      go_wp2_with fail
      refine (len_none p0 _ HNO.out).mono ?_
      rintro e w' ⟨rfl, rfl⟩
      go_wp2_with fail
      refine (copy_none p0 _ HNO.out).mono ?_
      rintro e w' ⟨rfl, rfl⟩
      go_wp2_with fail
      refine (right_c _ ka n kc _).mono ?_
      rintro e w' ⟨rfl, rfl⟩
      rw [HRR.out]
      go_wp2_with fail
      go_loopw [12, 13] (fun nv i wr => ∃ k q : Nat, k ≤ pn ∧ i = .int .i64 k ∧ nv = .int .i64 (q : Int) ∧ Hid (q = (ps.take k).flatten.length) ∧ IsHash wr h_ (start wide n) (keyB key ++ (ps.take k).flatten) wide q ∧ Bys wr va m D ∧ Below w.heap.size w wr) (fun _ i _ => pn - (intOf i).toNat)
      case atStart => exact ⟨0, 0, Nat.zero_le _, rfl, rfl, Lib.hid rfl, by simpa using HH.out, HVB.out, HB.out⟩
      case round =>
      clear HB HVB HH HNO
      obtain ⟨k, q, hk, rfl, rfl, HQ, hh, hvb, hb⟩ := hrel
      have HH := Lib.hid hh
      have HVB := Lib.hid hvb
      have HB := Lib.hid hb
      clear hh hvb hb
      by_cases hlt : k < pn
      · obtain ⟨p, hpk⟩ : ∃ p, ps[k]? = some p := ⟨ps[k]'(by rw [HPL.out]; exact hlt), List.getElem?_eq_getElem _⟩
        obtain ⟨g, off, a', c', rfl, hg, hcell, hbys⟩ := H.out.2 k p hpk
        have hp200 : p.length ≤ 200 := HL2.out p (List.mem_of_getElem? hpk)
        have HFT : Hid ((ps.take (k + 1)).flatten = (ps.take k).flatten ++ p) := Lib.hid (flat_take _ _ _ hpk)
        obtain ⟨pl, hpl⟩ : ∃ x, x = p.length := ⟨_, rfl⟩
        rw [← hpl] at hcell hbys hp200
        have HPl := Lib.hid hpl
        obtain ⟨q2, hq2⟩ : ∃ x, x = q + pl := ⟨_, rfl⟩
        have HQ2 : Hid (q2 = (ps.take (k + 1)).flatten.length) := Lib.hid (by rw [HFT.out, List.length_append, ← HQ.out, ← HPl.out, hq2])
        have hqm : q2 ≤ m := by rw [HQ2.out, HMm.out, HD.out]; exact flat_le ps (k + 1)
        have HTK : Hid (D.take q2 = (ps.take (k + 1)).flatten) := Lib.hid (by
          have e : ps.flatten = (ps.take (k + 1)).flatten ++ (ps.drop (k + 1)).flatten := by rw [← List.flatten_append, List.take_append_drop]
          rw [HQ2.out, HD.out, e]
          exact List.take_left' rfl)
        have HC := Lib.hid hcell
        have HY0 := Lib.hid hbys
        have Hq2 := Lib.hid hq2
        clear hpk hpl hcell hbys hq2
        have hE := (Below.refl wr.heap.size wr).alloc (Nat.le_refl _) (.cells #[] 5)
        have HE := Lib.hid (own_empty wr)
        have hcE := ((HB.out.trans (hE.mono HB.out.size)).cell (p := ⟨g, off + k, none⟩) hg).trans HC.out
        have HYE := Lib.hid (HY0.out.below (HB.out.trans (hE.mono HB.out.size)))
        go_wp2_with (at_builtin; refine wpl_append_bys rfl (.tmp 84) (.tmp 88) rfl wr.heap.size _ [] rfl HE.out a' pl c' p rfl HYE.out ?c1 ?c2 ?_)
        case c1 => simp; omega
        case c2 => simp
        intro v4 w4 hown hgr hnl
        have hnn : v4 ≠ .slice none 0 0 := by simpa using hnl
        have ho1 : OwnB w4 wr.heap.size v4 p := by simpa using hown
        have hb4 := hE.trans (own_grown HE.out hgr (Nat.le_refl _) (by simp))
        obtain ⟨gm, cm, hv, hcm⟩ := ho1.here hnn
        rw [← HPl.out] at hv hcm
        subst hv
        have HO4 := Lib.hid ho1
        have HG := Lib.hid ho1.base
        have HH4 := Lib.hid (HH.out.below hb4)
        have HVB4 := Lib.hid (HVB.out.below hb4)
        have HB4 := Lib.hid (HB.out.trans (hb4.mono HB.out.size))
        have HVA := Lib.hid (HVB.out.apart HG.out.1)
        have hgh : gm ≠ h_ := by have := HH.out.lt; have := HG.out.1; omega
        have hhw : h_ < wr.heap.size := HH.out.lt
        have hgw : w.heap.size ≤ gm := Nat.le_trans HB.out.size HG.out.1
        clear hown hgr hnl hnn ho1 hb4 hcE hE HE HYE
        obtain ⟨a5, c5, he, _, hy⟩ := HO4.out.bys
        rw [← HPl.out] at he hy
        injection he with e1 e2 e3
        subst e1
        have HY := Lib.hid hy
        clear hy e2 e3
        go_wp2_with fail
        refine (write_cF h_ _ _ wide q (some ⟨gm, 0, none⟩) pl cm p _ HH4.out HY.out (by omega) (by have := HKB.out; have := HQ.out; have := Hq2.out; rw [List.length_append]; omega) (by have := Hq2.out; omega)).mono ?_
        rintro e w5 ⟨rfl, hF, hO⟩
        have HF := Lib.hid hF
        have HO5 := Lib.hid (HO4.out.only hO hhw)
        have HVB5 := Lib.hid (HVB4.out.only hO (HH4.out.apart HVB4.out))
        have HB5 := Lib.hid (HB4.out.trans (hO.below HB4.out.size HGE.out))
        have HPls : Hid (p.length = pl) := Lib.hid HPl.out.symm
        clear hF hO HY HO4 HVB4 HB4 HH4
        go_wp2_with fail
        go_loopw [16] (fun i wq => ∃ (j : Nat) (l' : List By), j ≤ pl ∧ i = .int .i64 j ∧ l'.length = pl ∧ OwnB wq wr.heap.size (.slice (some ⟨gm, 0, none⟩) pl cm) l' ∧ Only gm w5 wq) (fun i _ => pl - (intOf i).toNat)
        case atStart => exact ⟨0, p, Nat.zero_le _, rfl, HPls.out, HO5.out, Only.refl _ _⟩
        case round =>
        obtain ⟨j, l', hj, rfl, hl', hO, hOn⟩ := hrel
        have HOq := Lib.hid hO; clear hO
        have HOn := Lib.hid hOn; clear hOn
        have HL' := Lib.hid hl'; clear hl'
        by_cases hjl : j < pl
        · obtain ⟨x, hx⟩ : ∃ x, l'[j]? = some x := ⟨l'[j]'(by rw [HL'.out]; exact hjl), List.getElem?_eq_getElem _⟩
          obtain ⟨hc1, hf1⟩ := HOq.out.at_ hx
          have hjl' : (j : Int) < (pl : Int) := by omega
          clear hx
          go_wp2_with fail
          have hy : ((x.toNat : Int) + 1) % 256 = ((x + 1#8).toNat : Int) := by rw [BitVec.toNat_add]; simp
          rw [hy]
          go_roundw
          case rel => exact ⟨j + 1, _, by omega, by go_num, by rw [List.length_set]; exact HL'.out, HOq.out.put j (x + 1#8), HOn.out.setCell (p := ⟨gm, j, none⟩) (.inl rfl) _⟩
          case measure => simp [intOf]; omega
        obtain rfl : pl = j := by omega
        have HH6 := Lib.hid ((HF.out.only HOn.out hgh HG.out.2).hash)
        have HVB6 := Lib.hid (HVB5.out.only HOn.out HVA.out)
        have HB6 := Lib.hid (HB5.out.trans (HOn.out.below HB5.out.size hgw))
        have hc6 := (HB6.out.cell (p := ⟨g, off + k, none⟩) hg).trans HC.out
        have hwq : IntKind.i64.wrap ((q : Int) + (pl : Int)) = (q2 : Int) := by rw [IntWalk.i64_in _ (by have := Hq2.out; omega)]; have := Hq2.out; omega
        go_wp2_with fail
        obtain ⟨SS, hSS⟩ : ∃ x, x = sumOf (start wide n) ((keyB key ++ (ps.take k).flatten) ++ p) wide := ⟨_, rfl⟩
        have HSS := Lib.hid hSS
        have hSL : SS.length = wide := by rw [hSS]; exact sumOf_len _ _ _ (start_len _ _) h2
        have HSL := Lib.hid hSL
        have HKS : Hid (keyed wide key (D.take q2) = SS) := Lib.hid (by
          rw [HTK.out, HFT.out, hSS, keyed, HKN.out, List.append_assoc])
        refine (sum_c h_ _ _ wide _ _ HH6.out).mono ?_
        rintro e w7 ⟨v7, rfl, hv, hb⟩
        rw [← hSS] at hv
        have hnn : v7 ≠ .slice none 0 0 := fun e => by
          obtain ⟨_, _, e', _, _⟩ := hv.bys
          rw [e] at e'
          injection e' with _ e2 _
          omega
        obtain ⟨gs, cs, hv', hcs⟩ := hv.here hnn
        rw [hSL] at hv' hcs
        subst hv'
        obtain ⟨a5, c5, he, _, hy⟩ := hv.bys
        rw [hSL] at he hy
        injection he with e1 e2 e3
        subst e1
        have hbd := hb.trans ((Below.refl w7.heap.size w7).drew.mono hb.size)
        have HG7 := Lib.hid hv.base
        have HOS := Lib.hid (hv.below (Below.refl w7.heap.size w7).drew)
        have HB68 := Lib.hid hbd
        have HKB6 := Lib.hid (HK.out.below HB6.out)
        have HH7 : Hid (IsHash w7.drew h_ (start wide n) ((keyB key ++ (ps.take k).flatten) ++ p) wide q2) := Lib.hid (by rw [Hq2.out]; exact HH6.out.below hbd)
        have HS : Hid (Bys w7.drew (some ⟨gs, 0, none⟩) wide SS ∧ Bys w7.drew ka n key ∧ Bys w7.drew va m D) := Lib.hid ⟨hy.below (Below.refl w7.heap.size w7).drew, HKB6.out.below hbd, HVB6.out.below hbd⟩
        have hneq : ((strOf SS).toList == (strOf SS).toList) = true := by rw [str_eq]; simp
        have hqv1 : ¬ (vc : Int) < (q2 : Int) := by omega
        have hqv2 : (q2 : Int) ≤ (vc : Int) := by omega
        have hwid : (0 : Int) < (wide : Int) := by omega
        have hS0 := HS.out
        clear hv hb hnn hSS hSL hy hbd hc6 e2 e3
        go_wp2_with fail
        refine wp_region_held_drew (S := (fun W => Bys W (some ⟨gs, 0, none⟩) wide SS ∧ Bys W ka n key ∧ Bys W va m D)) (by kernel_rfl) hS0 ?_
        intro hS0'
        generalize w7.drew = wA at hS0' HB68 HS HH7 HOS ⊢
        refine wpAnyH_take (i := 0) (v := .int .i64 (0 : Int)) rfl (by kernel_rfl) (by kernel_rfl) (by kernel_rfl) (fun _ _ _ h => h) (Or.inl ⟨by kernel_rfl, fun w hSw => ?_⟩) hS0' ?_
        · go_simp
        try simp only [Act.put, List.getElem_toArray, List.getElem_cons_succ, List.getElem_cons_zero, List.setIfInBounds_toArray, List.set_cons_zero, List.set_cons_succ]
        refine wpAnyH_ready (rs := [1]) (by kernel_rfl) (by simp) ?_
        refine AllReadyH.cons (by rfl) ?_ AllReadyH.nil
        intro K hK
        go_simp
        refine (num_c _ _).mono ?_
        rintro e w' ⟨rfl, rfl⟩
        refine hK.out _ _ hS0' (fun hS1 => ?_)
        clear hK K
        refine wpAnyH_take (i := 2) (v := .bool false) rfl (by kernel_rfl) (by kernel_rfl) (by kernel_rfl) (fun _ _ _ h => h) (Or.inl ⟨by kernel_rfl, fun w hSw => ?_⟩) hS1 ?_
        · go_simp
        try simp only [Act.put, List.getElem_toArray, List.getElem_cons_succ, List.getElem_cons_zero, List.setIfInBounds_toArray, List.set_cons_zero, List.set_cons_succ]
        refine wpAnyH_take (i := 3) (v := .bool false) rfl (by kernel_rfl) (by kernel_rfl) (by kernel_rfl) (fun _ _ _ h => h) (Or.inl ⟨by kernel_rfl, fun w hSw => ?_⟩) hS1 ?_
        · go_simp
        try simp only [Act.put, List.getElem_toArray, List.getElem_cons_succ, List.getElem_cons_zero, List.setIfInBounds_toArray, List.set_cons_zero, List.set_cons_succ]
        refine wpAnyH_take (i := 4) (v := .pointer (some ⟨h_, 0, none⟩)) rfl (by kernel_rfl) (by kernel_rfl) (by kernel_rfl) (fun _ _ _ h => h) (Or.inl ⟨by kernel_rfl, fun w hSw => ?_⟩) hS1 ?_
        · go_simp
        try simp only [Act.put, List.getElem_toArray, List.getElem_cons_succ, List.getElem_cons_zero, List.setIfInBounds_toArray, List.set_cons_zero, List.set_cons_succ]
        refine wpAnyH_take (i := 6) (v := .int .i64 (q2 : Int)) rfl (by kernel_rfl) (by kernel_rfl) (by kernel_rfl) (fun _ _ _ h => h) (Or.inl ⟨by kernel_rfl, fun w hSw => ?_⟩) hS1 ?_
        · go_simp
        try simp only [Act.put, List.getElem_toArray, List.getElem_cons_succ, List.getElem_cons_zero, List.setIfInBounds_toArray, List.set_cons_zero, List.set_cons_succ]
        refine wpAnyH_ready (rs := [5]) (by kernel_rfl) (by simp) ?_
        refine AllReadyH.cons (by rfl) ?_ AllReadyH.nil
        intro K hK
        go_simp
        refine (len_c h_ _ _ wide _ _ HH7.out).mono ?_
        rintro e w' ⟨rfl, rfl⟩
        refine hK.out _ _ hS0' (fun hS2 => ?_)
        clear hK K
        refine wpAnyH_take (i := 7) (v := .bool false) rfl (by kernel_rfl) (by kernel_rfl) (by kernel_rfl) (fun _ _ _ h => h) (Or.inl ⟨by kernel_rfl, fun w hSw => ?_⟩) hS2 ?_
        · go_simp
        try simp only [Act.put, List.getElem_toArray, List.getElem_cons_succ, List.getElem_cons_zero, List.setIfInBounds_toArray, List.set_cons_zero, List.set_cons_succ]
        refine wpAnyH_take (i := 8) (v := .bool false) rfl (by kernel_rfl) (by kernel_rfl) (by kernel_rfl) (fun _ _ _ h => h) (Or.inl ⟨by kernel_rfl, fun w hSw => ?_⟩) hS2 ?_
        · go_simp
        try simp only [Act.put, List.getElem_toArray, List.getElem_cons_succ, List.getElem_cons_zero, List.setIfInBounds_toArray, List.set_cons_zero, List.set_cons_succ]
        refine wpAnyH_take (i := 9) (v := .bool false) rfl (by kernel_rfl) (by kernel_rfl) (by kernel_rfl) (fun _ _ _ h => h) (Or.inl ⟨by kernel_rfl, fun w hSw => ?_⟩) hS2 ?_
        · go_simp
        try simp only [Act.put, List.getElem_toArray, List.getElem_cons_succ, List.getElem_cons_zero, List.setIfInBounds_toArray, List.set_cons_zero, List.set_cons_succ]
        refine wpAnyH_take (i := 10) (v := .slice (some ⟨gs, 0, none⟩) wide cs) rfl (by kernel_rfl) (by kernel_rfl) (by kernel_rfl) (fun _ _ _ h => h) (Or.inl ⟨by kernel_rfl, fun w hSw => ?_⟩) hS2 ?_
        · go_simp
        try simp only [Act.put, List.getElem_toArray, List.getElem_cons_succ, List.getElem_cons_zero, List.setIfInBounds_toArray, List.set_cons_zero, List.set_cons_succ]
        refine wpAnyH_take (i := 11) (v := .string (strOf SS)) rfl (by kernel_rfl) (by kernel_rfl) (by kernel_rfl) (fun _ _ _ h => h) (Or.inl ⟨by kernel_rfl, fun w hSw => ?_⟩) hS2 ?_
        · have hs1 := run_str w (some ⟨gs, 0, none⟩) wide cs SS hSw.1
          clear hSw
          go_simp
        try simp only [Act.put, List.getElem_toArray, List.getElem_cons_succ, List.getElem_cons_zero, List.setIfInBounds_toArray, List.set_cons_zero, List.set_cons_succ]
        refine wpAnyH_take (i := 12) (v := .int .i64 (wide : Int)) rfl (by kernel_rfl) (by kernel_rfl) (by kernel_rfl) (fun _ _ _ h => h) (Or.inl ⟨by kernel_rfl, fun w hSw => ?_⟩) hS2 ?_
        · go_simp
        try simp only [Act.put, List.getElem_toArray, List.getElem_cons_succ, List.getElem_cons_zero, List.setIfInBounds_toArray, List.set_cons_zero, List.set_cons_succ]
        refine wpAnyH_take (i := 13) (v := .slice ka n kc) rfl (by kernel_rfl) (by kernel_rfl) (by kernel_rfl) (fun _ _ _ h => h) (Or.inl ⟨by kernel_rfl, fun w hSw => ?_⟩) hS2 ?_
        · go_simp
        try simp only [Act.put, List.getElem_toArray, List.getElem_cons_succ, List.getElem_cons_zero, List.setIfInBounds_toArray, List.set_cons_zero, List.set_cons_succ]
        refine wpAnyH_take (i := 14) (v := .slice va m vc) rfl (by kernel_rfl) (by kernel_rfl) (by kernel_rfl) (fun _ _ _ h => h) (Or.inl ⟨by kernel_rfl, fun w hSw => ?_⟩) hS2 ?_
        · go_simp
        try simp only [Act.put, List.getElem_toArray, List.getElem_cons_succ, List.getElem_cons_zero, List.setIfInBounds_toArray, List.set_cons_zero, List.set_cons_succ]
        refine wpAnyH_take (i := 15) (v := .int .i64 (q2 : Int)) rfl (by kernel_rfl) (by kernel_rfl) (by kernel_rfl) (fun _ _ _ h => h) (Or.inl ⟨by kernel_rfl, fun w hSw => ?_⟩) hS2 ?_
        · go_simp
        try simp only [Act.put, List.getElem_toArray, List.getElem_cons_succ, List.getElem_cons_zero, List.setIfInBounds_toArray, List.set_cons_zero, List.set_cons_succ]
        refine wpAnyH_take (i := 16) (v := .slice va q2 vc) rfl (by kernel_rfl) (by kernel_rfl) (by kernel_rfl) (fun _ _ _ h => h) (Or.inl ⟨by kernel_rfl, fun w hSw => ?_⟩) hS2 ?_
        · go_simp
        try simp only [Act.put, List.getElem_toArray, List.getElem_cons_succ, List.getElem_cons_zero, List.setIfInBounds_toArray, List.set_cons_zero, List.set_cons_succ]
        refine wpAnyH_ready (rs := [17]) (by kernel_rfl) (by simp) ?_
        refine AllReadyH.cons (by rfl) ?_ AllReadyH.nil
        intro K hK
        go_simp
        refine (rkeyed_c wide ka n kc key va q2 vc (D.take q2) _ HS.out.2.1 h1 h2 h3 (HS.out.2.2.take q2 hqm) (by omega)).mono ?_
        rintro e wm1 ⟨v, rfl, hv, hb⟩
        have HB68 := Lib.hid (HB68.out.trans (hb.mono HB68.out.size))
        have HOS := Lib.hid (HOS.out.below hb)
        have HS := Lib.hid (⟨HS.out.1.below hb, HS.out.2.1.below hb, HS.out.2.2.below hb⟩ : Bys _ (some ⟨gs, 0, none⟩) wide SS ∧ Bys _ ka n key ∧ Bys _ va m D)
        rw [HKS.out] at hv
        obtain ⟨ra, rc, rfl, _, hrb⟩ := hv.bys
        have hs4 := run_str wm1 ra _ rc SS hrb
        clear hb hv hrb
        refine hK.out _ _ HS.out (fun hS3 => ?_)
        clear hK K
        refine wpAnyH_ready (rs := [18]) (by kernel_rfl) (by simp) ?_
        refine AllReadyH.cons (by rfl) ?_ AllReadyH.nil
        intro K hK
        go_simp
        clear hs4
        refine hK.out _ _ HS.out (fun hS4 => ?_)
        clear hK K
        refine wpAnyH_ready (rs := [19]) (by kernel_rfl) (by simp) ?_
        refine AllReadyH.cons (by rfl) ?_ AllReadyH.nil
        intro K hK
        go_simp
        refine hK.out _ _ HS.out (fun hS5 => ?_)
        clear hK K
        refine wpAnyH_take (i := 20) (v := .bool false) rfl (by kernel_rfl) (by kernel_rfl) (by kernel_rfl) (fun _ _ _ h => h) (Or.inl ⟨by kernel_rfl, fun w hSw => ?_⟩) hS5 ?_
        · go_simp
        try simp only [Act.put, List.getElem_toArray, List.getElem_cons_succ, List.getElem_cons_zero, List.setIfInBounds_toArray, List.set_cons_zero, List.set_cons_succ]
        refine wpAnyH_done (by kernel_rfl) ?_ _
        go_wp2_with fail
        go_loopw [18] (fun i wz => ∃ (j : Nat) (l' : List By), j ≤ wide ∧ i = .int .i64 j ∧ l'.length = wide ∧ OwnB wz wr.heap.size (.slice (some ⟨gs, 0, none⟩) wide cs) l' ∧ Only gs wm1 wz) (fun i _ => wide - (intOf i).toNat)
        case atStart => exact ⟨0, SS, Nat.zero_le _, rfl, HSL.out, HOS.out, Only.refl _ _⟩
        case round =>
        obtain ⟨j, l', hj, rfl, hl', hO, hOn⟩ := hrel
        have HOq := Lib.hid hO; clear hO
        have HOn := Lib.hid hOn; clear hOn
        have HL' := Lib.hid hl'; clear hl'
        by_cases hjl : j < wide
        · obtain ⟨x, hx⟩ : ∃ x, l'[j]? = some x := ⟨l'[j]'(by rw [HL'.out]; exact hjl), List.getElem?_eq_getElem _⟩
          obtain ⟨hc1, hf1⟩ := HOq.out.at_ hx
          have hjl' : (j : Int) < (wide : Int) := by omega
          clear hx
          go_wp2_with fail
          have hy : ((x.toNat : Int) + 1) % 256 = ((x + 1#8).toNat : Int) := by rw [BitVec.toNat_add]; simp
          rw [hy]
          go_roundw
          case rel => exact ⟨j + 1, _, by omega, by go_num, by rw [List.length_set]; exact HL'.out, HOq.out.put j (x + 1#8), HOn.out.setCell (p := ⟨gs, j, none⟩) (.inl rfl) _⟩
          case measure => simp [intOf]; omega
        obtain rfl : wide = j := by omega
        have hh9 := HH6.out.fresh HB68.out HG7.out.1 HOn.out
        rw [List.append_assoc, ← HFT.out, ← Hq2.out] at hh9
        have HH9 := Lib.hid hh9
        have HVB9 := Lib.hid (HS.out.2.2.only HOn.out (HVB6.out.apart HG7.out.1))
        have hsz6 := HB6.out.size
        have hg7 := HG7.out.1
        have HB9 := Lib.hid ((HB6.out.trans (HB68.out.mono HB6.out.size)).trans (HOn.out.below (Nat.le_trans HB6.out.size HB68.out.size) (Nat.le_trans hsz6 hg7)))
        clear hh9
        go_wp2_with fail
        go_roundw
        case rel => exact ⟨k + 1, q2, by omega, by go_num, rfl, HQ2, HH9.out, HVB9.out, HB9.out⟩
        case measure => simp [intOf]; omega
      · obtain rfl : k = pn := by omega
        have hDk : (ps.take k).flatten = D := by rw [List.take_of_length_le (by rw [HPL.out]; exact Nat.le_refl _), HD.out]
        obtain ⟨SS, hSS⟩ : ∃ x, x = sumOf (start wide n) (keyB key ++ (ps.take k).flatten) wide := ⟨_, rfl⟩
        have HSS : Hid (sumOf (start wide n) (keyB key ++ (ps.take k).flatten) wide = SS) := Lib.hid hSS.symm
        have HKS : Hid (keyed wide key D = SS) := Lib.hid (by rw [hSS, keyed, HKN.out, hDk])
        have hbd := (Below.refl wr.heap.size wr).drew
        have HS : Hid (Bys wr.drew ka n key ∧ Bys wr.drew va m D) := Lib.hid ⟨(HK.out.below HB.out).below hbd, HVB.out.below hbd⟩
        have HH := Lib.hid (HH.out.below hbd)
        have HB := Lib.hid HB.out.drew
        have hneq : ((strOf SS).toList == (strOf SS).toList) = true := by rw [str_eq]; simp
        have hS0 := HS.out
        clear hSS hDk hbd
        go_wp2_with fail
        refine wp_region_held_drew (S := (fun W => Bys W ka n key ∧ Bys W va m D)) (by kernel_rfl) hS0 ?_
        intro hS0'
        generalize wr.drew = wA at hS0' HB HS HH ⊢
        refine wpAnyH_take (i := 0) (v := .int .i64 (0 : Int)) rfl (by kernel_rfl) (by kernel_rfl) (by kernel_rfl) (fun _ _ _ h => h) (Or.inl ⟨by kernel_rfl, fun w hSw => ?_⟩) hS0' ?_
        · go_simp
        try simp only [Act.put, List.getElem_toArray, List.getElem_cons_succ, List.getElem_cons_zero, List.setIfInBounds_toArray, List.set_cons_zero, List.set_cons_succ]
        refine wpAnyH_ready (rs := [1]) (by kernel_rfl) (by simp) ?_
        refine AllReadyH.cons (by rfl) ?_ AllReadyH.nil
        intro K hK
        go_simp
        refine (num_c _ _).mono ?_
        rintro e w' ⟨rfl, rfl⟩
        refine hK.out _ _ hS0' (fun hS1 => ?_)
        clear hK K
        refine wpAnyH_take (i := 2) (v := .bool true) rfl (by kernel_rfl) (by kernel_rfl) (by kernel_rfl) (fun _ _ _ h => h) (Or.inl ⟨by kernel_rfl, fun w hSw => ?_⟩) hS1 ?_
        · go_simp
        try simp only [Act.put, List.getElem_toArray, List.getElem_cons_succ, List.getElem_cons_zero, List.setIfInBounds_toArray, List.set_cons_zero, List.set_cons_succ]
        refine wpAnyH_take (i := 3) (v := .bool true) rfl (by kernel_rfl) (by kernel_rfl) (by kernel_rfl) (fun _ _ _ h => h) (Or.inl ⟨by kernel_rfl, fun w hSw => ?_⟩) hS1 ?_
        · go_simp
        try simp only [Act.put, List.getElem_toArray, List.getElem_cons_succ, List.getElem_cons_zero, List.setIfInBounds_toArray, List.set_cons_zero, List.set_cons_succ]
        refine wpAnyH_take (i := 4) (v := .pointer (some ⟨h_, 0, none⟩)) rfl (by kernel_rfl) (by kernel_rfl) (by kernel_rfl) (fun _ _ _ h => h) (Or.inl ⟨by kernel_rfl, fun w hSw => ?_⟩) hS1 ?_
        · go_simp
        try simp only [Act.put, List.getElem_toArray, List.getElem_cons_succ, List.getElem_cons_zero, List.setIfInBounds_toArray, List.set_cons_zero, List.set_cons_succ]
        refine wpAnyH_take (i := 7) (v := .int .i64 (wide : Int)) rfl (by kernel_rfl) (by kernel_rfl) (by kernel_rfl) (fun _ _ _ h => h) (Or.inl ⟨by kernel_rfl, fun w hSw => ?_⟩) hS1 ?_
        · go_simp
        try simp only [Act.put, List.getElem_toArray, List.getElem_cons_succ, List.getElem_cons_zero, List.setIfInBounds_toArray, List.set_cons_zero, List.set_cons_succ]
        refine wpAnyH_take (i := 8) (v := .slice ka n kc) rfl (by kernel_rfl) (by kernel_rfl) (by kernel_rfl) (fun _ _ _ h => h) (Or.inl ⟨by kernel_rfl, fun w hSw => ?_⟩) hS1 ?_
        · go_simp
        try simp only [Act.put, List.getElem_toArray, List.getElem_cons_succ, List.getElem_cons_zero, List.setIfInBounds_toArray, List.set_cons_zero, List.set_cons_succ]
        refine wpAnyH_take (i := 9) (v := .slice va m vc) rfl (by kernel_rfl) (by kernel_rfl) (by kernel_rfl) (fun _ _ _ h => h) (Or.inl ⟨by kernel_rfl, fun w hSw => ?_⟩) hS1 ?_
        · go_simp
        try simp only [Act.put, List.getElem_toArray, List.getElem_cons_succ, List.getElem_cons_zero, List.setIfInBounds_toArray, List.set_cons_zero, List.set_cons_succ]
        refine wpAnyH_ready (rs := [5]) (by kernel_rfl) (by simp) ?_
        refine AllReadyH.cons (by rfl) ?_ AllReadyH.nil
        intro K hK
        go_simp
        refine (sum_c h_ _ _ wide _ _ HH.out).mono ?_
        rintro e wm1 ⟨v, rfl, hv, hb⟩
        have HB := Lib.hid (HB.out.trans (hb.mono HB.out.size))
        have HS := Lib.hid (⟨HS.out.1.below hb, HS.out.2.below hb⟩ : Bys _ ka n key ∧ Bys _ va m D)
        rw [HSS.out] at hv
        obtain ⟨ra, rc, rfl, _, hrb⟩ := hv.bys
        have HSR := Lib.hid hrb
        have hs4 := run_str wm1 ra _ rc SS hrb
        clear hb hv hrb
        refine hK.out _ _ HS.out (fun hS2 => ?_)
        clear hK K
        refine wpAnyH_ready (rs := [6, 10]) (by kernel_rfl) (by simp) ?_
        refine AllReadyH.cons (by rfl) ?_ ?_
        · intro K hK
          go_simp
          refine hK.out _ _ HS.out (fun hS3 => ?_)
          clear hK K
          refine wpAnyH_ready (rs := [10]) (by kernel_rfl) (by simp) ?_
          refine AllReadyH.cons (by rfl) ?_ AllReadyH.nil
          intro K hK
          go_simp
          refine (rkeyed_c wide ka n kc key va m vc D _ HS.out.1 h1 h2 h3 HS.out.2 (by omega)).mono ?_
          rintro e wm2 ⟨v, rfl, hv, hb⟩
          have HB := Lib.hid (HB.out.trans (hb.mono HB.out.size))
          have HS := Lib.hid (⟨HS.out.1.below hb, HS.out.2.below hb⟩ : Bys _ ka n key ∧ Bys _ va m D)
          have hs6 := run_str wm2 ra _ rc SS (HSR.out.below hb)
          rw [HKS.out] at hv
          obtain ⟨ra2, rc2, rfl, _, hrb⟩ := hv.bys
          have hs7 := run_str wm2 ra2 _ rc2 SS hrb
          clear hb hv hrb
          refine hK.out _ _ HS.out (fun hS4 => ?_)
          clear hK K
          refine wpAnyH_ready (rs := [11]) (by kernel_rfl) (by simp) ?_
          refine AllReadyH.cons (by rfl) ?_ AllReadyH.nil
          intro K hK
          go_simp
          refine hK.out _ _ HS.out (fun hS5 => ?_)
          clear hK K
          refine wpAnyH_ready (rs := [12]) (by kernel_rfl) (by simp) ?_
          refine AllReadyH.cons (by rfl) ?_ AllReadyH.nil
          intro K hK
          go_simp
          refine hK.out _ _ HS.out (fun hS6 => ?_)
          clear hK K
          refine wpAnyH_take (i := 13) (v := .bool true) rfl (by kernel_rfl) (by kernel_rfl) (by kernel_rfl) (fun _ _ _ h => h) (Or.inl ⟨by kernel_rfl, fun w hSw => ?_⟩) hS6 ?_
          · go_simp
          try simp only [Act.put, List.getElem_toArray, List.getElem_cons_succ, List.getElem_cons_zero, List.setIfInBounds_toArray, List.set_cons_zero, List.set_cons_succ]
          refine wpAnyH_take (i := 14) (v := .bool true) rfl (by kernel_rfl) (by kernel_rfl) (by kernel_rfl) (fun _ _ _ h => h) (Or.inl ⟨by kernel_rfl, fun w hSw => ?_⟩) hS6 ?_
          · go_simp
          try simp only [Act.put, List.getElem_toArray, List.getElem_cons_succ, List.getElem_cons_zero, List.setIfInBounds_toArray, List.set_cons_zero, List.set_cons_succ]
          refine wpAnyH_ready (rs := [15]) (by kernel_rfl) (by simp) ?_
          refine AllReadyH.cons (by rfl) ?_ AllReadyH.nil
          intro K hK
          go_simp
          refine (works_c _).mono ?_
          rintro e wm3 ⟨rfl, hb⟩
          have HB := Lib.hid (HB.out.trans (hb.mono HB.out.size))
          have HS := Lib.hid (⟨HS.out.1.below hb, HS.out.2.below hb⟩ : Bys _ ka n key ∧ Bys _ va m D)
          clear hb
          refine hK.out _ _ HS.out (fun hS7 => ?_)
          clear hK K
          refine wpAnyH_take (i := 16) (v := .bool true) rfl (by kernel_rfl) (by kernel_rfl) (by kernel_rfl) (fun _ _ _ h => h) (Or.inl ⟨by kernel_rfl, fun w hSw => ?_⟩) hS7 ?_
          · go_simp
          try simp only [Act.put, List.getElem_toArray, List.getElem_cons_succ, List.getElem_cons_zero, List.setIfInBounds_toArray, List.set_cons_zero, List.set_cons_succ]
          refine wpAnyH_take (i := 17) (v := .bool true) rfl (by kernel_rfl) (by kernel_rfl) (by kernel_rfl) (fun _ _ _ h => h) (Or.inl ⟨by kernel_rfl, fun w hSw => ?_⟩) hS7 ?_
          · go_simp
          try simp only [Act.put, List.getElem_toArray, List.getElem_cons_succ, List.getElem_cons_zero, List.setIfInBounds_toArray, List.set_cons_zero, List.set_cons_succ]
          refine wpAnyH_done (by kernel_rfl) ?_ _
          go_wp2_with fail
          go_ret
          exact ⟨rfl, HB.out⟩
        refine AllReadyH.cons (by rfl) ?_ AllReadyH.nil
        intro K hK
        go_simp
        refine (rkeyed_c wide ka n kc key va m vc D _ HS.out.1 h1 h2 h3 HS.out.2 (by omega)).mono ?_
        rintro e wm2 ⟨v, rfl, hv, hb⟩
        have HB := Lib.hid (HB.out.trans (hb.mono HB.out.size))
        have HS := Lib.hid (⟨HS.out.1.below hb, HS.out.2.below hb⟩ : Bys _ ka n key ∧ Bys _ va m D)
        have hs6 := run_str wm2 ra _ rc SS (HSR.out.below hb)
        rw [HKS.out] at hv
        obtain ⟨ra2, rc2, rfl, _, hrb⟩ := hv.bys
        have hs7 := run_str wm2 ra2 _ rc2 SS hrb
        clear hb hv hrb
        refine hK.out _ _ HS.out (fun hS8 => ?_)
        clear hK K
        refine wpAnyH_ready (rs := [6, 11]) (by kernel_rfl) (by simp) ?_
        refine AllReadyH.cons (by rfl) ?_ ?_
        · intro K hK
          go_simp
          refine hK.out _ _ HS.out (fun hS9 => ?_)
          clear hK K
          refine wpAnyH_ready (rs := [11]) (by kernel_rfl) (by simp) ?_
          refine AllReadyH.cons (by rfl) ?_ AllReadyH.nil
          intro K hK
          go_simp
          refine hK.out _ _ HS.out (fun hS10 => ?_)
          clear hK K
          refine wpAnyH_ready (rs := [12]) (by kernel_rfl) (by simp) ?_
          refine AllReadyH.cons (by rfl) ?_ AllReadyH.nil
          intro K hK
          go_simp
          refine hK.out _ _ HS.out (fun hS11 => ?_)
          clear hK K
          refine wpAnyH_take (i := 13) (v := .bool true) rfl (by kernel_rfl) (by kernel_rfl) (by kernel_rfl) (fun _ _ _ h => h) (Or.inl ⟨by kernel_rfl, fun w hSw => ?_⟩) hS11 ?_
          · go_simp
          try simp only [Act.put, List.getElem_toArray, List.getElem_cons_succ, List.getElem_cons_zero, List.setIfInBounds_toArray, List.set_cons_zero, List.set_cons_succ]
          refine wpAnyH_take (i := 14) (v := .bool true) rfl (by kernel_rfl) (by kernel_rfl) (by kernel_rfl) (fun _ _ _ h => h) (Or.inl ⟨by kernel_rfl, fun w hSw => ?_⟩) hS11 ?_
          · go_simp
          try simp only [Act.put, List.getElem_toArray, List.getElem_cons_succ, List.getElem_cons_zero, List.setIfInBounds_toArray, List.set_cons_zero, List.set_cons_succ]
          refine wpAnyH_ready (rs := [15]) (by kernel_rfl) (by simp) ?_
          refine AllReadyH.cons (by rfl) ?_ AllReadyH.nil
          intro K hK
          go_simp
          refine (works_c _).mono ?_
          rintro e wm3 ⟨rfl, hb⟩
          have HB := Lib.hid (HB.out.trans (hb.mono HB.out.size))
          have HS := Lib.hid (⟨HS.out.1.below hb, HS.out.2.below hb⟩ : Bys _ ka n key ∧ Bys _ va m D)
          clear hb
          refine hK.out _ _ HS.out (fun hS12 => ?_)
          clear hK K
          refine wpAnyH_take (i := 16) (v := .bool true) rfl (by kernel_rfl) (by kernel_rfl) (by kernel_rfl) (fun _ _ _ h => h) (Or.inl ⟨by kernel_rfl, fun w hSw => ?_⟩) hS12 ?_
          · go_simp
          try simp only [Act.put, List.getElem_toArray, List.getElem_cons_succ, List.getElem_cons_zero, List.setIfInBounds_toArray, List.set_cons_zero, List.set_cons_succ]
          refine wpAnyH_take (i := 17) (v := .bool true) rfl (by kernel_rfl) (by kernel_rfl) (by kernel_rfl) (fun _ _ _ h => h) (Or.inl ⟨by kernel_rfl, fun w hSw => ?_⟩) hS12 ?_
          · go_simp
          try simp only [Act.put, List.getElem_toArray, List.getElem_cons_succ, List.getElem_cons_zero, List.setIfInBounds_toArray, List.set_cons_zero, List.set_cons_succ]
          refine wpAnyH_done (by kernel_rfl) ?_ _
          go_wp2_with fail
          go_ret
          exact ⟨rfl, HB.out⟩
        refine AllReadyH.cons (by rfl) ?_ AllReadyH.nil
        intro K hK
        go_simp
        refine hK.out _ _ HS.out (fun hS13 => ?_)
        clear hK K
        refine wpAnyH_ready (rs := [6]) (by kernel_rfl) (by simp) ?_
        refine AllReadyH.cons (by rfl) ?_ AllReadyH.nil
        intro K hK
        go_simp
        refine hK.out _ _ HS.out (fun hS14 => ?_)
        clear hK K
        refine wpAnyH_ready (rs := [12]) (by kernel_rfl) (by simp) ?_
        refine AllReadyH.cons (by rfl) ?_ AllReadyH.nil
        intro K hK
        go_simp
        refine hK.out _ _ HS.out (fun hS15 => ?_)
        clear hK K
        refine wpAnyH_take (i := 13) (v := .bool true) rfl (by kernel_rfl) (by kernel_rfl) (by kernel_rfl) (fun _ _ _ h => h) (Or.inl ⟨by kernel_rfl, fun w hSw => ?_⟩) hS15 ?_
        · go_simp
        try simp only [Act.put, List.getElem_toArray, List.getElem_cons_succ, List.getElem_cons_zero, List.setIfInBounds_toArray, List.set_cons_zero, List.set_cons_succ]
        refine wpAnyH_take (i := 14) (v := .bool true) rfl (by kernel_rfl) (by kernel_rfl) (by kernel_rfl) (fun _ _ _ h => h) (Or.inl ⟨by kernel_rfl, fun w hSw => ?_⟩) hS15 ?_
        · go_simp
        try simp only [Act.put, List.getElem_toArray, List.getElem_cons_succ, List.getElem_cons_zero, List.setIfInBounds_toArray, List.set_cons_zero, List.set_cons_succ]
        refine wpAnyH_ready (rs := [15]) (by kernel_rfl) (by simp) ?_
        refine AllReadyH.cons (by rfl) ?_ AllReadyH.nil
        intro K hK
        go_simp
        refine (works_c _).mono ?_
        rintro e wm3 ⟨rfl, hb⟩
        have HB := Lib.hid (HB.out.trans (hb.mono HB.out.size))
        have HS := Lib.hid (⟨HS.out.1.below hb, HS.out.2.below hb⟩ : Bys _ ka n key ∧ Bys _ va m D)
        clear hb
        refine hK.out _ _ HS.out (fun hS16 => ?_)
        clear hK K
        refine wpAnyH_take (i := 16) (v := .bool true) rfl (by kernel_rfl) (by kernel_rfl) (by kernel_rfl) (fun _ _ _ h => h) (Or.inl ⟨by kernel_rfl, fun w hSw => ?_⟩) hS16 ?_
        · go_simp
        try simp only [Act.put, List.getElem_toArray, List.getElem_cons_succ, List.getElem_cons_zero, List.setIfInBounds_toArray, List.set_cons_zero, List.set_cons_succ]
        refine wpAnyH_take (i := 17) (v := .bool true) rfl (by kernel_rfl) (by kernel_rfl) (by kernel_rfl) (fun _ _ _ h => h) (Or.inl ⟨by kernel_rfl, fun w hSw => ?_⟩) hS16 ?_
        · go_simp
        try simp only [Act.put, List.getElem_toArray, List.getElem_cons_succ, List.getElem_cons_zero, List.setIfInBounds_toArray, List.set_cons_zero, List.set_cons_succ]
        refine wpAnyH_done (by kernel_rfl) ?_ _
        go_wp2_with fail
        go_ret
        exact ⟨rfl, HB.out⟩
    · have hr' : rightB size n = false := by simpa using hr
      have HRR := Lib.hid hr'
      clear hr hr'
      go_wp2_with fail
      refine (new_bad size ka n kc _ HRR.out).mono ?_
      rintro e w3 ⟨rfl, rfl⟩
      go_upto_if 41 with (fail)
      go_cut [11] (fun v wx => ∃ p, v = .pointer p ∧ NoHash wx p ∧ Below w2.heap.size w2 wx)
      case first =>
        go_wp2_with fail
        all_goals (go_meet; case rel => first | exact ⟨none, rfl, .inl rfl, Below.refl _ _⟩ | exact ⟨_, rfl, .inr ⟨_, rfl, (Blk.new _ 57 _).cell rfl⟩, (Below.refl _ _).alloc (Nat.le_refl _) _⟩)
      case rest =>
      obtain ⟨p0, rfl, hno, hbc⟩ := hcut
      have HNO := Lib.hid hno
      have HVB := Lib.hid (HVB.out.below hbc)
      have HB := Lib.hid (HB.out.trans (hbc.mono HB.out.size))
      clear hno hbc
      go_wp2_with fail
      refine (write_none p0 none 0 0 _ HNO.out).mono ?_
      rintro e w5 ⟨rfl, hb⟩
      have HNO := Lib.hid (HNO.out.below hb)
      have HVB := Lib.hid (HVB.out.below hb)
      have HB := Lib.hid (HB.out.trans (hb.mono HB.out.size))
      clear hb
      go_wp2_with fail
      refine (num_c _ _).mono ?_
      rintro e w' ⟨rfl, rfl⟩
      go_wp2_with fail
      refine (sum_none p0 _ HNO.out).mono ?_
      rintro e w' ⟨rfl, rfl⟩
      go_wp2_with fail
      refine (len_none p0 _ HNO.out).mono ?_
      rintro e w' ⟨rfl, rfl⟩
      go_wp2_with fail
      refine (copy_none p0 _ HNO.out).mono ?_
      rintro e w' ⟨rfl, rfl⟩
      go_wp2_with fail
      refine (right_c _ ka n kc _).mono ?_
      rintro e w' ⟨rfl, rfl⟩
      rw [HRR.out]
      go_wp2_with fail
      refine (num_c _ _).mono ?_
      rintro e w' ⟨rfl, rfl⟩
      go_wp2_with fail
      refine (works_c _).mono ?_
      rintro e w9 ⟨rfl, hb⟩
      have HB := Lib.hid (HB.out.trans (hb.mono HB.out.size))
      clear hb
      go_wp2_with fail
      go_ret
      exact ⟨rfl, HB.out⟩
end Go.Proofs.Yticgknjjhkgggaa
