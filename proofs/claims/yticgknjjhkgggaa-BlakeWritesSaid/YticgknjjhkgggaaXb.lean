/- The walk of BlakeCopies. -/
import Derived.Test.YticgknjjhkgggaaXa
namespace Go.Proofs.Yticgknjjhkgggaa
open Go.RowKit
set_option linter.unusedSimpArgs false
set_option linter.unusedVariables false

set_option maxRecDepth 100000 in
set_option maxHeartbeats 8000000 in
theorem copies_walk (size : Int) (ka : Option Addr) (n kc : Nat) (key : List By) (aa : Option Addr) (la ca : Nat) (xa : List By) (ab : Option Addr) (lb cb : Nat) (xb : List By) (ad : Option Addr) (ld cd : Nat) (xd : List By) (w : World) (hk : Bys w ka n key) (ha : Bys w aa la xa) (hb : Bys w ab lb xb) (hd : Bys w ad ld xd) :
    Calls Try.prog 8 #[.int .i64 size, .slice ka n kc, .slice aa la ca, .slice ab lb cb, .slice ad ld cd] w fun e w' => e = .returned (.bool true) ∧ Below w.heap.size w w' := by
  have HD : Hid (Bys w ka n key ∧ Bys w aa la xa ∧ Bys w ab lb xb ∧ Bys w ad ld xd) := Lib.hid ⟨hk, ha, hb, hd⟩
  have HKN := Lib.hid hk.1
  have HLA := Lib.hid ha.1
  clear hk ha hb hd
  have HEX := Lib.hid (fun W => works_c W)
  obtain ⟨rb, hrb⟩ : ∃ r, r = rightB size n := ⟨_, rfl⟩
  by_cases hcs : rb = true ∧ la ≤ 200 ∧ lb ≤ 200 ∧ ld ≤ 200
  · obtain ⟨hr, p1, p2, p3⟩ := hcs
    rw [hrb] at hr
    have hr2 := hr
    obtain ⟨hr1, hr2, hr3⟩ : 1 ≤ size ∧ size ≤ 32 ∧ n ≤ 32 := by unfold rightB at hr2; simpa using hr2
    obtain ⟨wide, rfl⟩ : ∃ wide : Nat, size = (wide : Int) := ⟨size.toNat, by omega⟩
    have h1 : 1 ≤ wide := by omega
    have h2 : wide ≤ 32 := by omega
    have h3 : n ≤ 32 := hr3
    have HRR := Lib.hid hr
    have q1 : ¬ (200 : Int) < (la : Int) := by omega
    have q2 : ¬ (200 : Int) < (lb : Int) := by omega
    have q3 : ¬ (200 : Int) < (ld : Int) := by omega
    clear hr hr1 hr2 hr3 hrb
    go_enter Try.func8, Try.ntmps8
    go_wp2_with fail
    refine (right_c _ ka n kc _).mono ?_
    rintro e w' ⟨rfl, rfl⟩
    rw [HRR.out]
    go_wp2_with fail
    refine (new_c wide ka n kc key _ HD.out.1 h1 h2 h3).mono ?_
    rintro e w1 ⟨h_, rfl, hh, hge, hb⟩
    have HGE := Lib.hid hge
    have HB := Lib.hid hb
    have HD := Lib.hid (⟨HD.out.1.below hb, HD.out.2.1.below hb, HD.out.2.2.1.below hb, HD.out.2.2.2.below hb⟩ : Bys _ ka n key ∧ Bys _ aa la xa ∧ Bys _ ab lb xb ∧ Bys _ ad ld xd)
    have HH := Lib.hid hh
    have HKB : Hid ((keyB key).length ≤ 64) := Lib.hid (by
      unfold keyB
      by_cases hk0 : key = []
      · rw [if_pos hk0]; simp
      · rw [if_neg hk0, pad_len key (by have := HKN.out; omega)]; omega)
    clear hh hge hb
    go_wp2_with fail
    refine (write_c h_ _ _ wide _ aa la ca _ _ HH.out HD.out.2.1 (by omega) (by have := HKB.out; omega) (by omega)).mono ?_
    rintro e w2 ⟨rfl, hh, hO⟩
    have HD := Lib.hid (⟨HD.out.1.only hO (HH.out.apart HD.out.1), HD.out.2.1.only hO (HH.out.apart HD.out.2.1), HD.out.2.2.1.only hO (HH.out.apart HD.out.2.2.1), HD.out.2.2.2.only hO (HH.out.apart HD.out.2.2.2)⟩ : Bys _ ka n key ∧ Bys _ aa la xa ∧ Bys _ ab lb xb ∧ Bys _ ad ld xd)
    have HH := Lib.hid hh
    have HB := Lib.hid (HB.out.trans (hO.below HB.out.size HGE.out))
    clear hh hO
    go_wp2_with fail
    refine (copy_c h_ _ _ wide _ _ HH.out).mono ?_
    rintro e w3 ⟨rfl, hh, hb⟩
    have hlt := HH.out.lt
    have hge3 := HB.out.size
    have HD := Lib.hid (⟨HD.out.1.below hb, HD.out.2.1.below hb, HD.out.2.2.1.below hb, HD.out.2.2.2.below hb⟩ : Bys _ ka n key ∧ Bys _ aa la xa ∧ Bys _ ab lb xb ∧ Bys _ ad ld xd)
    have HH := Lib.hid (HH.out.below hb)
    have HB := Lib.hid (HB.out.trans (hb.mono HB.out.size))
    generalize w2.heap.size = o_ at hh hlt hge3 ⊢
    have hne : h_ ≠ o_ := by omega
    have HO := Lib.hid hh
    clear hh hb hlt
    go_wp2_with fail
    refine (write_c h_ _ _ wide _ ab lb cb _ _ HH.out HD.out.2.2.1 (by omega) (by have := HKB.out; have := HLA.out; rw [List.length_append]; omega) (by omega)).mono ?_
    rintro e w4 ⟨rfl, hh, hO⟩
    have HD := Lib.hid (⟨HD.out.1.only hO (HH.out.apart HD.out.1), HD.out.2.1.only hO (HH.out.apart HD.out.2.1), HD.out.2.2.1.only hO (HH.out.apart HD.out.2.2.1), HD.out.2.2.2.only hO (HH.out.apart HD.out.2.2.2)⟩ : Bys _ ka n key ∧ Bys _ aa la xa ∧ Bys _ ab lb xb ∧ Bys _ ad ld xd)
    have HO := Lib.hid (HO.out.only HH.out hne.symm hO)
    have HH := Lib.hid hh
    have HB := Lib.hid (HB.out.trans (hO.below HB.out.size HGE.out))
    clear hh hO
    go_wp2_with fail
    refine (write_c o_ _ _ wide _ ad ld cd _ _ HO.out HD.out.2.2.2 (by omega) (by have := HKB.out; have := HLA.out; rw [List.length_append]; omega) (by omega)).mono ?_
    rintro e w6 ⟨rfl, hh, hO⟩
    have HD := Lib.hid (⟨HD.out.1.only hO (HO.out.apart HD.out.1), HD.out.2.1.only hO (HO.out.apart HD.out.2.1), HD.out.2.2.1.only hO (HO.out.apart HD.out.2.2.1), HD.out.2.2.2.only hO (HO.out.apart HD.out.2.2.2)⟩ : Bys _ ka n key ∧ Bys _ aa la xa ∧ Bys _ ab lb xb ∧ Bys _ ad ld xd)
    have HH := Lib.hid (HH.out.only HO.out hne hO)
    have HO := Lib.hid hh
    have HB := Lib.hid (HB.out.trans (hO.below HB.out.size hge3))
    clear hh hO
    have HE := Lib.hid (own_empty w6)
    have hbE := (Below.refl w6.heap.size w6).alloc (Nat.le_refl _) (.cells #[] 5)
    have HA3 := Lib.hid (HD.out.2.1.below hbE)
    go_wp2_with (at_builtin; refine wpl_append_bys rfl (.tmp 58) (.tmp 59) rfl w6.heap.size _ [] rfl HE.out aa la ca xa rfl HA3.out ?c1 ?c2 ?_)
    case c1 => simp; omega
    case c2 => simp
    intro v3 w3 hown3 hg3 _
    have hb23 := hbE.trans (own_grown HE.out hg3 (Nat.le_refl _) (by simp))
    have HO3 := Lib.hid hown3
    have HX3 := Lib.hid (HD.out.2.2.1.below hb23)
    have hz3 := hb23.size
    have HB23 := Lib.hid hb23
    clear hown3 hg3 hb23 HE HA3 hbE
    have hl0 : xa.length = la := HLA.out
    go_wp2_with (at_builtin; refine wpl_append_bys rfl (.tmp 60) (.tmp 61) rfl w6.heap.size _ _ rfl HO3.out ab lb cb xb rfl HX3.out ?c1 ?c2 ?_)
    case c1 => rw [hl0]; omega
    case c2 => exact hz3
    intro v4 w4 hown4 hg4 _
    have hb24 := HB23.out.trans (own_grown HO3.out hg4 (Nat.le_refl _) hz3)
    obtain ⟨ma, mc, rfl, _, hmb⟩ := hown4.bys
    have hl1 : (xa ++ xb).length = la + lb := by rw [List.length_append, hl0, HD.out.2.2.1.1]
    rw [hl1] at hmb ⊢
    have HMB := Lib.hid hmb
    have HD := Lib.hid (⟨HD.out.1.below hb24, HD.out.2.1.below hb24, HD.out.2.2.1.below hb24, HD.out.2.2.2.below hb24⟩ : Bys _ ka n key ∧ Bys _ aa la xa ∧ Bys _ ab lb xb ∧ Bys _ ad ld xd)
    have HB := Lib.hid (HB.out.trans (hb24.mono HB.out.size))
    have HH := Lib.hid (HH.out.below hb24)
    have HO := Lib.hid (HO.out.below hb24)
    clear hown4 hg4 hb24 hmb HO3 HX3 HB23 hl0 hl1 hz3
    go_wp2_with fail
    refine (rkeyed_c wide ka n kc key _ _ _ _ _ HD.out.1 h1 h2 h3 HMB.out (by omega)).mono ?_
    rintro e w5 ⟨v, rfl, hv, hb⟩
    obtain ⟨KX, hK0⟩ : ∃ K, K = keyed wide key (xa ++ xb) := ⟨_, rfl⟩
    rw [← hK0] at hv
    have hKL : KX.length = wide := by rw [hK0]; exact keyed_len _ _ _ h2
    obtain ⟨vx, cx, rfl, _, hsb⟩ := hv.bys
    rw [hKL] at hsb ⊢
    have HKX := Lib.hid hK0
    have HSKX := Lib.hid hsb
    have HD := Lib.hid (⟨HD.out.1.below hb, HD.out.2.1.below hb, HD.out.2.2.1.below hb, HD.out.2.2.2.below hb⟩ : Bys _ ka n key ∧ Bys _ aa la xa ∧ Bys _ ab lb xb ∧ Bys _ ad ld xd)
    have HB := Lib.hid (HB.out.trans (hb.mono HB.out.size))
    have HH := Lib.hid (HH.out.below hb)
    have HO := Lib.hid (HO.out.below hb)
    clear hv hb hK0 hKL hsb HMB

    have HE := Lib.hid (own_empty w5)
    have hbE := (Below.refl w5.heap.size w5).alloc (Nat.le_refl _) (.cells #[] 5)
    have HA3 := Lib.hid (HD.out.2.1.below hbE)
    go_wp2_with (at_builtin; refine wpl_append_bys rfl (.tmp 66) (.tmp 67) rfl w5.heap.size _ [] rfl HE.out aa la ca xa rfl HA3.out ?c1 ?c2 ?_)
    case c1 => simp; omega
    case c2 => simp
    intro v3 w3 hown3 hg3 _
    have hb23 := hbE.trans (own_grown HE.out hg3 (Nat.le_refl _) (by simp))
    have HO3 := Lib.hid hown3
    have HX3 := Lib.hid (HD.out.2.2.2.below hb23)
    have hz3 := hb23.size
    have HB23 := Lib.hid hb23
    clear hown3 hg3 hb23 HE HA3 hbE
    have hl0 : xa.length = la := HLA.out
    go_wp2_with (at_builtin; refine wpl_append_bys rfl (.tmp 68) (.tmp 69) rfl w5.heap.size _ _ rfl HO3.out ad ld cd xd rfl HX3.out ?c1 ?c2 ?_)
    case c1 => rw [hl0]; omega
    case c2 => exact hz3
    intro v4 w4 hown4 hg4 _
    have hb24 := HB23.out.trans (own_grown HO3.out hg4 (Nat.le_refl _) hz3)
    obtain ⟨ma, mc, rfl, _, hmb⟩ := hown4.bys
    have hl1 : (xa ++ xd).length = la + ld := by rw [List.length_append, hl0, HD.out.2.2.2.1]
    rw [hl1] at hmb ⊢
    have HMB := Lib.hid hmb
    have HD := Lib.hid (⟨HD.out.1.below hb24, HD.out.2.1.below hb24, HD.out.2.2.1.below hb24, HD.out.2.2.2.below hb24⟩ : Bys _ ka n key ∧ Bys _ aa la xa ∧ Bys _ ab lb xb ∧ Bys _ ad ld xd)
    have HB := Lib.hid (HB.out.trans (hb24.mono HB.out.size))
    have HH := Lib.hid (HH.out.below hb24)
    have HO := Lib.hid (HO.out.below hb24)
    have HSKX := Lib.hid (HSKX.out.below hb24)
    clear hown4 hg4 hb24 hmb HO3 HX3 HB23 hl0 hl1 hz3
    go_wp2_with fail
    refine (rkeyed_c wide ka n kc key _ _ _ _ _ HD.out.1 h1 h2 h3 HMB.out (by omega)).mono ?_
    rintro e w9 ⟨v, rfl, hv, hb⟩
    obtain ⟨KY, hK0⟩ : ∃ K, K = keyed wide key (xa ++ xd) := ⟨_, rfl⟩
    rw [← hK0] at hv
    have hKL : KY.length = wide := by rw [hK0]; exact keyed_len _ _ _ h2
    obtain ⟨vy, cy, rfl, _, hsb⟩ := hv.bys
    rw [hKL] at hsb ⊢
    have HKY := Lib.hid hK0
    have HSKY := Lib.hid hsb
    have HD := Lib.hid (⟨HD.out.1.below hb, HD.out.2.1.below hb, HD.out.2.2.1.below hb, HD.out.2.2.2.below hb⟩ : Bys _ ka n key ∧ Bys _ aa la xa ∧ Bys _ ab lb xb ∧ Bys _ ad ld xd)
    have HB := Lib.hid (HB.out.trans (hb.mono HB.out.size))
    have HH := Lib.hid (HH.out.below hb)
    have HO := Lib.hid (HO.out.below hb)
    have HSKX := Lib.hid (HSKX.out.below hb)
    clear hv hb hK0 hKL hsb HMB

    have HKX : Hid (sumOf (start wide n) ((keyB key ++ xa) ++ xb) wide = KX) := Lib.hid (by
      rw [HKX.out, keyed, HKN.out, List.append_assoc])
    have HKY : Hid (sumOf (start wide n) ((keyB key ++ xa) ++ xd) wide = KY) := Lib.hid (by
      rw [HKY.out, keyed, HKN.out, List.append_assoc])
    have hbd := (Below.refl w9.heap.size w9).drew
    have HH := Lib.hid (HH.out.below hbd)
    have HO := Lib.hid (HO.out.below hbd)
    have HS : Hid (Bys w9.drew vx wide KX ∧ Bys w9.drew vy wide KY) := Lib.hid ⟨HSKX.out.below hbd, HSKY.out.below hbd⟩
    have HB := Lib.hid HB.out.drew
    have hneq : ∀ l : List By, ((strOf l).toList == (strOf l).toList) = true := fun l => by rw [str_eq]; simp
    have hneq1 := hneq KX
    have hneq2 := hneq KY
    have hw0 : IntKind.i64.wrap 0 = 0 := by decide
    have hS0 := HS.out
    clear hbd hneq
    go_wp2_with fail
    refine wp_region_held_drew (S := (fun W => Bys W vx wide KX ∧ Bys W vy wide KY)) (by kernel_rfl) hS0 ?_
    intro hS0'
    generalize w9.drew = wA at hS0' HB HS HH HO ⊢
    refine wpAnyH_take (i := 0) (v := .int .i64 (0 : Int)) rfl (by kernel_rfl) (by kernel_rfl) (by kernel_rfl) (fun _ _ _ h => h) (Or.inl ⟨by kernel_rfl, fun w hSw => ?_⟩) hS0' ?_
    · go_simp
    try simp only [Act.put, List.getElem_toArray, List.getElem_cons_succ, List.getElem_cons_zero, List.setIfInBounds_toArray, List.set_cons_zero, List.set_cons_succ]
    refine wpAnyH_take (i := 2) (v := .int .i64 (0 : Int)) rfl (by kernel_rfl) (by kernel_rfl) (by kernel_rfl) (fun _ _ _ h => h) (Or.inl ⟨by kernel_rfl, fun w hSw => ?_⟩) hS0' ?_
    · go_simp
    try simp only [Act.put, List.getElem_toArray, List.getElem_cons_succ, List.getElem_cons_zero, List.setIfInBounds_toArray, List.set_cons_zero, List.set_cons_succ]
    refine wpAnyH_take (i := 5) (v := .int .i64 (0 : Int)) rfl (by kernel_rfl) (by kernel_rfl) (by kernel_rfl) (fun _ _ _ h => h) (Or.inl ⟨by kernel_rfl, fun w hSw => ?_⟩) hS0' ?_
    · go_simp
    try simp only [Act.put, List.getElem_toArray, List.getElem_cons_succ, List.getElem_cons_zero, List.setIfInBounds_toArray, List.set_cons_zero, List.set_cons_succ]
    refine wpAnyH_take (i := 8) (v := .int .i64 (0 : Int)) rfl (by kernel_rfl) (by kernel_rfl) (by kernel_rfl) (fun _ _ _ h => h) (Or.inl ⟨by kernel_rfl, fun w hSw => ?_⟩) hS0' ?_
    · go_simp
    try simp only [Act.put, List.getElem_toArray, List.getElem_cons_succ, List.getElem_cons_zero, List.setIfInBounds_toArray, List.set_cons_zero, List.set_cons_succ]
    refine wpAnyH_ready (rs := [1]) (by kernel_rfl) (by simp) ?_
    refine AllReadyH.cons (by rfl) ?_ AllReadyH.nil
    intro K hK
    go_simp
    refine (num_c _ _).mono ?_
    rintro e w' ⟨rfl, rfl⟩
    refine hK.out _ _ hS0' (fun hS1 => ?_)
    clear hK K
    refine wpAnyH_ready (rs := [3]) (by kernel_rfl) (by simp) ?_
    refine AllReadyH.cons (by rfl) ?_ AllReadyH.nil
    intro K hK
    go_simp
    refine (num_c _ _).mono ?_
    rintro e w' ⟨rfl, rfl⟩
    refine hK.out _ _ hS0' (fun hS2 => ?_)
    clear hK K
    refine wpAnyH_take (i := 4) (v := .int .i64 (0 : Int)) rfl (by kernel_rfl) (by kernel_rfl) (by kernel_rfl) (fun _ _ _ h => h) (Or.inl ⟨by kernel_rfl, fun w hSw => ?_⟩) hS2 ?_
    · go_simp
    try simp only [Act.put, List.getElem_toArray, List.getElem_cons_succ, List.getElem_cons_zero, List.setIfInBounds_toArray, List.set_cons_zero, List.set_cons_succ]
    refine wpAnyH_ready (rs := [6]) (by kernel_rfl) (by simp) ?_
    refine AllReadyH.cons (by rfl) ?_ AllReadyH.nil
    intro K hK
    go_simp
    refine (num_c _ _).mono ?_
    rintro e w' ⟨rfl, rfl⟩
    refine hK.out _ _ hS0' (fun hS3 => ?_)
    clear hK K
    refine wpAnyH_take (i := 7) (v := .int .i64 (0 : Int)) rfl (by kernel_rfl) (by kernel_rfl) (by kernel_rfl) (fun _ _ _ h => h) (Or.inl ⟨by kernel_rfl, fun w hSw => ?_⟩) hS3 ?_
    · go_simp
    try simp only [Act.put, List.getElem_toArray, List.getElem_cons_succ, List.getElem_cons_zero, List.setIfInBounds_toArray, List.set_cons_zero, List.set_cons_succ]
    refine wpAnyH_ready (rs := [9]) (by kernel_rfl) (by simp) ?_
    refine AllReadyH.cons (by rfl) ?_ AllReadyH.nil
    intro K hK
    go_simp
    refine (num_c _ _).mono ?_
    rintro e w' ⟨rfl, rfl⟩
    refine hK.out _ _ hS0' (fun hS4 => ?_)
    clear hK K
    refine wpAnyH_take (i := 10) (v := .int .i64 (0 : Int)) rfl (by kernel_rfl) (by kernel_rfl) (by kernel_rfl) (fun _ _ _ h => h) (Or.inl ⟨by kernel_rfl, fun w hSw => ?_⟩) hS4 ?_
    · go_simp
    try simp only [Act.put, List.getElem_toArray, List.getElem_cons_succ, List.getElem_cons_zero, List.setIfInBounds_toArray, List.set_cons_zero, List.set_cons_succ]
    refine wpAnyH_take (i := 11) (v := .bool true) rfl (by kernel_rfl) (by kernel_rfl) (by kernel_rfl) (fun _ _ _ h => h) (Or.inl ⟨by kernel_rfl, fun w hSw => ?_⟩) hS4 ?_
    · go_simp
    try simp only [Act.put, List.getElem_toArray, List.getElem_cons_succ, List.getElem_cons_zero, List.setIfInBounds_toArray, List.set_cons_zero, List.set_cons_succ]
    refine wpAnyH_take (i := 12) (v := .bool true) rfl (by kernel_rfl) (by kernel_rfl) (by kernel_rfl) (fun _ _ _ h => h) (Or.inl ⟨by kernel_rfl, fun w hSw => ?_⟩) hS4 ?_
    · go_simp
    try simp only [Act.put, List.getElem_toArray, List.getElem_cons_succ, List.getElem_cons_zero, List.setIfInBounds_toArray, List.set_cons_zero, List.set_cons_succ]
    refine wpAnyH_take (i := 13) (v := .pointer (some ⟨h_, 0, none⟩)) rfl (by kernel_rfl) (by kernel_rfl) (by kernel_rfl) (fun _ _ _ h => h) (Or.inl ⟨by kernel_rfl, fun w hSw => ?_⟩) hS4 ?_
    · go_simp
    try simp only [Act.put, List.getElem_toArray, List.getElem_cons_succ, List.getElem_cons_zero, List.setIfInBounds_toArray, List.set_cons_zero, List.set_cons_succ]
    refine wpAnyH_take (i := 16) (v := .slice vx wide cx) rfl (by kernel_rfl) (by kernel_rfl) (by kernel_rfl) (fun _ _ _ h => h) (Or.inl ⟨by kernel_rfl, fun w hSw => ?_⟩) hS4 ?_
    · go_simp
    try simp only [Act.put, List.getElem_toArray, List.getElem_cons_succ, List.getElem_cons_zero, List.setIfInBounds_toArray, List.set_cons_zero, List.set_cons_succ]
    refine wpAnyH_take (i := 17) (v := .string (strOf KX)) rfl (by kernel_rfl) (by kernel_rfl) (by kernel_rfl) (fun _ _ _ h => h) (Or.inl ⟨by kernel_rfl, fun w hSw => ?_⟩) hS4 ?_
    · have hs1 := run_str w vx wide cx KX hSw.1
      clear hSw
      go_simp
    try simp only [Act.put, List.getElem_toArray, List.getElem_cons_succ, List.getElem_cons_zero, List.setIfInBounds_toArray, List.set_cons_zero, List.set_cons_succ]
    refine wpAnyH_ready (rs := [14]) (by kernel_rfl) (by simp) ?_
    refine AllReadyH.cons (by rfl) ?_ AllReadyH.nil
    intro K hK
    go_simp
    refine (sum_c h_ _ _ wide _ _ HH.out).mono ?_
    rintro e wm1 ⟨v, rfl, hv, hb⟩
    have HB := Lib.hid (HB.out.trans (hb.mono HB.out.size))
    have HS := Lib.hid (⟨HS.out.1.below hb, HS.out.2.below hb⟩ : Bys _ vx wide KX ∧ Bys _ vy wide KY)
    have HO := Lib.hid (HO.out.below hb)
    rw [HKX.out] at hv
    obtain ⟨ra, rc, rfl, _, hrb⟩ := hv.bys
    have hs4 := run_str wm1 ra _ rc KX hrb
    clear hb hv hrb
    refine hK.out _ _ HS.out (fun hS5 => ?_)
    clear hK K
    refine wpAnyH_ready (rs := [15]) (by kernel_rfl) (by simp) ?_
    refine AllReadyH.cons (by rfl) ?_ AllReadyH.nil
    intro K hK
    go_simp
    clear hs4
    refine hK.out _ _ HS.out (fun hS6 => ?_)
    clear hK K
    refine wpAnyH_ready (rs := [18]) (by kernel_rfl) (by simp) ?_
    refine AllReadyH.cons (by rfl) ?_ AllReadyH.nil
    intro K hK
    go_simp
    refine hK.out _ _ HS.out (fun hS7 => ?_)
    clear hK K
    refine wpAnyH_take (i := 19) (v := .bool true) rfl (by kernel_rfl) (by kernel_rfl) (by kernel_rfl) (fun _ _ _ h => h) (Or.inl ⟨by kernel_rfl, fun w hSw => ?_⟩) hS7 ?_
    · go_simp
    try simp only [Act.put, List.getElem_toArray, List.getElem_cons_succ, List.getElem_cons_zero, List.setIfInBounds_toArray, List.set_cons_zero, List.set_cons_succ]
    refine wpAnyH_take (i := 20) (v := .bool true) rfl (by kernel_rfl) (by kernel_rfl) (by kernel_rfl) (fun _ _ _ h => h) (Or.inl ⟨by kernel_rfl, fun w hSw => ?_⟩) hS7 ?_
    · go_simp
    try simp only [Act.put, List.getElem_toArray, List.getElem_cons_succ, List.getElem_cons_zero, List.setIfInBounds_toArray, List.set_cons_zero, List.set_cons_succ]
    refine wpAnyH_take (i := 21) (v := .pointer (some ⟨o_, 0, none⟩)) rfl (by kernel_rfl) (by kernel_rfl) (by kernel_rfl) (fun _ _ _ h => h) (Or.inl ⟨by kernel_rfl, fun w hSw => ?_⟩) hS7 ?_
    · go_simp
    try simp only [Act.put, List.getElem_toArray, List.getElem_cons_succ, List.getElem_cons_zero, List.setIfInBounds_toArray, List.set_cons_zero, List.set_cons_succ]
    refine wpAnyH_take (i := 24) (v := .slice vy wide cy) rfl (by kernel_rfl) (by kernel_rfl) (by kernel_rfl) (fun _ _ _ h => h) (Or.inl ⟨by kernel_rfl, fun w hSw => ?_⟩) hS7 ?_
    · go_simp
    try simp only [Act.put, List.getElem_toArray, List.getElem_cons_succ, List.getElem_cons_zero, List.setIfInBounds_toArray, List.set_cons_zero, List.set_cons_succ]
    refine wpAnyH_take (i := 25) (v := .string (strOf KY)) rfl (by kernel_rfl) (by kernel_rfl) (by kernel_rfl) (fun _ _ _ h => h) (Or.inl ⟨by kernel_rfl, fun w hSw => ?_⟩) hS7 ?_
    · have hs1 := run_str w vy wide cy KY hSw.2
      clear hSw
      go_simp
    try simp only [Act.put, List.getElem_toArray, List.getElem_cons_succ, List.getElem_cons_zero, List.setIfInBounds_toArray, List.set_cons_zero, List.set_cons_succ]
    refine wpAnyH_ready (rs := [22]) (by kernel_rfl) (by simp) ?_
    refine AllReadyH.cons (by rfl) ?_ AllReadyH.nil
    intro K hK
    go_simp
    refine (sum_c o_ _ _ wide _ _ HO.out).mono ?_
    rintro e wm2 ⟨v, rfl, hv, hb⟩
    have HB := Lib.hid (HB.out.trans (hb.mono HB.out.size))
    have HS := Lib.hid (⟨HS.out.1.below hb, HS.out.2.below hb⟩ : Bys _ vx wide KX ∧ Bys _ vy wide KY)
    rw [HKY.out] at hv
    obtain ⟨ra2, rc2, rfl, _, hrb⟩ := hv.bys
    have hs4 := run_str wm2 ra2 _ rc2 KY hrb
    clear hb hv hrb
    refine hK.out _ _ HS.out (fun hS8 => ?_)
    clear hK K
    refine wpAnyH_ready (rs := [23]) (by kernel_rfl) (by simp) ?_
    refine AllReadyH.cons (by rfl) ?_ AllReadyH.nil
    intro K hK
    go_simp
    clear hs4
    refine hK.out _ _ HS.out (fun hS9 => ?_)
    clear hK K
    refine wpAnyH_ready (rs := [26]) (by kernel_rfl) (by simp) ?_
    refine AllReadyH.cons (by rfl) ?_ AllReadyH.nil
    intro K hK
    go_simp
    refine hK.out _ _ HS.out (fun hS10 => ?_)
    clear hK K
    refine wpAnyH_take (i := 27) (v := .bool true) rfl (by kernel_rfl) (by kernel_rfl) (by kernel_rfl) (fun _ _ _ h => h) (Or.inl ⟨by kernel_rfl, fun w hSw => ?_⟩) hS10 ?_
    · go_simp
    try simp only [Act.put, List.getElem_toArray, List.getElem_cons_succ, List.getElem_cons_zero, List.setIfInBounds_toArray, List.set_cons_zero, List.set_cons_succ]
    refine wpAnyH_take (i := 28) (v := .bool true) rfl (by kernel_rfl) (by kernel_rfl) (by kernel_rfl) (fun _ _ _ h => h) (Or.inl ⟨by kernel_rfl, fun w hSw => ?_⟩) hS10 ?_
    · go_simp
    try simp only [Act.put, List.getElem_toArray, List.getElem_cons_succ, List.getElem_cons_zero, List.setIfInBounds_toArray, List.set_cons_zero, List.set_cons_succ]
    refine wpAnyH_ready (rs := [29]) (by kernel_rfl) (by simp) ?_
    refine AllReadyH.cons (by rfl) ?_ AllReadyH.nil
    intro K hK
    go_simp
    refine (works_c _).mono ?_
    rintro e wm3 ⟨rfl, hb⟩
    have HB := Lib.hid (HB.out.trans (hb.mono HB.out.size))
    have HS := Lib.hid (⟨HS.out.1.below hb, HS.out.2.below hb⟩ : Bys _ vx wide KX ∧ Bys _ vy wide KY)
    clear hb
    refine hK.out _ _ HS.out (fun hS11 => ?_)
    clear hK K
    refine wpAnyH_take (i := 30) (v := .bool true) rfl (by kernel_rfl) (by kernel_rfl) (by kernel_rfl) (fun _ _ _ h => h) (Or.inl ⟨by kernel_rfl, fun w hSw => ?_⟩) hS11 ?_
    · go_simp
    try simp only [Act.put, List.getElem_toArray, List.getElem_cons_succ, List.getElem_cons_zero, List.setIfInBounds_toArray, List.set_cons_zero, List.set_cons_succ]
    refine wpAnyH_take (i := 31) (v := .bool true) rfl (by kernel_rfl) (by kernel_rfl) (by kernel_rfl) (fun _ _ _ h => h) (Or.inl ⟨by kernel_rfl, fun w hSw => ?_⟩) hS11 ?_
    · go_simp
    try simp only [Act.put, List.getElem_toArray, List.getElem_cons_succ, List.getElem_cons_zero, List.setIfInBounds_toArray, List.set_cons_zero, List.set_cons_succ]
    refine wpAnyH_done (by kernel_rfl) ?_ _
    go_wp2_with fail
    go_ret
    exact ⟨rfl, HB.out⟩
  · have fin : ∀ (W : World) , True := fun _ => trivial
    cases hr : rb with
    | false =>
      rw [hrb] at hr
      have HRR := Lib.hid hr
      clear hr hrb hcs
      go_enter Try.func8, Try.ntmps8
      go_wp2_with fail
      refine (right_c _ ka n kc _).mono ?_
      rintro e w' ⟨rfl, rfl⟩
      rw [HRR.out]
      go_wp2_with fail
      refine (HEX.out _).mono ?_
      rintro e w3 ⟨rfl, hb⟩
      have HB3 := Lib.hid hb
      clear hb
      go_wp2_with fail
      go_ret
      exact ⟨rfl, HB3.out⟩
    | true =>
      rw [hrb] at hr
      have HRR := Lib.hid hr
      have hcs' : ¬ (la ≤ 200 ∧ lb ≤ 200 ∧ ld ≤ 200) := fun e => hcs ⟨by rw [hrb]; exact hr, e⟩
      clear hr hrb hcs
      by_cases p1 : la ≤ 200
      · by_cases p2 : lb ≤ 200
        · have q1 : ¬ (200 : Int) < (la : Int) := by omega
          have q2 : ¬ (200 : Int) < (lb : Int) := by omega
          have q3 : (200 : Int) < (ld : Int) := by omega
          clear hcs'
          go_enter Try.func8, Try.ntmps8
          go_wp2_with fail
          refine (right_c _ ka n kc _).mono ?_
          rintro e w' ⟨rfl, rfl⟩
          rw [HRR.out]
          go_wp2_with fail
          refine (HEX.out _).mono ?_
          rintro e w3 ⟨rfl, hb⟩
          have HB3 := Lib.hid hb
          clear hb
          go_wp2_with fail
          go_ret
          exact ⟨rfl, HB3.out⟩
        · have q1 : ¬ (200 : Int) < (la : Int) := by omega
          have q2 : (200 : Int) < (lb : Int) := by omega
          clear hcs'
          go_enter Try.func8, Try.ntmps8
          go_wp2_with fail
          refine (right_c _ ka n kc _).mono ?_
          rintro e w' ⟨rfl, rfl⟩
          rw [HRR.out]
          go_wp2_with fail
          refine (HEX.out _).mono ?_
          rintro e w3 ⟨rfl, hb⟩
          have HB3 := Lib.hid hb
          clear hb
          go_wp2_with fail
          go_ret
          exact ⟨rfl, HB3.out⟩
      · have q1 : (200 : Int) < (la : Int) := by omega
        clear hcs'
        go_enter Try.func8, Try.ntmps8
        go_wp2_with fail
        refine (right_c _ ka n kc _).mono ?_
        rintro e w' ⟨rfl, rfl⟩
        rw [HRR.out]
        go_wp2_with fail
        refine (HEX.out _).mono ?_
        rintro e w3 ⟨rfl, hb⟩
        have HB3 := Lib.hid hb
        clear hb
        go_wp2_with fail
        go_ret
        exact ⟨rfl, HB3.out⟩
end Go.Proofs.Yticgknjjhkgggaa
