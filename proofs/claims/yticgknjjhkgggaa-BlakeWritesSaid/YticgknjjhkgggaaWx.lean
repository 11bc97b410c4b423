/- The walk of BlakeSums. -/
import Derived.Test.YticgknjjhkgggaaWw
namespace Go.Proofs.Yticgknjjhkgggaa
open Go.RowKit
set_option linter.unusedSimpArgs false
set_option linter.unusedVariables false

set_option maxRecDepth 100000 in
set_option maxHeartbeats 2000000 in
theorem sums_walk (a : Option Addr) (n c : Nat) (ps : List (List By)) (w : World) (h : PrsX w a n ps) : Calls Try.prog 5 #[.slice a n c] w fun e w' => e = .returned (.bool true) ∧ Below w.heap.size w w' := by
  have H := Lib.hid h
  clear h
  have z36 := zero36
  obtain ⟨Z, hZ⟩ : ∃ Z, Z = bya (List.replicate 32 0#8) := ⟨_, rfl⟩
  rw [← hZ] at z36
  have HZ : Hid (Z.size = 32) := Lib.hid (by rw [hZ, bya_size, List.length_replicate])
  clear hZ
  go_enter Try.func5, Try.ntmps5
  go_wp2_with fail
  refine (joined_c a n c ps _ H.out).mono ?_
  rintro e w2 ⟨v, ok, rfl, hb, hok⟩
  have HB := Lib.hid hb
  have HOK := Lib.hid hok
  clear hb hok
  cases ok with
  | false =>
    go_wp2_with fail
    refine (works_c _).mono ?_
    rintro e w3 ⟨rfl, hb⟩
    have HB3 := Lib.hid (HB.out.trans (hb.mono HB.out.size))
    clear hb
    go_wp2_with fail
    go_ret
    exact ⟨rfl, HB3.out⟩
  | true =>
    obtain ⟨hown, hn20, hl200⟩ := HOK.out rfl
    obtain ⟨b, hbd⟩ : ∃ b, b = ps.flatten := ⟨_, rfl⟩
    have hbl : b.length ≤ 4000 := by
      rw [hbd]
      have := flat_bound ps 200 hl200
      have := H.out.1
      omega
    rw [← hbd] at hown
    obtain ⟨va, vc, rfl, _, hvb⟩ := hown.bys
    have HPr := Lib.hid ((H.out.prs (fun p hp => by have := hl200 p hp; omega)).below HB.out)
    obtain ⟨m, hm⟩ : ∃ m, m = b.length := ⟨_, rfl⟩
    rw [← hm] at hvb hbl ⊢
    have HVB := Lib.hid hvb
    have HBD := Lib.hid hbd
    have HMm := Lib.hid hm
    clear hown hvb hl200 hm HOK hbd
    go_wp2_with fail
    refine (bsum_c a n c ps _ HPr.out (by omega) (by rw [← HBD.out, ← HMm.out]; omega)).mono ?_
    rintro e w3 ⟨rfl, hb⟩
    have HVB := Lib.hid (HVB.out.below hb)
    have HB := Lib.hid (HB.out.trans (hb.mono HB.out.size))
    rw [← HBD.out]
    obtain ⟨KS, hK⟩ : ∃ K, K = keyed 32 [] b := ⟨_, rfl⟩
    rw [← hK]
    have HKK : Hid (keyed 32 [] b = KS) := Lib.hid hK.symm
    have HKL : Hid (KS.length = 32) := Lib.hid (by rw [hK]; exact sumOf32_len _)
    have HKT : Hid (KS.take 32 = KS) := Lib.hid (List.take_of_length_le (by rw [HKL.out]; exact Nat.le_refl _))
    clear hb hK
    go_upto_region 5 with (refine wpl_store_blk rfl 36 _ _ rfl w3.heap.size 36 Z (bya KS) rfl rfl (Blk.new w3 36 Z) (by rw [HZ.out, bya_size, HKL.out]) (by rw [bya_size, HKL.out]; exact info36) (bya_one _) ?_; intro w4 hB4 hO4 hz4)
    have hb4 : Below w3.heap.size w3 w4 := ((Below.refl w3.heap.size w3).alloc (Nat.le_refl _) _).trans (hO4.below (by simp) (Nat.le_refl _))
    have HB := Lib.hid (HB.out.trans (hb4.mono HB.out.size))
    have HVB := Lib.hid (HVB.out.below hb4)
    generalize w3.heap.size = gs at hB4 ⊢
    have HS := Lib.hid (⟨hB4.drew, HVB.out.below (Below.refl w4.heap.size w4).drew⟩ : Blk w4.drew gs 36 (bya KS) ∧ Bys w4.drew va m b)
    have HB := Lib.hid HB.out.drew
    clear hB4 hO4 hz4 hb4 z36
    simp only [Act.put]
    have hS0 : Blk w4.drew gs 36 (bya KS) ∧ Bys w4.drew va m b := HS.out
    refine wp_region_held_drew (S := (fun W => Blk W gs 36 (bya KS) ∧ Bys W va m b)) (by kernel_rfl) hS0 ?_
    intro hS0'
    generalize w4.drew = wA at hS0' HB HS ⊢
    refine wpAnyH_take (i := 0) (v := .slice (some ⟨gs, 0, none⟩) 32 32) rfl (by kernel_rfl) (by kernel_rfl) (by kernel_rfl) (fun _ _ _ h => h) (Or.inl ⟨by kernel_rfl, fun w hSw => ?_⟩) hS0' ?_
    · go_simp
    try simp only [Act.put, List.getElem_toArray, List.getElem_cons_succ, List.getElem_cons_zero, List.setIfInBounds_toArray, List.set_cons_zero, List.set_cons_succ]
    refine wpAnyH_take (i := 1) (v := .string (strOf KS)) rfl (by kernel_rfl) (by kernel_rfl) (by kernel_rfl) (fun _ _ _ h => h) (Or.inl ⟨by kernel_rfl, fun w hSw => ?_⟩) hS0' ?_
    · have hs1 := run_str w (some ⟨gs, 0, none⟩) 32 32 (KS.take 32) (bys_blk hSw.1 32 (by rw [HKL.out]; decide))
      rw [HKT.out] at hs1
      clear hSw
      go_simp
    try simp only [Act.put, List.getElem_toArray, List.getElem_cons_succ, List.getElem_cons_zero, List.setIfInBounds_toArray, List.set_cons_zero, List.set_cons_succ]
    refine wpAnyH_take (i := 2) (v := .slice va m vc) rfl (by kernel_rfl) (by kernel_rfl) (by kernel_rfl) (fun _ _ _ h => h) (Or.inl ⟨by kernel_rfl, fun w hSw => ?_⟩) hS0' ?_
    · go_simp
    try simp only [Act.put, List.getElem_toArray, List.getElem_cons_succ, List.getElem_cons_zero, List.setIfInBounds_toArray, List.set_cons_zero, List.set_cons_succ]
    refine wpAnyH_ready (rs := [3]) (by kernel_rfl) (by simp) ?_
    refine AllReadyH.cons (by rfl) ?_ AllReadyH.nil
    intro K hK
    go_simp
    refine (rkeyed_c 32 none 0 0 [] va m vc b _ Bys.nil (by decide) (by decide) (by decide) hS0'.2 (by omega)).mono ?_
    rintro e wm1 ⟨v1, rfl, hv1, hb⟩
    have HB := Lib.hid (HB.out.trans (hb.mono HB.out.size))
    have HS := Lib.hid (⟨HS.out.1.below hb HS.out.1.lt, HS.out.2.below hb⟩ : Blk _ gs 36 (bya KS) ∧ Bys _ va m b)
    rw [HKK.out] at hv1
    obtain ⟨ra, rc, rfl, _, hrb⟩ := hv1.bys
    have hs4 := run_str wm1 ra _ rc KS hrb
    clear hb hv1 hrb
    refine hK.out _ _ HS.out (fun hS1 => ?_)
    clear hK K
    refine wpAnyH_ready (rs := [4]) (by kernel_rfl) (by simp) ?_
    refine AllReadyH.cons (by rfl) ?_ AllReadyH.nil
    intro K hK
    go_simp
    clear hs4
    refine hK.out _ _ HS.out (fun hS2 => ?_)
    clear hK K
    refine wpAnyH_ready (rs := [5]) (by kernel_rfl) (by simp) ?_
    refine AllReadyH.cons (by rfl) ?_ AllReadyH.nil
    intro K hK
    go_simp
    refine hK.out _ _ HS.out (fun hS3 => ?_)
    clear hK K
    refine wpAnyH_take (i := 6) (v := .bool true) rfl (by kernel_rfl) (by kernel_rfl) (by kernel_rfl) (fun _ _ _ h => h) (Or.inl ⟨by kernel_rfl, fun w hSw => ?_⟩) hS3 ?_
    · go_simp
    try simp only [Act.put, List.getElem_toArray, List.getElem_cons_succ, List.getElem_cons_zero, List.setIfInBounds_toArray, List.set_cons_zero, List.set_cons_succ]
    refine wpAnyH_ready (rs := [7]) (by kernel_rfl) (by simp) ?_
    refine AllReadyH.cons (by rfl) ?_ AllReadyH.nil
    intro K hK
    go_simp
    refine (works_c _).mono ?_
    rintro e wm3 ⟨rfl, hb⟩
    have HB := Lib.hid (HB.out.trans (hb.mono HB.out.size))
    have HS := Lib.hid (⟨HS.out.1.below hb HS.out.1.lt, HS.out.2.below hb⟩ : Blk _ gs 36 (bya KS) ∧ Bys _ va m b)
    clear hb
    refine hK.out _ _ HS.out (fun hS4 => ?_)
    clear hK K
    refine wpAnyH_take (i := 8) (v := .bool true) rfl (by kernel_rfl) (by kernel_rfl) (by kernel_rfl) (fun _ _ _ h => h) (Or.inl ⟨by kernel_rfl, fun w hSw => ?_⟩) hS4 ?_
    · go_simp
    try simp only [Act.put, List.getElem_toArray, List.getElem_cons_succ, List.getElem_cons_zero, List.setIfInBounds_toArray, List.set_cons_zero, List.set_cons_succ]
    refine wpAnyH_take (i := 9) (v := .bool true) rfl (by kernel_rfl) (by kernel_rfl) (by kernel_rfl) (fun _ _ _ h => h) (Or.inl ⟨by kernel_rfl, fun w hSw => ?_⟩) hS4 ?_
    · go_simp
    try simp only [Act.put, List.getElem_toArray, List.getElem_cons_succ, List.getElem_cons_zero, List.setIfInBounds_toArray, List.set_cons_zero, List.set_cons_succ]
    refine wpAnyH_done (by kernel_rfl) ?_ _
    go_wp2_with fail
    go_ret
    exact ⟨rfl, HB.out⟩
end Go.Proofs.Yticgknjjhkgggaa
