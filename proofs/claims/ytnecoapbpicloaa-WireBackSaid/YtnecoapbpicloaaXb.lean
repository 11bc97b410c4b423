/- The walk of WireBounds. -/
import Derived.Test.YtnecoapbpicloaaXa
namespace Go.Proofs.Ytnecoapbpicloaa
open Go.RowKit
set_option linter.unusedSimpArgs false
set_option linter.unusedVariables false
set_option maxRecDepth 100000

theorem open_seal (l : List By) : openB (sealB l) = true ∧ openL (sealB l) = l := by
  have e : (sealB l).take ((sealB l).length - 4) = l := by
    rw [seal_len, Nat.add_sub_cancel]
    unfold sealB
    exact List.take_left' rfl
  have h1 : openB (sealB l) = true := by
    rw [← seal_eq (sealB l) (by rw [seal_len]; omega), e]
    exact decide_eq_true rfl
  exact ⟨h1, by unfold openL; rw [if_pos h1, e]⟩
/-- A frame that lies ahead is the first one. -/
theorem split_frame (l t : List By) (h : l.length ≤ 4096) : splitB (frameB l ++ t) = (l, (frameB l).length, 0) := by
  have hn := seal_len l
  have ht := takeB_num (n := (sealB l).length) (by omega) (sealB l ++ t)
  have e0 : frameB l ++ t = numB (sealB l).length ++ (sealB l ++ t) := by unfold frameB; rw [List.append_assoc]
  rw [e0]
  obtain ⟨k, hk⟩ : ∃ k, k = (numB (sealB l).length).length := ⟨_, rfl⟩
  have hkp := numB_pos (sealB l).length
  have e1 : ((numB (sealB l).length ++ (sealB l ++ t)).drop k).take (sealB l).length = sealB l := by
    rw [hk, List.drop_left' rfl, List.take_left' rfl]
  have e2 : (takeB (numB (sealB l).length ++ (sealB l ++ t))).2.toNat = k := by rw [ht, hk]; simp
  rw [splitB_ok (by rw [ht]; simp only; omega) (by rw [ht]; simp only; omega) (by rw [ht]; simp only [List.length_append]; omega) (by rw [e2, ht]; simp only; rw [e1]; exact (open_seal l).1)]
  rw [e2, ht]
  simp only
  rw [e1, (open_seal l).2]
  have e3 : (frameB l).length = k + (sealB l).length := by unfold frameB; rw [List.length_append, hk]
  rw [e3]
theorem numB_big : (numB 1048576).length = 3 := by
  rw [numB_ge (by decide), numB_ge (by decide), numB_lt (by decide)]
  rfl

set_option maxHeartbeats 8000000 in
theorem bounds_walk (w : World) : Calls Try.prog 9 #[] w fun e w' => e = .returned (.bool true) ∧ Below w.heap.size w w' := by
  go_enter Try.func9, Try.ntmps9
  go_upto_region 1 with (fail)
  obtain ⟨N, hN⟩ : ∃ N : Nat, N = 1048577 := ⟨_, rfl⟩
  obtain ⟨z1, hz1⟩ : ∃ z : List By, z = List.replicate N 0#8 := ⟨_, rfl⟩
  have hl1 : z1.length = N := by rw [hz1, List.length_replicate]
  have hsz : (strOf z1).size = N := by rw [strOf_size, hl1]
  have HN := Lib.hid hN
  have hNb : N ≤ 1000000000000 := by omega
  have hNi : (1048577 : Int) = (N : Int) := by omega
  have HNI := Lib.hid hNi
  clear hN hNi
  obtain ⟨s, hs⟩ : ∃ s, s = strOf z1 := ⟨_, rfl⟩
  rw [← hs] at hsz
  have HSZ := Lib.hid hsz; have HZ1 := Lib.hid hz1; have HS := Lib.hid hs; have HL1 := Lib.hid hl1
  clear hz1 hl1 hsz hs
  go_wp2_with (refine wpl_make_bys rfl _ _ rfl N 1048577 1048577 ?a1 ?a2 ?a3 ?a4 ?a5 ?_)
  case a1 => rfl
  case a2 => rfl
  case a3 => exact HNI.out
  case a4 => exact HNI.out
  case a5 => exact hNb
  intro w1 ho1 hb1
  rw [← HZ1.out] at ho1
  have q1 := run_str w1 (some ⟨w.heap.size, 0, none⟩) N N z1 (by obtain ⟨a9, c9, e9, _, hy9⟩ := ho1.bys; injection e9 with e1 e2 e3; rw [e1]; rw [HL1.out] at hy9; exact hy9)
  rw [← HS.out] at q1
  have HB1 := Lib.hid hb1
  clear ho1 hb1
  go_wp2_with fail
  refine (wnew_c _).mono ?_
  rintro e w2 ⟨rfl, hw, hb⟩
  have HB2 := Lib.hid (HB1.out.trans (hb.mono HB1.out.size))
  have hz1 := HB1.out.size
  obtain ⟨p, hp⟩ : ∃ p, p = w1.heap.size := ⟨_, rfl⟩
  rw [← hp] at hw ⊢
  have hpw : w.heap.size ≤ p := by omega
  have HW2 := Lib.hid hw
  have hs1 : (1048576 : Int) ≤ (s.size : Int) := by have h1 := HSZ.out; have h2 := HN.out; omega
  have hs2 : 1048576 ≤ s.size := by omega
  clear hp hw hb q1
  go_wp2_with fail
  obtain ⟨s2, hs3⟩ : ∃ s2, s2 = s.extract 0 1048576 := ⟨_, rfl⟩
  have hsz2 : s2.size = 1048576 := by rw [hs3, ByteArray.size_extract]; omega
  rw [← hs3]
  have HSZ2 := Lib.hid hsz2
  have hle2 : s2.size ≤ 1048576 := by omega
  clear hs3 hsz2 hs1 hs2
  refine (wtext_c p _ [] s2 _ HW2.out (by simp) hle2).mono ?_
  rintro e w3 ⟨rfl, v3, hw3, ht3, -⟩
  rw [List.nil_append] at hw3
  have hl3 : (textB (strB s2)).length = 1048579 := by
    unfold textB
    rw [List.length_append, strB_len, HSZ2.out, numB_big]
  obtain ⟨l3, hl3'⟩ : ∃ l3, l3 = textB (strB s2) := ⟨_, rfl⟩
  rw [← hl3'] at hw3 hl3
  have HW3 := Lib.hid hw3; have HL3 := Lib.hid hl3
  have HB3 := Lib.hid (HB2.out.trans (ht3.below HB2.out.size (fun i hi => by rcases hi with hi | hi; omega; cases hi)))
  clear hw3 hl3 hl3' ht3
  go_wp2_with fail
  refine (wtext_long p v3 l3 s _ HW3.out (by have h1 := HSZ.out; have h2 := HN.out; omega)).mono ?_
  rintro e w' ⟨rfl, rfl⟩
  obtain ⟨N2, hN2⟩ : ∃ N : Nat, N = 4096 := ⟨_, rfl⟩
  obtain ⟨z2, hz2⟩ : ∃ z : List By, z = List.replicate N2 0#8 := ⟨_, rfl⟩
  have hzl2 : z2.length = N2 := by rw [hz2, List.length_replicate]
  have HN2 := Lib.hid hN2; have HZ2 := Lib.hid hz2; have HZL2 := Lib.hid hzl2
  have hN2b : N2 ≤ 4096 := by omega
  clear hN2 hz2 hzl2
  go_wp2_with (refine wpl_make_bys rfl _ _ rfl N2 4096 4096 ?b1 ?b2 ?b3 ?b4 ?b5 ?_)
  case b1 => rfl
  case b2 => rfl
  case b3 => have := HN2.out; omega
  case b4 => have := HN2.out; omega
  case b5 => omega
  intro w4 ho4 hb4
  rw [← HZ2.out] at ho4
  have hy4 : Bys w4 (some ⟨w3.heap.size, 0, none⟩) N2 z2 := by obtain ⟨a9, c9, e9, _, hy9⟩ := ho4.bys; injection e9 with e1 e2 e3; rw [e1]; rw [HZL2.out] at hy9; exact hy9
  have HY4 := Lib.hid hy4
  have HW4 := Lib.hid (HW3.out.below hb4)
  have HB4 := Lib.hid (HB3.out.trans (hb4.mono HB3.out.size))
  clear ho4 hb4 hy4
  go_wp2_with fail
  refine (frame_c _ N2 N2 z2 _ HY4.out hN2b).mono ?_
  rintro e w5 ⟨v5, rfl, ho5, hb5⟩
  obtain ⟨f5, hf5⟩ : ∃ f, f = frameB z2 := ⟨_, rfl⟩
  rw [← hf5] at ho5
  obtain ⟨a5, c5, rfl, hc5, hy5⟩ := ho5.bys
  have hlen5 : f5.length ≤ 5000 := by
    rw [hf5]
    have := frame_len (l := z2) (by have := HZL2.out; omega)
    have := HZL2.out
    omega
  obtain ⟨m5, hm5⟩ : ∃ m5, m5 = f5.length := ⟨_, rfl⟩
  rw [← hm5] at hy5 hc5 hlen5 ⊢
  have HY5 := Lib.hid hy5; have HF5 := Lib.hid hf5; have HM5 := Lib.hid hm5
  have HW5 := Lib.hid (HW4.out.below hb5)
  have HB5 := Lib.hid (HB4.out.trans (hb5.mono HB4.out.size))
  clear hb5 ho5 hy5 hf5 hm5
  obtain ⟨N3, hN3⟩ : ∃ N : Nat, N = 4097 := ⟨_, rfl⟩
  have HN3 := Lib.hid hN3
  have hN3b : 4096 < N3 := by omega
  clear hN3
  go_wp2_with (refine wpl_make_bys rfl _ _ rfl N3 4097 4097 ?d1 ?d2 ?d3 ?d4 ?d5 ?_)
  case d1 => rfl
  case d2 => rfl
  case d3 => have := HN3.out; omega
  case d4 => have := HN3.out; omega
  case d5 => have := HN3.out; omega
  intro w6 _ hb6
  have HY6 := Lib.hid (HY5.out.below hb6)
  have HW6 := Lib.hid (HW5.out.below hb6)
  have HB6 := Lib.hid (HB5.out.trans (hb6.mono HB5.out.size))
  clear hb6
  go_wp2_with fail
  refine (frame_long _ N3 N3 _ hN3b).mono ?_
  rintro e w' ⟨rfl, rfl⟩
  go_wp2_with fail
  refine (split_c a5 m5 c5 f5 _ HY6.out (by omega) hc5).mono ?_
  rintro e w7 ⟨⟨A7, C7, rfl, -⟩, hb7⟩
  have HW7 := Lib.hid (HW6.out.below hb7)
  have HB7 := Lib.hid (HB6.out.trans (hb7.mono HB6.out.size))
  have e7 : splitB f5 = (z2, m5, 0) := by
    have h := split_frame z2 [] (by have := HZL2.out; omega)
    rw [List.append_nil, ← HF5.out, ← HM5.out] at h
    exact h
  rw [e7]
  simp only
  rw [HZL2.out]
  clear hb7 e7
  have r2 : ((N2 : Int) == 4096) = true := by have := HN2.out; simp; omega
  clear hN2b hN3b
  go_wp2_with fail
  refine (num_c _ _).mono ?_; rintro e w' ⟨rfl, rfl⟩
  go_wp2_with fail
  refine (num_c _ _).mono ?_; rintro e w' ⟨rfl, rfl⟩
  go_wp2_with fail
  refine (num_c _ _).mono ?_; rintro e w' ⟨rfl, rfl⟩
  go_wp2_with fail
  refine (num_c _ _).mono ?_; rintro e w' ⟨rfl, rfl⟩
  go_wp2_with fail
  refine (wall_c p v3 l3 _ HW7.out (by have := HL3.out; omega)).mono ?_
  rintro e w8 ⟨r8, rfl, ho8, hb8⟩
  obtain ⟨a8, c8, rfl, _, _⟩ := ho8.bys
  obtain ⟨K8, hK8⟩ : ∃ K8, K8 = l3.length := ⟨_, rfl⟩
  rw [← hK8]
  have r3 : ((K8 : Int) == 1048579) = true := by have := HL3.out; simp; omega
  have HB8 := Lib.hid (HB7.out.trans (hb8.mono HB7.out.size))
  clear ho8 hb8 hK8
  go_wp2_with fail
  refine (num_c _ _).mono ?_; rintro e w' ⟨rfl, rfl⟩
  go_wp2_with fail
  refine (works_c _).mono ?_; rintro e w9 ⟨rfl, hb9⟩
  have HB9 := Lib.hid (HB8.out.trans (hb9.mono HB8.out.size))
  clear hb9
  go_wp2_with fail
  go_ret
  exact ⟨rfl, HB9.out⟩
end Go.Proofs.Ytnecoapbpicloaa
