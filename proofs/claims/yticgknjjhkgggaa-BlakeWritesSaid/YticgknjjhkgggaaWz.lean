/- The walk of BlakeCuts. -/
import Derived.Test.YticgknjjhkgggaaWy
import Derived.Test.YticgknjjhkgggaaSl
namespace Go.Proofs.Yticgknjjhkgggaa
open Go.RowKit
set_option linter.unusedSimpArgs false
set_option linter.unusedVariables false

theorem Prs.three {w : World} {a a' a2 : Option Addr} {n n' n2 : Nat} {l l' l2 : List By} (c c' c2 : Nat) (t : TypeId) (h : Bys w a n l) (h' : Bys w a' n' l') (h2 : Bys w a2 n2 l2) (hn : n ≤ 1000000000) (hn' : n' ≤ 1000000000) (hn2 : n2 ≤ 1000000000) :
    Prs (w.alloc (.cells #[.slice a n c, .slice a' n' c', .slice a2 n2 c2] t)) (some ⟨w.heap.size, 0, none⟩) 3 [l, l', l2] := by
  have hb := (Below.refl w.heap.size w).alloc (Nat.le_refl _) (.cells #[.slice a n c, .slice a' n' c', .slice a2 n2 c2] t)
  refine ⟨rfl, fun i p hi => ?_⟩
  have hlt : i < 3 := by have := (List.getElem?_eq_some_iff.1 hi).1; simpa using this
  rcases (show i = 0 ∨ i = 1 ∨ i = 2 by omega) with rfl | rfl | rfl
  · obtain rfl : l = p := by simpa using hi
    refine ⟨by rw [h.1]; exact hn, w.heap.size, 0, a, c, rfl, by simp, ?_, ?_⟩
    · rw [h.1]; exact blk0 rfl
    · rw [h.1]; exact h.below hb
  · obtain rfl : l' = p := by simpa using hi
    refine ⟨by rw [h'.1]; exact hn', w.heap.size, 0, a', c', rfl, by simp, ?_, ?_⟩
    · rw [h'.1]; exact blk0 rfl
    · rw [h'.1]; exact h'.below hb
  · obtain rfl : l2 = p := by simpa using hi
    refine ⟨by rw [h2.1]; exact hn2, w.heap.size, 0, a2, c2, rfl, by simp, ?_, ?_⟩
    · rw [h2.1]; exact blk0 rfl
    · rw [h2.1]; exact h2.below hb
theorem Bys.nil_len {w : World} {a : Option Addr} {n : Nat} {l : List By} (h : Bys w a n l) (e : a = none) : n = 0 := by
  rcases Nat.eq_zero_or_pos n with h0 | h0
  · exact h0
  · obtain ⟨g, off, e', _⟩ := h.cells h0
    rw [e] at e'; cases e'
theorem Bys.apart {w : World} {a : Option Addr} {n : Nat} {l : List By} (h : Bys w a n l) {b : Nat} (hb : w.heap.size ≤ b) : ∀ x off, a = some ⟨x, off, none⟩ → 0 < n → x ≠ b := fun x off e h0 => by
  obtain ⟨x', off', e', hx, _⟩ := h.cells h0
  rw [e] at e'; injection e' with e'; injection e' with e1 e2; omega
theorem cut3 (b : List By) (i j : Nat) (hij : i ≤ j) : b.take i ++ ((b.drop i).take (j - i) ++ b.drop j) = b := by
  have : (b.drop i).take (j - i) ++ b.drop j = b.drop i := by
    conv => rhs; rw [← List.take_append_drop (j - i) (b.drop i)]
    rw [List.drop_drop, show i + (j - i) = j by omega]
  rw [this, List.take_append_drop]
set_option maxRecDepth 100000 in
set_option maxHeartbeats 8000000 in
theorem cuts_walk (size : Int) (ka : Option Addr) (n kc : Nat) (key : List By) (ba : Option Addr) (m bc : Nat) (b : List By) (one two : Int) (w : World) (hk : Bys w ka n key) (hb : Bys w ba m b) (hmc : m ≤ bc) :
    Calls Try.prog 7 #[.int .i64 size, .slice ka n kc, .slice ba m bc, .int .i64 one, .int .i64 two] w fun e w' => e = .returned (.bool true) ∧ Below w.heap.size w w' := by
  have HK := Lib.hid hk
  have HBB := Lib.hid hb
  have HBL : Hid (b.length = m) := Lib.hid hb.1
  have HKN := Lib.hid hk.1
  have HNil : Hid (ba = none → m = 0) := Lib.hid (fun e => hb.nil_len e)
  clear hk hb
  have HEX := Lib.hid (fun W => works_c W)
  by_cases hcs : 600 < m ∨ 32 < n ∨ size < 1 ∨ 32 < size
  · by_cases p1 : 600 < m
    · have p1' : (600 : Int) < (m : Int) := by omega
      go_enter Try.func7, Try.ntmps7
      go_wp2_with fail
      refine (HEX.out _).mono ?_
      rintro e w3 ⟨rfl, hb⟩
      have HB3 := Lib.hid hb
      clear hb
      go_wp2_with fail
      go_ret
      exact ⟨rfl, HB3.out⟩
    · have p1' : ¬ (600 : Int) < (m : Int) := by omega
      by_cases p2 : 32 < n
      · have p2' : (32 : Int) < (n : Int) := by omega
        clear hcs
        go_enter Try.func7, Try.ntmps7
        go_wp2_with fail
        refine (HEX.out _).mono ?_
        rintro e w3 ⟨rfl, hb⟩
        have HB3 := Lib.hid hb
        clear hb
        go_wp2_with fail
        go_ret
        exact ⟨rfl, HB3.out⟩
      · have p2' : ¬ (32 : Int) < (n : Int) := by omega
        by_cases p3 : size < 1
        · clear hcs
          go_enter Try.func7, Try.ntmps7
          go_wp2_with fail
          refine (HEX.out _).mono ?_
          rintro e w3 ⟨rfl, hb⟩
          have HB3 := Lib.hid hb
          clear hb
          go_wp2_with fail
          go_ret
          exact ⟨rfl, HB3.out⟩
        · have p4 : 32 < size := by omega
          clear hcs
          go_enter Try.func7, Try.ntmps7
          go_wp2_with fail
          refine (HEX.out _).mono ?_
          rintro e w3 ⟨rfl, hb⟩
          have HB3 := Lib.hid hb
          clear hb
          go_wp2_with fail
          go_ret
          exact ⟨rfl, HB3.out⟩
  · have hm600 : m ≤ 600 := by omega
    have h3w : n ≤ 32 := by omega
    obtain ⟨wide, rfl⟩ : ∃ wide : Nat, size = (wide : Int) := ⟨size.toNat, by omega⟩
    have h1w : 1 ≤ wide := by omega
    have h2w : wide ≤ 32 := by omega
    have p1' : ¬ (600 : Int) < (m : Int) := by omega
    have p2' : ¬ (32 : Int) < (n : Int) := by omega
    have p3' : ¬ (wide : Int) < 1 := by omega
    have p4' : ¬ (32 : Int) < (wide : Int) := by omega
    clear hcs
    go_enter Try.func7, Try.ntmps7
    go_upto_region 3 with (fail)
    go_cut [11] (fun v wx => ∃ i : Nat, i ≤ m ∧ v = .int .i64 (i : Int) ∧ wx = w)
    case first =>
      have hmm : ∃ i : Nat, i ≤ m ∧ max 0 (min (m : Int) one) = (i : Int) := ⟨(max 0 (min (m : Int) one)).toNat, by omega, by omega⟩
      obtain ⟨i, hi, he⟩ := hmm
      go_wp2_with fail
      all_goals (go_meet; exact ⟨i, hi, by congr 1; omega, rfl⟩)
    case rest =>
    obtain ⟨i, hi_, rfl, hw⟩ := hcut
    rw [hw]
    clear hw
    go_upto_region 4 with (fail)
    go_cut [12] (fun v wx => ∃ j : Nat, i ≤ j ∧ j ≤ m ∧ v = .int .i64 (j : Int) ∧ wx = w)
    case first =>
      have hmm : ∃ j : Nat, i ≤ j ∧ j ≤ m ∧ max (i : Int) (min (m : Int) two) = (j : Int) := ⟨(max (i : Int) (min (m : Int) two)).toNat, by omega, by omega, by omega⟩
      obtain ⟨j, hj1, hj2, he⟩ := hmm
      go_wp2_with fail
      all_goals (go_meet; exact ⟨j, hj1, hj2, by congr 1; omega, rfl⟩)
    case rest =>
    obtain ⟨j, hij, hjm, rfl, hw⟩ := hcut
    rw [hw]
    clear hw
    obtain ⟨A2, C2, h2r, hc2, h2⟩ := slice_run ba m bc i j hij hjm hmc HNil.out
    obtain ⟨A3, C3, h3r, hc3, h3⟩ := slice_low ba m bc j hjm hmc HNil.out
    obtain ⟨q2, hq2⟩ : ∃ q, q = j - i := ⟨_, rfl⟩
    obtain ⟨q3, hq3⟩ : ∃ q, q = m - j := ⟨_, rfl⟩
    rw [← hq2] at h2r hc2 h2
    rw [← hq3] at h3r hc3 h3
    have HQ2 := Lib.hid hq2
    have h2l : q2 ≤ 600 := by omega
    have h3l : q3 ≤ 600 := by omega
    have hqs : i + q2 + q3 = m := by omega
    clear hq2 hq3
    have H2R := Lib.hid h2r; have H3R := Lib.hid h3r
    have H2 := Lib.hid h2; have H3 := Lib.hid h3
    clear h2r h3r h2 h3
    have hP1 := Prs.one bc 33 HBB.out (by omega)
    have HP1 := Lib.hid hP1
    have HB1 := Lib.hid ((Below.refl w.heap.size w).alloc (Nat.le_refl _) (.cells #[.slice ba m bc] 33))
    clear hP1
    go_wp2_with fail
    generalize (World.alloc _ _) = w4 at HP1 HB1 ⊢
    refine (keyed_c wide ka n kc key _ 1 1 [b] _ (HK.out.below HB1.out) h1w h2w h3w HP1.out (by decide) (by have := HBL.out; simp; omega)).mono ?_
    rintro e w5 ⟨v, rfl, hv, hb5⟩
    obtain ⟨KS, hKS⟩ : ∃ K, K = keyed wide key b := ⟨_, rfl⟩
    have ef1 : [b].flatten = b := by simp
    rw [ef1, ← hKS] at hv
    have hKLn : KS.length = wide := by rw [hKS]; exact keyed_len _ _ _ h2w
    have HKLn := Lib.hid hKLn
    have HKK : Hid (keyed wide key b = KS) := Lib.hid hKS.symm
    obtain ⟨sa, sc, rfl, _, hsb⟩ := hv.bys
    rw [hKLn] at hsb ⊢
    have hb15 := HB1.out.trans (hb5.mono HB1.out.size)
    have hS5 : Bys w5 ka n key ∧ Bys w5 ba m b ∧ Bys w5 sa wide KS := ⟨HK.out.below hb15, HBB.out.below hb15, hsb⟩
    have HB := Lib.hid hb15
    have HS := Lib.hid hS5
    have HFL : Hid ([b.take i, (b.drop i).take q2, b.drop j].flatten = b) := Lib.hid (by
      rw [HQ2.out]
      simp only [List.flatten_cons, List.flatten_nil, List.append_nil]
      exact cut3 b i j hij)
    clear hv hb5 hKS hsb hKLn hb15 hS5 ef1
    have hbi1 : ¬ (bc : Int) < (i : Int) := by omega
    have hbi2 : (i : Int) ≤ (bc : Int) := by omega
    have hbd := (Below.refl w5.heap.size w5).drew
    have hS0 : Bys w5.drew ka n key ∧ Bys w5.drew ba m b ∧ Bys w5.drew sa wide KS := ⟨HS.out.1.below hbd, HS.out.2.1.below hbd, HS.out.2.2.below hbd⟩
    have HB := Lib.hid HB.out.drew
    have h2r := H2R.out
    have h3r := H3R.out
    have h2 := H2.out
    have h3 := H3.out
    go_wp2_with fail
    refine wp_region_held_drew (S := (fun W => Bys W ka n key ∧ Bys W ba m b ∧ Bys W sa wide KS)) (by kernel_rfl) hS0 ?_
    intro hS0'
    generalize w5.drew = wA at hS0' HB ⊢
    refine wpAnyH_take (i := 0) (v := .int .i64 (wide : Int)) rfl (by kernel_rfl) (by kernel_rfl) (by kernel_rfl) (fun _ _ _ h => h) (Or.inl ⟨by kernel_rfl, fun w hSw => ?_⟩) hS0' ?_
    · go_simp
    try simp only [Act.put, List.getElem_toArray, List.getElem_cons_succ, List.getElem_cons_zero, List.setIfInBounds_toArray, List.set_cons_zero, List.set_cons_succ]
    refine wpAnyH_take (i := 1) (v := .slice ka n kc) rfl (by kernel_rfl) (by kernel_rfl) (by kernel_rfl) (fun _ _ _ h => h) (Or.inl ⟨by kernel_rfl, fun w hSw => ?_⟩) hS0' ?_
    · go_simp
    try simp only [Act.put, List.getElem_toArray, List.getElem_cons_succ, List.getElem_cons_zero, List.setIfInBounds_toArray, List.set_cons_zero, List.set_cons_succ]
    refine wpAnyH_take (i := 2) (v := .slice ba m bc) rfl (by kernel_rfl) (by kernel_rfl) (by kernel_rfl) (fun _ _ _ h => h) (Or.inl ⟨by kernel_rfl, fun w hSw => ?_⟩) hS0' ?_
    · go_simp
    try simp only [Act.put, List.getElem_toArray, List.getElem_cons_succ, List.getElem_cons_zero, List.setIfInBounds_toArray, List.set_cons_zero, List.set_cons_succ]
    refine wpAnyH_take (i := 3) (v := .int .i64 (i : Int)) rfl (by kernel_rfl) (by kernel_rfl) (by kernel_rfl) (fun _ _ _ h => h) (Or.inl ⟨by kernel_rfl, fun w hSw => ?_⟩) hS0' ?_
    · go_simp
    try simp only [Act.put, List.getElem_toArray, List.getElem_cons_succ, List.getElem_cons_zero, List.setIfInBounds_toArray, List.set_cons_zero, List.set_cons_succ]
    refine wpAnyH_take (i := 4) (v := .slice ba i bc) rfl (by kernel_rfl) (by kernel_rfl) (by kernel_rfl) (fun _ _ _ h => h) (Or.inl ⟨by kernel_rfl, fun w hSw => ?_⟩) hS0' ?_
    · go_simp
    try simp only [Act.put, List.getElem_toArray, List.getElem_cons_succ, List.getElem_cons_zero, List.setIfInBounds_toArray, List.set_cons_zero, List.set_cons_succ]
    refine wpAnyH_take (i := 5) (v := .slice ba m bc) rfl (by kernel_rfl) (by kernel_rfl) (by kernel_rfl) (fun _ _ _ h => h) (Or.inl ⟨by kernel_rfl, fun w hSw => ?_⟩) hS0' ?_
    · go_simp
    try simp only [Act.put, List.getElem_toArray, List.getElem_cons_succ, List.getElem_cons_zero, List.setIfInBounds_toArray, List.set_cons_zero, List.set_cons_succ]
    refine wpAnyH_take (i := 6) (v := .int .i64 (i : Int)) rfl (by kernel_rfl) (by kernel_rfl) (by kernel_rfl) (fun _ _ _ h => h) (Or.inl ⟨by kernel_rfl, fun w hSw => ?_⟩) hS0' ?_
    · go_simp
    try simp only [Act.put, List.getElem_toArray, List.getElem_cons_succ, List.getElem_cons_zero, List.setIfInBounds_toArray, List.set_cons_zero, List.set_cons_succ]
    refine wpAnyH_take (i := 7) (v := .int .i64 (j : Int)) rfl (by kernel_rfl) (by kernel_rfl) (by kernel_rfl) (fun _ _ _ h => h) (Or.inl ⟨by kernel_rfl, fun w hSw => ?_⟩) hS0' ?_
    · go_simp
    try simp only [Act.put, List.getElem_toArray, List.getElem_cons_succ, List.getElem_cons_zero, List.setIfInBounds_toArray, List.set_cons_zero, List.set_cons_succ]
    refine wpAnyH_take (i := 8) (v := .slice A2 q2 C2) rfl (by kernel_rfl) (by kernel_rfl) (by kernel_rfl) (fun _ _ _ h => h) (Or.inl ⟨by kernel_rfl, fun w hSw => ?_⟩) hS0' ?_
    · go_simp
    try simp only [Act.put, List.getElem_toArray, List.getElem_cons_succ, List.getElem_cons_zero, List.setIfInBounds_toArray, List.set_cons_zero, List.set_cons_succ]
    refine wpAnyH_take (i := 9) (v := .slice ba m bc) rfl (by kernel_rfl) (by kernel_rfl) (by kernel_rfl) (fun _ _ _ h => h) (Or.inl ⟨by kernel_rfl, fun w hSw => ?_⟩) hS0' ?_
    · go_simp
    try simp only [Act.put, List.getElem_toArray, List.getElem_cons_succ, List.getElem_cons_zero, List.setIfInBounds_toArray, List.set_cons_zero, List.set_cons_succ]
    refine wpAnyH_take (i := 10) (v := .int .i64 (j : Int)) rfl (by kernel_rfl) (by kernel_rfl) (by kernel_rfl) (fun _ _ _ h => h) (Or.inl ⟨by kernel_rfl, fun w hSw => ?_⟩) hS0' ?_
    · go_simp
    try simp only [Act.put, List.getElem_toArray, List.getElem_cons_succ, List.getElem_cons_zero, List.setIfInBounds_toArray, List.set_cons_zero, List.set_cons_succ]
    refine wpAnyH_take (i := 11) (v := .slice A3 q3 C3) rfl (by kernel_rfl) (by kernel_rfl) (by kernel_rfl) (fun _ _ _ h => h) (Or.inl ⟨by kernel_rfl, fun w hSw => ?_⟩) hS0' ?_
    · go_simp
    try simp only [Act.put, List.getElem_toArray, List.getElem_cons_succ, List.getElem_cons_zero, List.setIfInBounds_toArray, List.set_cons_zero, List.set_cons_succ]
    refine wpAnyH_ready (rs := [12]) (by kernel_rfl) (by simp) ?_
    refine AllReadyH.cons (by rfl) ?_ AllReadyH.nil
    intro K hK
    go_simp
    have hp3 := Prs.three bc C2 C3 33 (hS0'.2.1.take i hi_) (h2 _ _ hS0'.2.1) (h3 _ _ hS0'.2.1) (by omega) (by omega) (by omega)
    have hs1 := (Below.refl wA.heap.size wA).alloc (Nat.le_refl _) (.cells #[.slice ba i bc, .slice A2 q2 C2, .slice A3 q3 C3] 33)
    have hS1 : Bys (wA.alloc (.cells #[.slice ba i bc, .slice A2 q2 C2, .slice A3 q3 C3] 33)) ka n key ∧ Bys (wA.alloc (.cells #[.slice ba i bc, .slice A2 q2 C2, .slice A3 q3 C3] 33)) ba m b ∧ Bys (wA.alloc (.cells #[.slice ba i bc, .slice A2 q2 C2, .slice A3 q3 C3] 33)) sa wide KS := ⟨hS0'.1.below hs1, hS0'.2.1.below hs1, hS0'.2.2.below hs1⟩
    have hb1 := HB.out.trans (hs1.mono HB.out.size)
    generalize wA.heap.size = gp at hp3 ⊢
    generalize (World.alloc _ _) = wB at hp3 hS1 hb1 ⊢
    have HP3 := Lib.hid hp3
    have HB := Lib.hid hb1
    clear hs1 hp3 hb1
    refine hK.out _ _ hS1 (fun hS1 => ?_)
    clear hK K
    refine wpAnyH_ready (rs := [13]) (by kernel_rfl) (by simp) ?_
    refine AllReadyH.cons (by rfl) ?_ AllReadyH.nil
    intro K hK
    go_simp
    refine (keyed_c wide ka n kc key _ 3 3 _ _ hS1.1 h1w h2w h3w HP3.out (by decide) (by have := HBL.out; rw [HFL.out]; omega)).mono ?_
    rintro e wC ⟨v, rfl, hv, hb⟩
    rw [HFL.out, HKK.out] at hv
    obtain ⟨sa2, sc2, rfl, _, hsb2⟩ := hv.bys
    rw [HKLn.out] at hsb2 ⊢
    have HS2 := Lib.hid hsb2
    have HS := Lib.hid (⟨hS1.1.below hb, hS1.2.1.below hb, hS1.2.2.below hb⟩ : Bys _ ka n key ∧ Bys _ ba m b ∧ Bys _ sa wide KS)
    have HB := Lib.hid (HB.out.trans (hb.mono HB.out.size))
    clear hv hsb2 hb
    refine hK.out _ _ HS.out (fun hS2 => ?_)
    clear hK K
    refine wpAnyH_take (i := 14) (v := .tuple #[.slice sa2 wide sc2, .int .i64 0]) rfl (by kernel_rfl) (by kernel_rfl) (by kernel_rfl) (fun _ _ _ h => h) (Or.inl ⟨by kernel_rfl, fun w hSw => ?_⟩) hS2 ?_
    · go_simp
    try simp only [Act.put, List.getElem_toArray, List.getElem_cons_succ, List.getElem_cons_zero, List.setIfInBounds_toArray, List.set_cons_zero, List.set_cons_succ]
    refine wpAnyH_take (i := 15) (v := .slice sa2 wide sc2) rfl (by kernel_rfl) (by kernel_rfl) (by kernel_rfl) (fun _ _ _ h => h) (Or.inl ⟨by kernel_rfl, fun w hSw => ?_⟩) hS2 ?_
    · go_simp
    try simp only [Act.put, List.getElem_toArray, List.getElem_cons_succ, List.getElem_cons_zero, List.setIfInBounds_toArray, List.set_cons_zero, List.set_cons_succ]
    refine wpAnyH_take (i := 16) (v := .int .i64 (0 : Int)) rfl (by kernel_rfl) (by kernel_rfl) (by kernel_rfl) (fun _ _ _ h => h) (Or.inl ⟨by kernel_rfl, fun w hSw => ?_⟩) hS2 ?_
    · go_simp
    try simp only [Act.put, List.getElem_toArray, List.getElem_cons_succ, List.getElem_cons_zero, List.setIfInBounds_toArray, List.set_cons_zero, List.set_cons_succ]
    refine wpAnyH_take (i := 17) (v := .slice sa2 wide sc2) rfl (by kernel_rfl) (by kernel_rfl) (by kernel_rfl) (fun _ _ _ h => h) (Or.inl ⟨by kernel_rfl, fun w hSw => ?_⟩) hS2 ?_
    · go_simp
    try simp only [Act.put, List.getElem_toArray, List.getElem_cons_succ, List.getElem_cons_zero, List.setIfInBounds_toArray, List.set_cons_zero, List.set_cons_succ]
    refine wpAnyH_take (i := 18) (v := .int .i64 (0 : Int)) rfl (by kernel_rfl) (by kernel_rfl) (by kernel_rfl) (fun _ _ _ h => h) (Or.inl ⟨by kernel_rfl, fun w hSw => ?_⟩) hS2 ?_
    · go_simp
    try simp only [Act.put, List.getElem_toArray, List.getElem_cons_succ, List.getElem_cons_zero, List.setIfInBounds_toArray, List.set_cons_zero, List.set_cons_succ]
    refine wpAnyH_done (by kernel_rfl) ?_ _
    clear h2 h3 h2r h3r hbd
    go_wp2_with fail
    refine (new_c wide ka n kc key _ HS.out.1 h1w h2w h3w).mono ?_
    rintro e w7 ⟨hb_, rfl, hh, hge, hb7⟩
    have NB := Lib.hid (HS.out.2.1.apart hge)
    have NS := Lib.hid (HS.out.2.2.apart hge)
    have NT := Lib.hid (HS2.out.apart hge)
    have hgw := Nat.le_trans HB.out.size hge
    have HKB : Hid ((keyB key).length ≤ 64) := Lib.hid (by
      unfold keyB
      by_cases hk0 : key = []
      · rw [if_pos hk0]; simp
      · rw [if_neg hk0, pad_len key (by have := HKN.out; omega)]; omega)
    have hbd := (Below.refl w7.heap.size w7).drew
    have HH := Lib.hid (hh.below hbd)
    have hb7d := hb7.drew
    have HS : Hid (Bys w7.drew ba m b ∧ Bys w7.drew sa wide KS ∧ Bys w7.drew sa2 wide KS) := Lib.hid ⟨HS.out.2.1.below hb7d, HS.out.2.2.below hb7d, HS2.out.below hb7d⟩
    have HB := Lib.hid (HB.out.trans (hb7d.mono HB.out.size))
    clear hh hb7 hb7d hbd hge HS2
    have h2r := H2R.out
    have h3r := H3R.out
    have h2 := H2.out
    have h3 := H3.out
    have hS0 := HS.out
    go_wp2_with fail
    refine wp_region_held_drew (S := (fun W => Bys W ba m b ∧ Bys W sa wide KS ∧ Bys W sa2 wide KS)) (by kernel_rfl) hS0 ?_
    intro hS0'
    generalize w7.drew = wA at hS0' HB HS HH ⊢
    refine wpAnyH_take (i := 0) (v := .pointer (some ⟨hb_, 0, none⟩)) rfl (by kernel_rfl) (by kernel_rfl) (by kernel_rfl) (fun _ _ _ h => h) (Or.inl ⟨by kernel_rfl, fun w hSw => ?_⟩) hS0' ?_
    · go_simp
    try simp only [Act.put, List.getElem_toArray, List.getElem_cons_succ, List.getElem_cons_zero, List.setIfInBounds_toArray, List.set_cons_zero, List.set_cons_succ]
    refine wpAnyH_take (i := 1) (v := .slice ba m bc) rfl (by kernel_rfl) (by kernel_rfl) (by kernel_rfl) (fun _ _ _ h => h) (Or.inl ⟨by kernel_rfl, fun w hSw => ?_⟩) hS0' ?_
    · go_simp
    try simp only [Act.put, List.getElem_toArray, List.getElem_cons_succ, List.getElem_cons_zero, List.setIfInBounds_toArray, List.set_cons_zero, List.set_cons_succ]
    refine wpAnyH_take (i := 2) (v := .int .i64 (i : Int)) rfl (by kernel_rfl) (by kernel_rfl) (by kernel_rfl) (fun _ _ _ h => h) (Or.inl ⟨by kernel_rfl, fun w hSw => ?_⟩) hS0' ?_
    · go_simp
    try simp only [Act.put, List.getElem_toArray, List.getElem_cons_succ, List.getElem_cons_zero, List.setIfInBounds_toArray, List.set_cons_zero, List.set_cons_succ]
    refine wpAnyH_take (i := 3) (v := .slice ba i bc) rfl (by kernel_rfl) (by kernel_rfl) (by kernel_rfl) (fun _ _ _ h => h) (Or.inl ⟨by kernel_rfl, fun w hSw => ?_⟩) hS0' ?_
    · go_simp
    try simp only [Act.put, List.getElem_toArray, List.getElem_cons_succ, List.getElem_cons_zero, List.setIfInBounds_toArray, List.set_cons_zero, List.set_cons_succ]
    refine wpAnyH_take (i := 5) (v := .pointer (some ⟨hb_, 0, none⟩)) rfl (by kernel_rfl) (by kernel_rfl) (by kernel_rfl) (fun _ _ _ h => h) (Or.inl ⟨by kernel_rfl, fun w hSw => ?_⟩) hS0' ?_
    · go_simp
    try simp only [Act.put, List.getElem_toArray, List.getElem_cons_succ, List.getElem_cons_zero, List.setIfInBounds_toArray, List.set_cons_zero, List.set_cons_succ]
    refine wpAnyH_take (i := 6) (v := .slice ba m bc) rfl (by kernel_rfl) (by kernel_rfl) (by kernel_rfl) (fun _ _ _ h => h) (Or.inl ⟨by kernel_rfl, fun w hSw => ?_⟩) hS0' ?_
    · go_simp
    try simp only [Act.put, List.getElem_toArray, List.getElem_cons_succ, List.getElem_cons_zero, List.setIfInBounds_toArray, List.set_cons_zero, List.set_cons_succ]
    refine wpAnyH_take (i := 7) (v := .int .i64 (i : Int)) rfl (by kernel_rfl) (by kernel_rfl) (by kernel_rfl) (fun _ _ _ h => h) (Or.inl ⟨by kernel_rfl, fun w hSw => ?_⟩) hS0' ?_
    · go_simp
    try simp only [Act.put, List.getElem_toArray, List.getElem_cons_succ, List.getElem_cons_zero, List.setIfInBounds_toArray, List.set_cons_zero, List.set_cons_succ]
    refine wpAnyH_take (i := 8) (v := .int .i64 (j : Int)) rfl (by kernel_rfl) (by kernel_rfl) (by kernel_rfl) (fun _ _ _ h => h) (Or.inl ⟨by kernel_rfl, fun w hSw => ?_⟩) hS0' ?_
    · go_simp
    try simp only [Act.put, List.getElem_toArray, List.getElem_cons_succ, List.getElem_cons_zero, List.setIfInBounds_toArray, List.set_cons_zero, List.set_cons_succ]
    refine wpAnyH_take (i := 9) (v := .slice A2 q2 C2) rfl (by kernel_rfl) (by kernel_rfl) (by kernel_rfl) (fun _ _ _ h => h) (Or.inl ⟨by kernel_rfl, fun w hSw => ?_⟩) hS0' ?_
    · go_simp
    try simp only [Act.put, List.getElem_toArray, List.getElem_cons_succ, List.getElem_cons_zero, List.setIfInBounds_toArray, List.set_cons_zero, List.set_cons_succ]
    refine wpAnyH_take (i := 11) (v := .pointer (some ⟨hb_, 0, none⟩)) rfl (by kernel_rfl) (by kernel_rfl) (by kernel_rfl) (fun _ _ _ h => h) (Or.inl ⟨by kernel_rfl, fun w hSw => ?_⟩) hS0' ?_
    · go_simp
    try simp only [Act.put, List.getElem_toArray, List.getElem_cons_succ, List.getElem_cons_zero, List.setIfInBounds_toArray, List.set_cons_zero, List.set_cons_succ]
    refine wpAnyH_take (i := 12) (v := .slice ba m bc) rfl (by kernel_rfl) (by kernel_rfl) (by kernel_rfl) (fun _ _ _ h => h) (Or.inl ⟨by kernel_rfl, fun w hSw => ?_⟩) hS0' ?_
    · go_simp
    try simp only [Act.put, List.getElem_toArray, List.getElem_cons_succ, List.getElem_cons_zero, List.setIfInBounds_toArray, List.set_cons_zero, List.set_cons_succ]
    refine wpAnyH_take (i := 13) (v := .int .i64 (j : Int)) rfl (by kernel_rfl) (by kernel_rfl) (by kernel_rfl) (fun _ _ _ h => h) (Or.inl ⟨by kernel_rfl, fun w hSw => ?_⟩) hS0' ?_
    · go_simp
    try simp only [Act.put, List.getElem_toArray, List.getElem_cons_succ, List.getElem_cons_zero, List.setIfInBounds_toArray, List.set_cons_zero, List.set_cons_succ]
    refine wpAnyH_take (i := 14) (v := .slice A3 q3 C3) rfl (by kernel_rfl) (by kernel_rfl) (by kernel_rfl) (fun _ _ _ h => h) (Or.inl ⟨by kernel_rfl, fun w hSw => ?_⟩) hS0' ?_
    · go_simp
    try simp only [Act.put, List.getElem_toArray, List.getElem_cons_succ, List.getElem_cons_zero, List.setIfInBounds_toArray, List.set_cons_zero, List.set_cons_succ]
    refine wpAnyH_ready (rs := [4]) (by kernel_rfl) (by simp) ?_
    refine AllReadyH.cons (by rfl) ?_ AllReadyH.nil
    intro K hK
    go_simp
    refine (write_c hb_ _ _ wide _ ba i bc _ _ HH.out (HS.out.1.take i hi_) (by omega) (by have := HKB.out; omega) (by omega)).mono ?_
    rintro e wN ⟨rfl, hh, hO⟩
    have HH := Lib.hid hh
    have HB := Lib.hid (HB.out.trans (hO.below HB.out.size (by omega)))
    have HS := Lib.hid (⟨HS.out.1.only hO NB.out, HS.out.2.1.only hO NS.out, HS.out.2.2.only hO NT.out⟩ : Bys _ ba m b ∧ Bys _ sa wide KS ∧ Bys _ sa2 wide KS)
    clear hh hO
    refine hK.out _ _ HS.out (fun hS1 => ?_)
    clear hK K
    refine wpAnyH_ready (rs := [10]) (by kernel_rfl) (by simp) ?_
    refine AllReadyH.cons (by rfl) ?_ AllReadyH.nil
    intro K hK
    go_simp
    refine (write_c hb_ _ _ wide _ A2 q2 C2 _ _ HH.out (h2 _ _ HS.out.1) (by omega) (by have := HKB.out; have := HBL.out; rw [List.length_append, List.length_take]; omega) (by omega)).mono ?_
    rintro e wN ⟨rfl, hh, hO⟩
    have HH := Lib.hid hh
    have HB := Lib.hid (HB.out.trans (hO.below HB.out.size (by omega)))
    have HS := Lib.hid (⟨HS.out.1.only hO NB.out, HS.out.2.1.only hO NS.out, HS.out.2.2.only hO NT.out⟩ : Bys _ ba m b ∧ Bys _ sa wide KS ∧ Bys _ sa2 wide KS)
    clear hh hO
    refine hK.out _ _ HS.out (fun hS2 => ?_)
    clear hK K
    refine wpAnyH_ready (rs := [15]) (by kernel_rfl) (by simp) ?_
    refine AllReadyH.cons (by rfl) ?_ AllReadyH.nil
    intro K hK
    go_simp
    refine (write_c hb_ _ _ wide _ A3 q3 C3 _ _ HH.out (h3 _ _ HS.out.1) (by omega) (by have := HKB.out; have := HBL.out; rw [List.length_append, List.length_append, List.length_take, List.length_take, List.length_drop]; omega) (by omega)).mono ?_
    rintro e wN ⟨rfl, hh, hO⟩
    have HH := Lib.hid hh
    have HB := Lib.hid (HB.out.trans (hO.below HB.out.size (by omega)))
    have HS := Lib.hid (⟨HS.out.1.only hO NB.out, HS.out.2.1.only hO NS.out, HS.out.2.2.only hO NT.out⟩ : Bys _ ba m b ∧ Bys _ sa wide KS ∧ Bys _ sa2 wide KS)
    clear hh hO
    refine hK.out _ _ HS.out (fun hS3 => ?_)
    clear hK K
    refine wpAnyH_take (i := 16) (v := .int .i64 (0 : Int)) rfl (by kernel_rfl) (by kernel_rfl) (by kernel_rfl) (fun _ _ _ h => h) (Or.inl ⟨by kernel_rfl, fun w hSw => ?_⟩) hS3 ?_
    · go_simp
    try simp only [Act.put, List.getElem_toArray, List.getElem_cons_succ, List.getElem_cons_zero, List.setIfInBounds_toArray, List.set_cons_zero, List.set_cons_succ]
    refine wpAnyH_take (i := 17) (v := .int .i64 (0 : Int)) rfl (by kernel_rfl) (by kernel_rfl) (by kernel_rfl) (fun _ _ _ h => h) (Or.inl ⟨by kernel_rfl, fun w hSw => ?_⟩) hS3 ?_
    · go_simp
    try simp only [Act.put, List.getElem_toArray, List.getElem_cons_succ, List.getElem_cons_zero, List.setIfInBounds_toArray, List.set_cons_zero, List.set_cons_succ]
    refine wpAnyH_take (i := 18) (v := .int .i64 (0 : Int)) rfl (by kernel_rfl) (by kernel_rfl) (by kernel_rfl) (fun _ _ _ h => h) (Or.inl ⟨by kernel_rfl, fun w hSw => ?_⟩) hS3 ?_
    · go_simp
    try simp only [Act.put, List.getElem_toArray, List.getElem_cons_succ, List.getElem_cons_zero, List.setIfInBounds_toArray, List.set_cons_zero, List.set_cons_succ]
    refine wpAnyH_done (by kernel_rfl) ?_ _
    clear h2 h3 h2r h3r
    have hSK : sumOf (start wide n) (((keyB key ++ b.take i) ++ (b.drop i).take q2) ++ b.drop j) wide = KS := by
      rw [← HKK.out, keyed, HKN.out, HQ2.out, List.append_assoc, List.append_assoc, cut3 b i j hij]
    have HSK := Lib.hid hSK
    clear hSK
    have hbd := (Below.refl wN.heap.size wN).drew
    have HH := Lib.hid (HH.out.below hbd)
    have HS : Hid (Bys wN.drew sa wide KS ∧ Bys wN.drew sa2 wide KS) := Lib.hid ⟨HS.out.2.1.below hbd, HS.out.2.2.below hbd⟩
    have HB := Lib.hid HB.out.drew
    have hw0 : IntKind.i64.wrap 0 = 0 := by decide
    have hneq : ((strOf KS).toList == (strOf KS).toList) = true := by rw [str_eq]; simp
    have hS0 := HS.out
    clear hbd
    go_wp2_with fail
    refine wp_region_held_drew (S := (fun W => Bys W sa wide KS ∧ Bys W sa2 wide KS)) (by kernel_rfl) hS0 ?_
    intro hS0'
    generalize wN.drew = wA at hS0' HB HS HH ⊢
    refine wpAnyH_take (i := 0) (v := .int .i64 (0 : Int)) rfl (by kernel_rfl) (by kernel_rfl) (by kernel_rfl) (fun _ _ _ h => h) (Or.inl ⟨by kernel_rfl, fun w hSw => ?_⟩) hS0' ?_
    · go_simp
    try simp only [Act.put, List.getElem_toArray, List.getElem_cons_succ, List.getElem_cons_zero, List.setIfInBounds_toArray, List.set_cons_zero, List.set_cons_succ]
    refine wpAnyH_take (i := 2) (v := .int .i64 (0 : Int)) rfl (by kernel_rfl) (by kernel_rfl) (by kernel_rfl) (fun _ _ _ h => h) (Or.inl ⟨by kernel_rfl, fun w hSw => ?_⟩) hS0' ?_
    · go_simp
    try simp only [Act.put, List.getElem_toArray, List.getElem_cons_succ, List.getElem_cons_zero, List.setIfInBounds_toArray, List.set_cons_zero, List.set_cons_succ]
    refine wpAnyH_take (i := 5) (v := .int .i64 (0 : Int)) rfl (by kernel_rfl) (by kernel_rfl) (by kernel_rfl) (fun _ _ _ h => h) (Or.inl ⟨by kernel_rfl, fun w hSw => ?_⟩) hS0' ?_
    · go_simp
    try simp only [Act.put, List.getElem_toArray, List.getElem_cons_succ, List.getElem_cons_zero, List.setIfInBounds_toArray, List.set_cons_zero, List.set_cons_succ]
    refine wpAnyH_take (i := 8) (v := .int .i64 (0 : Int)) rfl (by kernel_rfl) (by kernel_rfl) (by kernel_rfl) (fun _ _ _ h => h) (Or.inl ⟨by kernel_rfl, fun w hSw => ?_⟩) hS0' ?_
    · go_simp
    try simp only [Act.put, List.getElem_toArray, List.getElem_cons_succ, List.getElem_cons_zero, List.setIfInBounds_toArray, List.set_cons_zero, List.set_cons_succ]
    refine wpAnyH_take (i := 11) (v := .int .i64 (0 : Int)) rfl (by kernel_rfl) (by kernel_rfl) (by kernel_rfl) (fun _ _ _ h => h) (Or.inl ⟨by kernel_rfl, fun w hSw => ?_⟩) hS0' ?_
    · go_simp
    try simp only [Act.put, List.getElem_toArray, List.getElem_cons_succ, List.getElem_cons_zero, List.setIfInBounds_toArray, List.set_cons_zero, List.set_cons_succ]
    refine wpAnyH_take (i := 14) (v := .int .i64 (0 : Int)) rfl (by kernel_rfl) (by kernel_rfl) (by kernel_rfl) (fun _ _ _ h => h) (Or.inl ⟨by kernel_rfl, fun w hSw => ?_⟩) hS0' ?_
    · go_simp
    try simp only [Act.put, List.getElem_toArray, List.getElem_cons_succ, List.getElem_cons_zero, List.setIfInBounds_toArray, List.set_cons_zero, List.set_cons_succ]
    refine wpAnyH_ready (rs := [1]) (by kernel_rfl) (by simp) ?_
    refine AllReadyH.cons (by rfl) ?_ AllReadyH.nil
    intro K hK
    go_simp
    refine (num_c _ _).mono ?_
    rintro e w' ⟨rfl, rfl⟩
    refine hK.out _ _ hS0' (fun hS1 => ?_)
    clear hK K
    refine wpAnyH_ready (rs := [3]) (by kernel_rfl) (by simp) ?_
    refine AllReadyH.cons (by rfl) ?_ AllReadyH.nil
    intro K hK
    go_simp
    refine (num_c _ _).mono ?_
    rintro e w' ⟨rfl, rfl⟩
    refine hK.out _ _ hS0' (fun hS2 => ?_)
    clear hK K
    refine wpAnyH_take (i := 4) (v := .int .i64 (0 : Int)) rfl (by kernel_rfl) (by kernel_rfl) (by kernel_rfl) (fun _ _ _ h => h) (Or.inl ⟨by kernel_rfl, fun w hSw => ?_⟩) hS2 ?_
    · go_simp
    try simp only [Act.put, List.getElem_toArray, List.getElem_cons_succ, List.getElem_cons_zero, List.setIfInBounds_toArray, List.set_cons_zero, List.set_cons_succ]
    refine wpAnyH_ready (rs := [6]) (by kernel_rfl) (by simp) ?_
    refine AllReadyH.cons (by rfl) ?_ AllReadyH.nil
    intro K hK
    go_simp
    refine (num_c _ _).mono ?_
    rintro e w' ⟨rfl, rfl⟩
    refine hK.out _ _ hS0' (fun hS3 => ?_)
    clear hK K
    refine wpAnyH_take (i := 7) (v := .int .i64 (0 : Int)) rfl (by kernel_rfl) (by kernel_rfl) (by kernel_rfl) (fun _ _ _ h => h) (Or.inl ⟨by kernel_rfl, fun w hSw => ?_⟩) hS3 ?_
    · go_simp
    try simp only [Act.put, List.getElem_toArray, List.getElem_cons_succ, List.getElem_cons_zero, List.setIfInBounds_toArray, List.set_cons_zero, List.set_cons_succ]
    refine wpAnyH_ready (rs := [9]) (by kernel_rfl) (by simp) ?_
    refine AllReadyH.cons (by rfl) ?_ AllReadyH.nil
    intro K hK
    go_simp
    refine (num_c _ _).mono ?_
    rintro e w' ⟨rfl, rfl⟩
    refine hK.out _ _ hS0' (fun hS4 => ?_)
    clear hK K
    refine wpAnyH_take (i := 10) (v := .int .i64 (0 : Int)) rfl (by kernel_rfl) (by kernel_rfl) (by kernel_rfl) (fun _ _ _ h => h) (Or.inl ⟨by kernel_rfl, fun w hSw => ?_⟩) hS4 ?_
    · go_simp
    try simp only [Act.put, List.getElem_toArray, List.getElem_cons_succ, List.getElem_cons_zero, List.setIfInBounds_toArray, List.set_cons_zero, List.set_cons_succ]
    refine wpAnyH_ready (rs := [12]) (by kernel_rfl) (by simp) ?_
    refine AllReadyH.cons (by rfl) ?_ AllReadyH.nil
    intro K hK
    go_simp
    refine (num_c _ _).mono ?_
    rintro e w' ⟨rfl, rfl⟩
    refine hK.out _ _ hS0' (fun hS5 => ?_)
    clear hK K
    refine wpAnyH_take (i := 13) (v := .int .i64 (0 : Int)) rfl (by kernel_rfl) (by kernel_rfl) (by kernel_rfl) (fun _ _ _ h => h) (Or.inl ⟨by kernel_rfl, fun w hSw => ?_⟩) hS5 ?_
    · go_simp
    try simp only [Act.put, List.getElem_toArray, List.getElem_cons_succ, List.getElem_cons_zero, List.setIfInBounds_toArray, List.set_cons_zero, List.set_cons_succ]
    refine wpAnyH_ready (rs := [15]) (by kernel_rfl) (by simp) ?_
    refine AllReadyH.cons (by rfl) ?_ AllReadyH.nil
    intro K hK
    go_simp
    refine (num_c _ _).mono ?_
    rintro e w' ⟨rfl, rfl⟩
    refine hK.out _ _ hS0' (fun hS6 => ?_)
    clear hK K
    refine wpAnyH_take (i := 16) (v := .int .i64 (0 : Int)) rfl (by kernel_rfl) (by kernel_rfl) (by kernel_rfl) (fun _ _ _ h => h) (Or.inl ⟨by kernel_rfl, fun w hSw => ?_⟩) hS6 ?_
    · go_simp
    try simp only [Act.put, List.getElem_toArray, List.getElem_cons_succ, List.getElem_cons_zero, List.setIfInBounds_toArray, List.set_cons_zero, List.set_cons_succ]
    refine wpAnyH_take (i := 17) (v := .bool true) rfl (by kernel_rfl) (by kernel_rfl) (by kernel_rfl) (fun _ _ _ h => h) (Or.inl ⟨by kernel_rfl, fun w hSw => ?_⟩) hS6 ?_
    · go_simp
    try simp only [Act.put, List.getElem_toArray, List.getElem_cons_succ, List.getElem_cons_zero, List.setIfInBounds_toArray, List.set_cons_zero, List.set_cons_succ]
    refine wpAnyH_take (i := 18) (v := .bool true) rfl (by kernel_rfl) (by kernel_rfl) (by kernel_rfl) (fun _ _ _ h => h) (Or.inl ⟨by kernel_rfl, fun w hSw => ?_⟩) hS6 ?_
    · go_simp
    try simp only [Act.put, List.getElem_toArray, List.getElem_cons_succ, List.getElem_cons_zero, List.setIfInBounds_toArray, List.set_cons_zero, List.set_cons_succ]
    refine wpAnyH_take (i := 19) (v := .slice sa wide sc) rfl (by kernel_rfl) (by kernel_rfl) (by kernel_rfl) (fun _ _ _ h => h) (Or.inl ⟨by kernel_rfl, fun w hSw => ?_⟩) hS6 ?_
    · go_simp
    try simp only [Act.put, List.getElem_toArray, List.getElem_cons_succ, List.getElem_cons_zero, List.setIfInBounds_toArray, List.set_cons_zero, List.set_cons_succ]
    refine wpAnyH_take (i := 20) (v := .int .i64 (wide : Int)) rfl (by kernel_rfl) (by kernel_rfl) (by kernel_rfl) (fun _ _ _ h => h) (Or.inl ⟨by kernel_rfl, fun w hSw => ?_⟩) hS6 ?_
    · go_simp
    try simp only [Act.put, List.getElem_toArray, List.getElem_cons_succ, List.getElem_cons_zero, List.setIfInBounds_toArray, List.set_cons_zero, List.set_cons_succ]
    refine wpAnyH_take (i := 21) (v := .int .i64 (wide : Int)) rfl (by kernel_rfl) (by kernel_rfl) (by kernel_rfl) (fun _ _ _ h => h) (Or.inl ⟨by kernel_rfl, fun w hSw => ?_⟩) hS6 ?_
    · go_simp
    try simp only [Act.put, List.getElem_toArray, List.getElem_cons_succ, List.getElem_cons_zero, List.setIfInBounds_toArray, List.set_cons_zero, List.set_cons_succ]
    refine wpAnyH_take (i := 22) (v := .bool true) rfl (by kernel_rfl) (by kernel_rfl) (by kernel_rfl) (fun _ _ _ h => h) (Or.inl ⟨by kernel_rfl, fun w hSw => ?_⟩) hS6 ?_
    · go_simp
    try simp only [Act.put, List.getElem_toArray, List.getElem_cons_succ, List.getElem_cons_zero, List.setIfInBounds_toArray, List.set_cons_zero, List.set_cons_succ]
    refine wpAnyH_take (i := 23) (v := .bool true) rfl (by kernel_rfl) (by kernel_rfl) (by kernel_rfl) (fun _ _ _ h => h) (Or.inl ⟨by kernel_rfl, fun w hSw => ?_⟩) hS6 ?_
    · go_simp
    try simp only [Act.put, List.getElem_toArray, List.getElem_cons_succ, List.getElem_cons_zero, List.setIfInBounds_toArray, List.set_cons_zero, List.set_cons_succ]
    refine wpAnyH_take (i := 24) (v := .bool true) rfl (by kernel_rfl) (by kernel_rfl) (by kernel_rfl) (fun _ _ _ h => h) (Or.inl ⟨by kernel_rfl, fun w hSw => ?_⟩) hS6 ?_
    · go_simp
    try simp only [Act.put, List.getElem_toArray, List.getElem_cons_succ, List.getElem_cons_zero, List.setIfInBounds_toArray, List.set_cons_zero, List.set_cons_succ]
    refine wpAnyH_take (i := 25) (v := .slice sa wide sc) rfl (by kernel_rfl) (by kernel_rfl) (by kernel_rfl) (fun _ _ _ h => h) (Or.inl ⟨by kernel_rfl, fun w hSw => ?_⟩) hS6 ?_
    · go_simp
    try simp only [Act.put, List.getElem_toArray, List.getElem_cons_succ, List.getElem_cons_zero, List.setIfInBounds_toArray, List.set_cons_zero, List.set_cons_succ]
    refine wpAnyH_take (i := 26) (v := .string (strOf KS)) rfl (by kernel_rfl) (by kernel_rfl) (by kernel_rfl) (fun _ _ _ h => h) (Or.inl ⟨by kernel_rfl, fun w hSw => ?_⟩) hS6 ?_
    · have hs1 := run_str w sa wide sc KS hSw.1
      clear hSw
      go_simp
    try simp only [Act.put, List.getElem_toArray, List.getElem_cons_succ, List.getElem_cons_zero, List.setIfInBounds_toArray, List.set_cons_zero, List.set_cons_succ]
    refine wpAnyH_take (i := 27) (v := .slice sa2 wide sc2) rfl (by kernel_rfl) (by kernel_rfl) (by kernel_rfl) (fun _ _ _ h => h) (Or.inl ⟨by kernel_rfl, fun w hSw => ?_⟩) hS6 ?_
    · go_simp
    try simp only [Act.put, List.getElem_toArray, List.getElem_cons_succ, List.getElem_cons_zero, List.setIfInBounds_toArray, List.set_cons_zero, List.set_cons_succ]
    refine wpAnyH_take (i := 28) (v := .string (strOf KS)) rfl (by kernel_rfl) (by kernel_rfl) (by kernel_rfl) (fun _ _ _ h => h) (Or.inl ⟨by kernel_rfl, fun w hSw => ?_⟩) hS6 ?_
    · have hs1 := run_str w sa2 wide sc2 KS hSw.2
      clear hSw
      go_simp
    try simp only [Act.put, List.getElem_toArray, List.getElem_cons_succ, List.getElem_cons_zero, List.setIfInBounds_toArray, List.set_cons_zero, List.set_cons_succ]
    refine wpAnyH_take (i := 29) (v := .bool true) rfl (by kernel_rfl) (by kernel_rfl) (by kernel_rfl) (fun _ _ _ h => h) (Or.inl ⟨by kernel_rfl, fun w hSw => ?_⟩) hS6 ?_
    · go_simp
    try simp only [Act.put, List.getElem_toArray, List.getElem_cons_succ, List.getElem_cons_zero, List.setIfInBounds_toArray, List.set_cons_zero, List.set_cons_succ]
    refine wpAnyH_take (i := 30) (v := .bool true) rfl (by kernel_rfl) (by kernel_rfl) (by kernel_rfl) (fun _ _ _ h => h) (Or.inl ⟨by kernel_rfl, fun w hSw => ?_⟩) hS6 ?_
    · go_simp
    try simp only [Act.put, List.getElem_toArray, List.getElem_cons_succ, List.getElem_cons_zero, List.setIfInBounds_toArray, List.set_cons_zero, List.set_cons_succ]
    refine wpAnyH_take (i := 31) (v := .bool true) rfl (by kernel_rfl) (by kernel_rfl) (by kernel_rfl) (fun _ _ _ h => h) (Or.inl ⟨by kernel_rfl, fun w hSw => ?_⟩) hS6 ?_
    · go_simp
    try simp only [Act.put, List.getElem_toArray, List.getElem_cons_succ, List.getElem_cons_zero, List.setIfInBounds_toArray, List.set_cons_zero, List.set_cons_succ]
    refine wpAnyH_take (i := 32) (v := .slice sa wide sc) rfl (by kernel_rfl) (by kernel_rfl) (by kernel_rfl) (fun _ _ _ h => h) (Or.inl ⟨by kernel_rfl, fun w hSw => ?_⟩) hS6 ?_
    · go_simp
    try simp only [Act.put, List.getElem_toArray, List.getElem_cons_succ, List.getElem_cons_zero, List.setIfInBounds_toArray, List.set_cons_zero, List.set_cons_succ]
    refine wpAnyH_take (i := 33) (v := .string (strOf KS)) rfl (by kernel_rfl) (by kernel_rfl) (by kernel_rfl) (fun _ _ _ h => h) (Or.inl ⟨by kernel_rfl, fun w hSw => ?_⟩) hS6 ?_
    · have hs1 := run_str w sa wide sc KS hSw.1
      clear hSw
      go_simp
    try simp only [Act.put, List.getElem_toArray, List.getElem_cons_succ, List.getElem_cons_zero, List.setIfInBounds_toArray, List.set_cons_zero, List.set_cons_succ]
    refine wpAnyH_take (i := 34) (v := .pointer (some ⟨hb_, 0, none⟩)) rfl (by kernel_rfl) (by kernel_rfl) (by kernel_rfl) (fun _ _ _ h => h) (Or.inl ⟨by kernel_rfl, fun w hSw => ?_⟩) hS6 ?_
    · go_simp
    try simp only [Act.put, List.getElem_toArray, List.getElem_cons_succ, List.getElem_cons_zero, List.setIfInBounds_toArray, List.set_cons_zero, List.set_cons_succ]
    refine wpAnyH_ready (rs := [35]) (by kernel_rfl) (by simp) ?_
    refine AllReadyH.cons (by rfl) ?_ AllReadyH.nil
    intro K hK
    go_simp
    refine (sum_c hb_ _ _ wide _ _ HH.out).mono ?_
    rintro e wm1 ⟨v, rfl, hv, hb⟩
    have HB := Lib.hid (HB.out.trans (hb.mono HB.out.size))
    have HS := Lib.hid (⟨HS.out.1.below hb, HS.out.2.below hb⟩ : Bys _ sa wide KS ∧ Bys _ sa2 wide KS)
    rw [HSK.out] at hv
    obtain ⟨ra, rc, rfl, _, hrb⟩ := hv.bys
    have hs4 := run_str wm1 ra _ rc KS hrb
    clear hb hv hrb
    refine hK.out _ _ HS.out (fun hS7 => ?_)
    clear hK K
    refine wpAnyH_ready (rs := [36]) (by kernel_rfl) (by simp) ?_
    refine AllReadyH.cons (by rfl) ?_ AllReadyH.nil
    intro K hK
    go_simp
    clear hs4
    refine hK.out _ _ HS.out (fun hS8 => ?_)
    clear hK K
    refine wpAnyH_ready (rs := [37]) (by kernel_rfl) (by simp) ?_
    refine AllReadyH.cons (by rfl) ?_ AllReadyH.nil
    intro K hK
    go_simp
    refine hK.out _ _ HS.out (fun hS9 => ?_)
    clear hK K
    refine wpAnyH_take (i := 38) (v := .bool true) rfl (by kernel_rfl) (by kernel_rfl) (by kernel_rfl) (fun _ _ _ h => h) (Or.inl ⟨by kernel_rfl, fun w hSw => ?_⟩) hS9 ?_
    · go_simp
    try simp only [Act.put, List.getElem_toArray, List.getElem_cons_succ, List.getElem_cons_zero, List.setIfInBounds_toArray, List.set_cons_zero, List.set_cons_succ]
    refine wpAnyH_take (i := 39) (v := .bool true) rfl (by kernel_rfl) (by kernel_rfl) (by kernel_rfl) (fun _ _ _ h => h) (Or.inl ⟨by kernel_rfl, fun w hSw => ?_⟩) hS9 ?_
    · go_simp
    try simp only [Act.put, List.getElem_toArray, List.getElem_cons_succ, List.getElem_cons_zero, List.setIfInBounds_toArray, List.set_cons_zero, List.set_cons_succ]
    refine wpAnyH_ready (rs := [40]) (by kernel_rfl) (by simp) ?_
    refine AllReadyH.cons (by rfl) ?_ AllReadyH.nil
    intro K hK
    go_simp
    refine (works_c _).mono ?_
    rintro e wm3 ⟨rfl, hb⟩
    have HB := Lib.hid (HB.out.trans (hb.mono HB.out.size))
    have HS := Lib.hid (⟨HS.out.1.below hb, HS.out.2.below hb⟩ : Bys _ sa wide KS ∧ Bys _ sa2 wide KS)
    clear hb
    refine hK.out _ _ HS.out (fun hS10 => ?_)
    clear hK K
    refine wpAnyH_take (i := 41) (v := .bool true) rfl (by kernel_rfl) (by kernel_rfl) (by kernel_rfl) (fun _ _ _ h => h) (Or.inl ⟨by kernel_rfl, fun w hSw => ?_⟩) hS10 ?_
    · go_simp
    try simp only [Act.put, List.getElem_toArray, List.getElem_cons_succ, List.getElem_cons_zero, List.setIfInBounds_toArray, List.set_cons_zero, List.set_cons_succ]
    refine wpAnyH_take (i := 42) (v := .bool true) rfl (by kernel_rfl) (by kernel_rfl) (by kernel_rfl) (fun _ _ _ h => h) (Or.inl ⟨by kernel_rfl, fun w hSw => ?_⟩) hS10 ?_
    · go_simp
    try simp only [Act.put, List.getElem_toArray, List.getElem_cons_succ, List.getElem_cons_zero, List.setIfInBounds_toArray, List.set_cons_zero, List.set_cons_succ]
    refine wpAnyH_done (by kernel_rfl) ?_ _
    go_wp2_with fail
    go_ret
    exact ⟨rfl, HB.out⟩
end Go.Proofs.Yticgknjjhkgggaa
