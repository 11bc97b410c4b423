/- The walk of WireNumber. -/
import Derived.Test.YtnecoapbpicloaaWy
import Derived.Test.YtnecoapbpicloaaLw
namespace Go.Proofs.Ytnecoapbpicloaa
open Go.RowKit
set_option linter.unusedSimpArgs false
set_option linter.unusedVariables false
set_option maxRecDepth 100000

def numA (zs : List Int) : List By × Int := if okN zs then (laidN zs, 0) else ([], 2)
theorem wnumber_any (p : Nat) (v : Value) (l : List By) (a : Option Addr) (n c : Nat) (zs : List Int) (w : World) (h : IsWr w p v l) (hi : I64s w a n zs) (hn : n ≤ 1000000) (hl : l.length ≤ 100000000)
    (hap : ∀ g off, a = some ⟨g, off, none⟩ → 0 < n → ¬ WS p v g) :
    Calls Try.prog 15 #[.pointer (some ⟨p, 0, none⟩), .slice a n c] w fun e w' => e = .returned (.int .i64 (numA zs).2) ∧ ∃ v', IsWr w' p v' (l ++ (numA zs).1) ∧ Tch (WS p v) w w' ∧ Mv w v v' := by
  cases ho : okN zs
  · refine (wnumber_bad p v l a n c zs w h hi hn ho).mono ?_
    rintro e w' ⟨rfl, rfl⟩
    exact ⟨by simp [numA, ho], v, by simpa [numA, ho] using h, Tch.refl _ _, Mv.refl _ _⟩
  · refine (wnumber_c p v l a n c zs w h hi hn hl hap ho).mono ?_
    rintro e w' ⟨rfl, v', h1, h2, h3⟩
    exact ⟨by simp [numA, ho], v', by simpa [numA, ho] using h1, h2, h3⟩

set_option maxHeartbeats 8000000 in
theorem number_walk (n : Int) (a : Option Addr) (nb cb : Nat) (lb : List By) (most : Int) (w : World) (hy : Bys w a nb lb ∧ nb ≤ cb) :
    Calls Try.prog 3 #[.int .i64 n, .slice a nb cb, .int .i64 most] w fun e w' => e = .returned (.bool true) ∧ Below w.heap.size w w' := by
  obtain ⟨hY, hcb⟩ := hy
  have HY := Lib.hid hY
  clear hY
  rcases Nat.lt_or_ge 100 nb with hn | hn
  · have r1 : (100 : Int) < (nb : Int) := by omega
    go_enter Try.func3, Try.ntmps3
    go_wp2_with fail
    refine (works_c _).mono ?_
    rintro e w' ⟨rfl, hb⟩
    have HB := Lib.hid hb; clear hb
    go_wp2_with fail
    go_ret
    exact ⟨rfl, HB.out⟩
  · have r1 : ¬ (100 : Int) < (nb : Int) := by omega
    go_enter Try.func3, Try.ntmps3
    go_wp2_with fail
    refine (wnew_c _).mono ?_
    rintro e w1 ⟨rfl, hw, hb⟩
    obtain ⟨p, hp⟩ : ∃ p, p = w.heap.size := ⟨_, rfl⟩
    rw [← hp] at hw ⊢
    have hz1 : w.heap.size < w1.heap.size := by have := hw.lt; omega
    have hpw : w.heap.size ≤ p := by omega
    have hpz : p < w1.heap.size := hw.lt
    clear hp
    have HW1 := Lib.hid hw; have HB1 := Lib.hid hb
    clear hw hb
    go_wp2_with fail
    have hA := (Below.refl w1.heap.size w1).alloc (Nat.le_refl _) (.cells #[.int .i64 n] 2)
    refine (laid_c ⟨0, some ⟨w1.heap.size, 0, none⟩, 1, 1, [n], ⟨#[]⟩, false⟩ _ (I64s.lit _ rfl rfl) (by simp) (show (⟨#[]⟩ : ByteArray).size ≤ 100000000 from by decide)).mono ?_
    rintro e w3 ⟨hl, hb3⟩
    obtain ⟨ac, cc, rfl, ho⟩ := hl
    obtain ⟨lc, hlc⟩ : ∃ lc, lc = (numA [n]).1 := ⟨_, rfl⟩
    obtain ⟨no, hno⟩ : ∃ no, no = (numA [n]).2 := ⟨_, rfl⟩
    have e1 : laidA ⟨0, some ⟨w1.heap.size, 0, none⟩, 1, 1, [n], ⟨#[]⟩, false⟩ = (lc, no) := by rw [hlc, hno]; simp [laidA, numA]
    rw [e1] at ho ⊢
    clear e1
    obtain ⟨mc, hmc⟩ : ∃ mc, mc = lc.length := ⟨_, rfl⟩
    have HMC := Lib.hid hmc.symm
    simp only at ho ⊢
    rw [← hmc] at ho ⊢
    have hap : ∀ g off, ac = some ⟨g, off, none⟩ → 0 < mc → g ≠ p := by
      intro g off e h0
      obtain ⟨a9, c9, e9, _, hy9⟩ := ho.bys
      rcases ho.2 with ⟨e2, _⟩ | ⟨g2, cap2, cur2, e2, hg2, _⟩
      · injection e2 with e3 _ _; rw [e] at e3; cases e3
      · injection e2 with e3 _ _
        rw [e] at e3
        injection e3 with e3
        injection e3 with e4 _
        simp at hg2
        omega
    have hlen : lc.length ≤ 1000000000 := by
      rw [hlc]
      unfold numA
      split
      · rename_i h9
        have := laidN_len h9
        simp at this ⊢
        omega
      · simp
    have hyc : Bys w3 ac mc lc := by
      obtain ⟨a9, c9, e9, _, hy9⟩ := ho.bys
      injection e9 with e3 e4 e5
      rw [e3, hmc]
      exact hy9
    have HAP := Lib.hid hap; have HLEN := Lib.hid hlen; have HLC := Lib.hid hlc; have HNO := Lib.hid hno
    have HS3 := Lib.hid hyc
    have hb13 := hA.trans (hb3.mono (by simp))
    have HW3 := Lib.hid (HW1.out.below hb13)
    have HB3 := Lib.hid (HB1.out.trans (hb13.mono HB1.out.size))
    clear ho hb3 hA hap hlen hlc hno hyc hb13 hmc HW1 HB1
    go_wp2_with fail
    have hS0 : (fun W => Bys W ac mc lc) w3 := HS3.out
    refine wp_region_held_drew (S := (fun W => Bys W ac mc lc)) (by kernel_rfl) hS0 ?_
    intro hS0'
    refine wpAnyH_take (i := 0) (v := .pointer (some ⟨p, 0, none⟩)) rfl (by kernel_rfl) (by kernel_rfl) (by kernel_rfl) (fun _ _ _ h => h) (Or.inl ⟨by kernel_rfl, fun w hSw => ?_⟩) hS0' ?_
    · go_simp
    try simp only [Act.put, List.getElem_toArray, List.getElem_cons_succ, List.getElem_cons_zero, List.setIfInBounds_toArray, List.set_cons_zero, List.set_cons_succ]
    refine wpAnyH_take (i := 1) (v := .int .i64 n) rfl (by kernel_rfl) (by kernel_rfl) (by kernel_rfl) (fun _ _ _ h => h) (Or.inl ⟨by kernel_rfl, fun w hSw => ?_⟩) hS0' ?_
    · go_simp
    try simp only [Act.put, List.getElem_toArray, List.getElem_cons_succ, List.getElem_cons_zero, List.setIfInBounds_toArray, List.set_cons_zero, List.set_cons_succ]
    refine wpAnyH_take (i := 5) (v := .int .i64 no) rfl (by kernel_rfl) (by kernel_rfl) (by kernel_rfl) (fun _ _ _ h => h) (Or.inl ⟨by kernel_rfl, fun w hSw => ?_⟩) hS0' ?_
    · go_simp
    try simp only [Act.put, List.getElem_toArray, List.getElem_cons_succ, List.getElem_cons_zero, List.setIfInBounds_toArray, List.set_cons_zero, List.set_cons_succ]
    refine wpAnyH_ready (rs := [2]) (by kernel_rfl) (by simp) ?_
    refine AllReadyH.cons (by rfl) ?_ AllReadyH.nil
    intro K hK
    go_simp
    have hAd := ((Below.refl w3.heap.size w3).alloc (Nat.le_refl _) (.cells #[.int .i64 n] 2)).drew
    have hI4 := (I64s.lit (W := w3) (zs := [n]) (n := 1) (cs := #[.int .i64 n]) 2 rfl rfl).below ((Below.refl _ _).drew)
    have HW4 := Lib.hid (HW3.out.below hAd)
    have hS4 := Bys.below HS3.out hAd
    have hz4 : w.heap.size ≤ (w3.alloc (.cells #[.int .i64 n] 2)).drew.heap.size := by have := HB3.out.size; simp; omega
    generalize (World.drew _) = w4 at hAd hI4 HW4 hS4 hz4 ⊢
    refine hK.out _ _ hS4 (fun hS1 => ?_)
    clear hK K
    refine wpAnyH_ready (rs := [3]) (by kernel_rfl) (by simp) ?_
    refine AllReadyH.cons (by rfl) ?_ AllReadyH.nil
    intro K hK
    go_simp
    refine (wnumber_any p _ [] _ 1 1 [n] _ HW4.out hI4 (by omega) (by simp) ?_).mono ?_
    · intro g off e _ hs
      injection e with e
      injection e with e1 _
      have := HW3.out.lt
      rcases hs with hs | hs
      · omega
      · cases hs
    rintro e w5 ⟨rfl, v5, hw5, ht5, -⟩
    rw [← HNO.out]
    rw [List.nil_append, ← HLC.out] at hw5
    have HW5 := Lib.hid hw5
    have hb5 : Below w.heap.size w4 w5 := ht5.below hz4 (fun i hi => by rcases hi with hi | hi; omega; cases hi)
    have HB5 := Lib.hid (HB3.out.trans (((hAd).mono HB3.out.size).trans hb5))
    have hS5 := (Tch.bys ht5 hS1 (fun g off e hn hs => by rcases hs with hs | hs; exact HAP.out g off e hn hs; cases hs))
    refine hK.out _ _ hS5 (fun hS2 => ?_)
    clear hK K
    refine wpAnyH_ready (rs := [4]) (by kernel_rfl) (by simp) ?_
    refine AllReadyH.cons (by rfl) ?_ AllReadyH.nil
    intro K hK
    go_simp
    refine (num_c _ _).mono ?_
    rintro e w' ⟨rfl, rfl⟩
    refine hK.out _ _ hS2 (fun hS3 => ?_)
    clear hK K
    refine wpAnyH_take (i := 6) (v := .bool false) rfl (by kernel_rfl) (by kernel_rfl) (by kernel_rfl) (fun _ _ _ h => h) (Or.inl ⟨by kernel_rfl, fun w hSw => ?_⟩) hS3 ?_
    · go_simp
    try simp only [Act.put, List.getElem_toArray, List.getElem_cons_succ, List.getElem_cons_zero, List.setIfInBounds_toArray, List.set_cons_zero, List.set_cons_succ]
    refine wpAnyH_take (i := 7) (v := .bool false) rfl (by kernel_rfl) (by kernel_rfl) (by kernel_rfl) (fun _ _ _ h => h) (Or.inl ⟨by kernel_rfl, fun w hSw => ?_⟩) hS3 ?_
    · go_simp
    try simp only [Act.put, List.getElem_toArray, List.getElem_cons_succ, List.getElem_cons_zero, List.setIfInBounds_toArray, List.set_cons_zero, List.set_cons_succ]
    refine wpAnyH_take (i := 8) (v := .pointer (some ⟨p, 0, none⟩)) rfl (by kernel_rfl) (by kernel_rfl) (by kernel_rfl) (fun _ _ _ h => h) (Or.inl ⟨by kernel_rfl, fun w hSw => ?_⟩) hS3 ?_
    · go_simp
    try simp only [Act.put, List.getElem_toArray, List.getElem_cons_succ, List.getElem_cons_zero, List.setIfInBounds_toArray, List.set_cons_zero, List.set_cons_succ]
    refine wpAnyH_take (i := 11) (v := .slice ac mc cc) rfl (by kernel_rfl) (by kernel_rfl) (by kernel_rfl) (fun _ _ _ h => h) (Or.inl ⟨by kernel_rfl, fun w hSw => ?_⟩) hS3 ?_
    · go_simp
    try simp only [Act.put, List.getElem_toArray, List.getElem_cons_succ, List.getElem_cons_zero, List.setIfInBounds_toArray, List.set_cons_zero, List.set_cons_succ]
    refine wpAnyH_take (i := 12) (v := .string (strOf lc)) rfl (by kernel_rfl) (by kernel_rfl) (by kernel_rfl) (fun _ _ _ h => h) (Or.inl ⟨by kernel_rfl, fun w hSw => ?_⟩) hS3 ?_
    · have q := run_str w ac mc cc lc hSw
      go_simp
    try simp only [Act.put, List.getElem_toArray, List.getElem_cons_succ, List.getElem_cons_zero, List.setIfInBounds_toArray, List.set_cons_zero, List.set_cons_succ]
    refine wpAnyH_ready (rs := [9]) (by kernel_rfl) (by simp) ?_
    refine AllReadyH.cons (by rfl) ?_ AllReadyH.nil
    intro K hK
    go_simp
    refine (wall_c p v5 _ _ HW5.out HLEN.out).mono ?_
    rintro e w6 ⟨r, rfl, ho, hb6⟩
    obtain ⟨a6, c6, rfl, _, hy6⟩ := ho.bys
    rw [HMC.out] at hy6 ⊢
    have q6 := run_str w6 a6 _ c6 _ hy6
    have HB6 := Lib.hid (HB5.out.trans (hb6.mono HB5.out.size))
    have hS6 := Bys.below hS3 hb6
    clear ho hb6 hy6
    refine hK.out _ _ hS6 (fun hS4 => ?_)
    clear hK K
    refine wpAnyH_ready (rs := [10]) (by kernel_rfl) (by simp) ?_
    refine AllReadyH.cons (by rfl) ?_ AllReadyH.nil
    intro K hK
    go_simp
    refine hK.out _ _ hS4 (fun hS5 => ?_)
    clear hK K
    refine wpAnyH_ready (rs := [13]) (by kernel_rfl) (by simp) ?_
    refine AllReadyH.cons (by rfl) ?_ AllReadyH.nil
    intro K hK
    go_simp
    refine hK.out _ _ hS5 (fun hS6 => ?_)
    clear hK K
    refine wpAnyH_take (i := 14) (v := .bool false) rfl (by kernel_rfl) (by kernel_rfl) (by kernel_rfl) (fun _ _ _ h => h) (Or.inl ⟨by kernel_rfl, fun w hSw => ?_⟩) hS6 ?_
    · go_simp
    try simp only [Act.put, List.getElem_toArray, List.getElem_cons_succ, List.getElem_cons_zero, List.setIfInBounds_toArray, List.set_cons_zero, List.set_cons_succ]
    refine wpAnyH_done (by kernel_rfl) ?_ _
    go_wp2_with fail
    have HY6 := Lib.hid (HY.out.below HB6.out)
    clear hS0 hS0' hS1 hS2 hS3 hS4 hS5 hS6 q6
    refine (read_c a nb cb lb _ HY6.out (by omega)).mono ?_
    rintro e w7 ⟨q, rfl, hq, hr, hb⟩
    have HR7 := Lib.hid hr; have HB7 := Lib.hid (HB6.out.trans (hb.mono HB6.out.size))
    have hq7 : w.heap.size ≤ q := by have := HB6.out.size; omega
    clear hr hb
    go_wp2_with fail
    refine (rd_number q _ most _ HR7.out (by have := HY.out.1; simp only; omega)).mono ?_
    rintro e w8 ⟨rfl, hr, hO⟩
    obtain ⟨s1, hs1⟩ : ∃ s1, s1 = (rnum ⟨lb, 0⟩ most).1 := ⟨_, rfl⟩
    obtain ⟨x, hx⟩ : ∃ x, x = (rnum ⟨lb, 0⟩ most).2.1 := ⟨_, rfl⟩
    obtain ⟨no2, hno2⟩ : ∃ no2, no2 = (rnum ⟨lb, 0⟩ most).2.2 := ⟨_, rfl⟩
    rw [← hx, ← hno2]
    rw [← hs1] at hr
    have HR8 := Lib.hid hr; have HS1 := Lib.hid hs1; have HX := Lib.hid hx; have HNO2 := Lib.hid hno2
    have HB8 := Lib.hid (HB7.out.trans (hO.below HB7.out.size hq7))
    clear hr hO hs1 hx hno2
    go_wp2_with fail
    have hnb := HY.out.1
    refine (rr_number _ ⟨lb, 0⟩ most _ ⟨a, cb, by rw [← hnb], by rw [hnb]; exact HY.out.below HB8.out, by rw [hnb]; exact hcb⟩ (by simp only; omega)).mono ?_
    rintro e w9 ⟨⟨v1, rfl, hrv⟩, hb⟩
    rw [← HX.out, ← HNO2.out]
    rw [← HS1.out] at hrv
    obtain ⟨a1, c1, rfl, hy1, hc1⟩ := hrv
    have HB9 := Lib.hid (HB8.out.trans (hb.mono HB8.out.size))
    have HR9 := Lib.hid (HR8.out.below hb)
    clear hb hy1 hc1 hnb
    go_wp2_with fail
    have hB10 := (Below.refl w9.heap.size w9).alloc (Nat.le_refl _) (.cells #[.slice a1 s1.l.length c1, .int .i64 s1.e] 40)
    have hk := Blk.new w9 40 #[.slice a1 s1.l.length c1, .int .i64 s1.e]
    have HR10 := Lib.hid (HR9.out.below hB10)
    have HB10 := Lib.hid (HB9.out.trans (hB10.mono HB9.out.size))
    obtain ⟨b13, hb13⟩ : ∃ b13, b13 = w9.heap.size := ⟨_, rfl⟩
    rw [← hb13] at hk ⊢
    generalize w9.alloc (.cells #[.slice a1 s1.l.length c1, .int .i64 s1.e] 40) = w10 at hk HR10 HB10 ⊢
    have HB9d := Lib.hid HB10.out.drew
    have hS0 : (fun W => IsRd W q s1 ∧ W.cell? ⟨b13, 0, none⟩ = some (.slice a1 s1.l.length c1)) w10 := ⟨HR10.out, hk.cell (i := 0) rfl⟩
    clear hB10 hk hb13
    refine wp_region_held_drew (S := (fun W => IsRd W q s1 ∧ W.cell? ⟨b13, 0, none⟩ = some (.slice a1 s1.l.length c1))) (by kernel_rfl) hS0 ?_
    intro hS0'
    refine wpAnyH_take (i := 0) (v := .int .i64 (x : Int)) rfl (by kernel_rfl) (by kernel_rfl) (by kernel_rfl) (fun _ _ _ h => h) (Or.inl ⟨by kernel_rfl, fun w hSw => ?_⟩) hS0' ?_
    · go_simp
    try simp only [Act.put, List.getElem_toArray, List.getElem_cons_succ, List.getElem_cons_zero, List.setIfInBounds_toArray, List.set_cons_zero, List.set_cons_succ]
    refine wpAnyH_take (i := 1) (v := .int .i64 (x : Int)) rfl (by kernel_rfl) (by kernel_rfl) (by kernel_rfl) (fun _ _ _ h => h) (Or.inl ⟨by kernel_rfl, fun w hSw => ?_⟩) hS0' ?_
    · go_simp
    try simp only [Act.put, List.getElem_toArray, List.getElem_cons_succ, List.getElem_cons_zero, List.setIfInBounds_toArray, List.set_cons_zero, List.set_cons_succ]
    refine wpAnyH_take (i := 2) (v := .bool true) rfl (by kernel_rfl) (by kernel_rfl) (by kernel_rfl) (fun _ _ _ h => h) (Or.inl ⟨by kernel_rfl, fun w hSw => ?_⟩) hS0' ?_
    · go_simp
    try simp only [Act.put, List.getElem_toArray, List.getElem_cons_succ, List.getElem_cons_zero, List.setIfInBounds_toArray, List.set_cons_zero, List.set_cons_succ]
    refine wpAnyH_take (i := 3) (v := .bool true) rfl (by kernel_rfl) (by kernel_rfl) (by kernel_rfl) (fun _ _ _ h => h) (Or.inl ⟨by kernel_rfl, fun w hSw => ?_⟩) hS0' ?_
    · go_simp
    try simp only [Act.put, List.getElem_toArray, List.getElem_cons_succ, List.getElem_cons_zero, List.setIfInBounds_toArray, List.set_cons_zero, List.set_cons_succ]
    refine wpAnyH_take (i := 4) (v := .int .i64 no2) rfl (by kernel_rfl) (by kernel_rfl) (by kernel_rfl) (fun _ _ _ h => h) (Or.inl ⟨by kernel_rfl, fun w hSw => ?_⟩) hS0' ?_
    · go_simp
    try simp only [Act.put, List.getElem_toArray, List.getElem_cons_succ, List.getElem_cons_zero, List.setIfInBounds_toArray, List.set_cons_zero, List.set_cons_succ]
    refine wpAnyH_take (i := 6) (v := .int .i64 no2) rfl (by kernel_rfl) (by kernel_rfl) (by kernel_rfl) (fun _ _ _ h => h) (Or.inl ⟨by kernel_rfl, fun w hSw => ?_⟩) hS0' ?_
    · go_simp
    try simp only [Act.put, List.getElem_toArray, List.getElem_cons_succ, List.getElem_cons_zero, List.setIfInBounds_toArray, List.set_cons_zero, List.set_cons_succ]
    refine wpAnyH_ready (rs := [5]) (by kernel_rfl) (by simp) ?_
    refine AllReadyH.cons (by rfl) ?_ AllReadyH.nil
    intro K hK
    go_simp
    refine (num_c _ _).mono ?_
    rintro e w' ⟨rfl, rfl⟩
    refine hK.out _ _ hS0' (fun hS1 => ?_)
    clear hK K
    refine wpAnyH_take (i := 7) (v := .bool true) rfl (by kernel_rfl) (by kernel_rfl) (by kernel_rfl) (fun _ _ _ h => h) (Or.inl ⟨by kernel_rfl, fun w hSw => ?_⟩) hS1 ?_
    · go_simp
    try simp only [Act.put, List.getElem_toArray, List.getElem_cons_succ, List.getElem_cons_zero, List.setIfInBounds_toArray, List.set_cons_zero, List.set_cons_succ]
    refine wpAnyH_take (i := 8) (v := .bool true) rfl (by kernel_rfl) (by kernel_rfl) (by kernel_rfl) (fun _ _ _ h => h) (Or.inl ⟨by kernel_rfl, fun w hSw => ?_⟩) hS1 ?_
    · go_simp
    try simp only [Act.put, List.getElem_toArray, List.getElem_cons_succ, List.getElem_cons_zero, List.setIfInBounds_toArray, List.set_cons_zero, List.set_cons_succ]
    refine wpAnyH_take (i := 9) (v := .bool true) rfl (by kernel_rfl) (by kernel_rfl) (by kernel_rfl) (fun _ _ _ h => h) (Or.inl ⟨by kernel_rfl, fun w hSw => ?_⟩) hS1 ?_
    · go_simp
    try simp only [Act.put, List.getElem_toArray, List.getElem_cons_succ, List.getElem_cons_zero, List.setIfInBounds_toArray, List.set_cons_zero, List.set_cons_succ]
    refine wpAnyH_take (i := 10) (v := .pointer (some ⟨q, 0, none⟩)) rfl (by kernel_rfl) (by kernel_rfl) (by kernel_rfl) (fun _ _ _ h => h) (Or.inl ⟨by kernel_rfl, fun w hSw => ?_⟩) hS1 ?_
    · go_simp
    try simp only [Act.put, List.getElem_toArray, List.getElem_cons_succ, List.getElem_cons_zero, List.setIfInBounds_toArray, List.set_cons_zero, List.set_cons_succ]
    refine wpAnyH_take (i := 12) (v := .pointer (some ⟨b13, 0, none⟩)) rfl (by kernel_rfl) (by kernel_rfl) (by kernel_rfl) (fun _ _ _ h => h) (Or.inl ⟨by kernel_rfl, fun w hSw => ?_⟩) hS1 ?_
    · go_simp
    try simp only [Act.put, List.getElem_toArray, List.getElem_cons_succ, List.getElem_cons_zero, List.setIfInBounds_toArray, List.set_cons_zero, List.set_cons_succ]
    refine wpAnyH_take (i := 13) (v := .slice a1 s1.l.length c1) rfl (by kernel_rfl) (by kernel_rfl) (by kernel_rfl) (fun _ _ _ h => h) (Or.inl ⟨by kernel_rfl, fun w hSw => ?_⟩) hS1 ?_
    · obtain ⟨s1, s2⟩ := hSw
      go_simp
    try simp only [Act.put, List.getElem_toArray, List.getElem_cons_succ, List.getElem_cons_zero, List.setIfInBounds_toArray, List.set_cons_zero, List.set_cons_succ]
    refine wpAnyH_take (i := 14) (v := .int .i64 (s1.l.length : Int)) rfl (by kernel_rfl) (by kernel_rfl) (by kernel_rfl) (fun _ _ _ h => h) (Or.inl ⟨by kernel_rfl, fun w hSw => ?_⟩) hS1 ?_
    · go_simp
    try simp only [Act.put, List.getElem_toArray, List.getElem_cons_succ, List.getElem_cons_zero, List.setIfInBounds_toArray, List.set_cons_zero, List.set_cons_succ]
    refine wpAnyH_ready (rs := [11]) (by kernel_rfl) (by simp) ?_
    refine AllReadyH.cons (by rfl) ?_ AllReadyH.nil
    intro K hK
    go_simp
    refine (left_c q s1 _ hS1.1).mono ?_
    rintro e w' ⟨rfl, rfl⟩
    refine hK.out _ _ hS1 (fun hS2 => ?_)
    clear hK K
    refine wpAnyH_take (i := 15) (v := .bool true) rfl (by kernel_rfl) (by kernel_rfl) (by kernel_rfl) (fun _ _ _ h => h) (Or.inl ⟨by kernel_rfl, fun w hSw => ?_⟩) hS2 ?_
    · go_simp
    try simp only [Act.put, List.getElem_toArray, List.getElem_cons_succ, List.getElem_cons_zero, List.setIfInBounds_toArray, List.set_cons_zero, List.set_cons_succ]
    refine wpAnyH_take (i := 16) (v := .bool true) rfl (by kernel_rfl) (by kernel_rfl) (by kernel_rfl) (fun _ _ _ h => h) (Or.inl ⟨by kernel_rfl, fun w hSw => ?_⟩) hS2 ?_
    · go_simp
    try simp only [Act.put, List.getElem_toArray, List.getElem_cons_succ, List.getElem_cons_zero, List.setIfInBounds_toArray, List.set_cons_zero, List.set_cons_succ]
    refine wpAnyH_take (i := 17) (v := .bool true) rfl (by kernel_rfl) (by kernel_rfl) (by kernel_rfl) (fun _ _ _ h => h) (Or.inl ⟨by kernel_rfl, fun w hSw => ?_⟩) hS2 ?_
    · go_simp
    try simp only [Act.put, List.getElem_toArray, List.getElem_cons_succ, List.getElem_cons_zero, List.setIfInBounds_toArray, List.set_cons_zero, List.set_cons_succ]
    refine wpAnyH_ready (rs := [18]) (by kernel_rfl) (by simp) ?_
    refine AllReadyH.cons (by rfl) ?_ AllReadyH.nil
    intro K hK
    go_simp
    refine (works_c _).mono ?_
    rintro e wz ⟨rfl, hbz⟩
    have HBZ := Lib.hid (HB9d.out.trans (hbz.mono HB9d.out.size))
    have hSz : IsRd wz q s1 ∧ wz.cell? ⟨b13, 0, none⟩ = some (.slice a1 s1.l.length c1) := ⟨hS2.1.below hbz, (hbz.cell (p := ⟨b13, 0, none⟩) (cell_lt hS2.2)).trans hS2.2⟩
    refine hK.out _ _ hSz (fun hS3 => ?_)
    clear hK K
    refine wpAnyH_take (i := 19) (v := .bool true) rfl (by kernel_rfl) (by kernel_rfl) (by kernel_rfl) (fun _ _ _ h => h) (Or.inl ⟨by kernel_rfl, fun w hSw => ?_⟩) hS3 ?_
    · go_simp
    try simp only [Act.put, List.getElem_toArray, List.getElem_cons_succ, List.getElem_cons_zero, List.setIfInBounds_toArray, List.set_cons_zero, List.set_cons_succ]
    refine wpAnyH_ready (rs := [20]) (by kernel_rfl) (by simp) ?_
    refine AllReadyH.cons (by rfl) ?_ AllReadyH.nil
    intro K hK
    go_simp
    refine hK.out _ _ hS3 (fun hS4 => ?_)
    clear hK K
    refine wpAnyH_done (by kernel_rfl) ?_ _
    go_wp2_with fail
    go_ret
    exact ⟨rfl, HBZ.out⟩
end Go.Proofs.Ytnecoapbpicloaa
