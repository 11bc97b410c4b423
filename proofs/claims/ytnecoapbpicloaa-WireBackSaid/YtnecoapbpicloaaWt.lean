/- Contracts: the document's reader, Text. -/
import Derived.Test.YtnecoapbpicloaaWs
namespace Go.Proofs.Ytnecoapbpicloaa
open Go.RowKit
set_option linter.unusedSimpArgs false
set_option linter.unusedVariables false
set_option maxRecDepth 100000

def RTxt (w : World) (s : RS) (most : Int) (e : Ending) (w' : World) : Prop := (∃ v, e = .returned (.tuple #[v, .string (strOf (rtext s most).2.1), .int .i64 (rtext s most).2.2]) ∧ RV w' v (rtext s most).1) ∧ Below w.heap.size w w'
theorem rtext_stop {s : RS} {most : Int} (h : (rnum s most).2.2 ≠ 0) : rtext s most = ((rnum s most).1, [], (rnum s most).2.2) := by unfold rtext; rw [if_pos h]
theorem rtext_short {s : RS} {most : Int} (h : (rnum s most).2.2 = 0) (hl : (rnum s most).1.l.length < (rnum s most).2.1) : rtext s most = (RS.fail, [], 120) := by unfold rtext; rw [if_neg (by simp [h]), if_pos hl]
theorem rtext_full {s : RS} {most : Int} (h : (rnum s most).2.2 = 0) (hl : ¬ (rnum s most).1.l.length < (rnum s most).2.1) : rtext s most = (⟨(rnum s most).1.l.drop (rnum s most).2.1, 0⟩, (rnum s most).1.l.take (rnum s most).2.1, 0) := by unfold rtext; rw [if_neg (by simp [h]), if_neg hl]
theorem rnum_zero {s : RS} {most : Int} (h : (rnum s most).2.2 = 0) : (rnum s most).1.e = 0 := by
  by_cases he : s.e = 0
  · by_cases hm : most < 0
    · rw [rnum_low he hm] at h; cases h
    · cases hc : canNum s most
      · rw [rnum_bad he hm hc] at h; cases h
      · rw [rnum_ok he hm hc]
  · rw [rnum_err he] at h; exact absurd h he

set_option maxHeartbeats 2000000 in
theorem rr_text (v : Value) (s : RS) (most : Int) (w : World) (h : RV w v s) (hl : s.l.length ≤ 1000000000) :
    Calls Try.prog 50 #[v, .int .i64 most] w (RTxt w s most) := by
  have H := Lib.hid h
  have HL := Lib.hid hl
  obtain ⟨a, c, rfl, h2, h3⟩ := h
  obtain ⟨m, hm⟩ : ∃ m, m = s.l.length := ⟨_, rfl⟩
  rw [← hm] at H h3 ⊢
  obtain ⟨e0, he0⟩ : ∃ e0, e0 = s.e := ⟨_, rfl⟩
  rw [← he0] at H ⊢
  have HB2 := Lib.hid (blk2 w 40 40 #[.slice a m c, .int .i64 e0] #[.slice none 0 0, .int .i64 0])
  clear h2 h3 hm he0 hl
  obtain ⟨no, hno⟩ : ∃ no, no = (rnum s most).2.2 := ⟨_, rfl⟩
  obtain ⟨j, hj0⟩ : ∃ j, j = (rnum s most).2.1 := ⟨_, rfl⟩
  obtain ⟨l1, hl1⟩ : ∃ l1, l1 = (rnum s most).1.l := ⟨_, rfl⟩
  have HNO := Lib.hid hno; have HJ := Lib.hid hj0; have HL1 := Lib.hid hl1
  clear hno hj0 hl1
  go_enter Try.func50, Try.ntmps50
  go_wp2_with fail
  generalize (World.alloc _ _) = W0 at HB2 ⊢
  obtain ⟨b1, b3, b5, b6⟩ := HB2.out
  have HZ := Lib.hid b6
  refine (rr_number _ s most _ (H.out.below b5) HL.out).mono ?_
  rintro e w3 ⟨⟨v1, rfl, hrv⟩, hb⟩
  rw [← HNO.out, ← HJ.out]
  have HRV := Lib.hid hrv
  obtain ⟨a1, c1, rfl, y2, y3⟩ := hrv
  obtain ⟨e1, he1⟩ : ∃ e1, e1 = (rnum s most).1.e := ⟨_, rfl⟩
  rw [← HL1.out] at y2 y3 HRV ⊢
  rw [← he1] at HRV ⊢
  have HE1 := Lib.hid he1; clear he1
  obtain ⟨m1, hm1⟩ : ∃ m1, m1 = l1.length := ⟨_, rfl⟩
  rw [← hm1] at y2 y3 HRV ⊢
  have HM1 := Lib.hid hm1; clear hm1
  have HY := Lib.hid y2
  have HB := Lib.hid (b5.trans (hb.mono (by omega)))
  have B3 := Lib.hid (b3.below hb b3.lt)
  have B1 := Lib.hid (b1.below hb b1.lt)
  have hz3 : w.heap.size + 2 ≤ w3.heap.size := by have := hb.size; omega
  clear b1 b3 b5 b6 hb HB2 y2
  have hw4 := Blk.new w3 40 #[.slice a1 m1 c1, .int .i64 e1]
  have B4 := Lib.hid (B3.out.alloc (.cells #[.slice a1 m1 c1, .int .i64 e1] 40))
  have B0 := Lib.hid (B1.out.alloc (.cells #[.slice a1 m1 c1, .int .i64 e1] 40))
  have HB4 := Lib.hid (HB.out.alloc (by omega) (.cells #[.slice a1 m1 c1, .int .i64 e1] 40))
  have HY4 := Lib.hid (HY.out.below ((Below.refl w3.heap.size w3).alloc (Nat.le_refl _) (.cells #[.slice a1 m1 c1, .int .i64 e1] 40)))
  have hz4 : (w3.alloc (.cells #[.slice a1 m1 c1, .int .i64 e1] 40)).heap.size = w3.heap.size + 1 := by simp
  obtain ⟨b7, hb7⟩ : ∃ b7, b7 = w3.heap.size := ⟨_, rfl⟩
  rw [← hb7] at hz3 hw4 hz4
  by_cases hn : no = 0
  case neg =>
    have q : (no != 0) = true := by simpa using hn
    have HR := Lib.hid (rtext_stop (s := s) (most := most) (by rw [← HNO.out]; exact hn))
    clear hn
    go_upto_region 2 with (fail)
    rw [← hb7]
    clear hb7
    generalize (World.alloc _ _) = w4 at hw4 B4 HB4 HY4 hz4 ⊢
    have d0 : w4.cell? ⟨w.heap.size + 1, 0, none⟩ = some (.slice none 0 0) := B4.out.cell (i := 0) rfl
    have d1 : w4.cell? ⟨w.heap.size + 1, 1, none⟩ = some (.int .i64 0) := B4.out.cell (i := 1) rfl
    have g0 := B4.out.frozen 0
    have g1 := B4.out.frozen 1
    have x0 : w4.cell? ⟨b7, 0, none⟩ = some (.slice a1 m1 c1) := hw4.cell (i := 0) rfl
    have x1 : w4.cell? ⟨b7, 1, none⟩ = some (.int .i64 e1) := hw4.cell (i := 1) rfl
    have HW4 := Lib.hid hw4; clear hw4
    go_wp2_with fail
    have k6 := (B4.out.set 0 (.slice a1 m1 c1)).set 1 (.int .i64 e1)
    have HBB := Lib.hid ((HB4.out.setCell (p := ⟨w.heap.size + 1, 0, none⟩) (by simp) (.slice a1 m1 c1)).setCell (p := ⟨w.heap.size + 1, 1, none⟩) (by simp) (.int .i64 e1))
    have HY6 := Lib.hid ((((Tch.refl (fun i => i = w.heap.size + 1) w4).setCell (p := ⟨w.heap.size + 1, 0, none⟩) (.inl rfl) (.slice a1 m1 c1)).setCell (p := ⟨w.heap.size + 1, 1, none⟩) (.inl rfl) (.int .i64 e1)).bys HY4.out (fun g off e hn hs => far_cells B4.out (fun i y hy => by rcases (by omega : i = 0 ∨ i = 1 ∨ 2 ≤ i) with rfl | rfl | hi; simp at hy; simp at hy; rw [Array.getElem?_eq_none (by simp; omega)] at hy; cases hy) HY4.out g off e hn hs))
    generalize (World.setCell _ _ _) = w6 at k6 HBB HY6 ⊢
    have c5 : w6.cell? ⟨w.heap.size + 1, 0, none⟩ = some (.slice a1 m1 c1) := k6.cell (i := 0) rfl
    have c6 : w6.cell? ⟨w.heap.size + 1, 1, none⟩ = some (.int .i64 e1) := k6.cell (i := 1) rfl
    refine bodyPost_ret (v := .tuple #[.agg #[.slice a1 m1 c1, .int .i64 e1], .string ⟨#[]⟩, .int .i64 no]) (by simp [results, Try.results50, go_sem, c5, c6]) rfl ?_
    refine ⟨⟨_, by rw [HR.out, ← HNO.out]; rfl, ?_⟩, HBB.out⟩
    rw [HR.out]
    exact ⟨a1, c1, by rw [← HL1.out, ← HM1.out, ← HE1.out], by rw [← HL1.out, ← HM1.out]; exact HY6.out, by rw [← HL1.out, ← HM1.out]; exact y3⟩
  case pos =>
    have hz0 := hn
    rw [HNO.out] at hz0
    subst hn
    have he10 : e1 = 0 := by rw [HE1.out]; exact rnum_zero hz0
    rcases Nat.lt_or_ge m1 j with hlt | hlt
    · have HR := Lib.hid (rtext_short (s := s) (most := most) hz0 (by rw [← HL1.out, ← HM1.out, ← HJ.out]; exact hlt))
      have r1 : m1 < j := hlt
      clear hz0 he10
      go_upto_region 4 with (fail)
      rw [← hb7]
      clear hb7
      generalize (World.alloc _ _) = w4 at hw4 B4 B0 HB4 HY4 hz4 ⊢
      have x0 : w4.cell? ⟨b7, 0, none⟩ = some (.slice a1 m1 c1) := hw4.cell (i := 0) rfl
      have x1 : w4.cell? ⟨b7, 1, none⟩ = some (.int .i64 e1) := hw4.cell (i := 1) rfl
      have z0 : w4.cell? ⟨w.heap.size, 0, none⟩ = some (.slice a m c) := B0.out.cell (i := 0) rfl
      have z1 : w4.cell? ⟨w.heap.size, 1, none⟩ = some (.int .i64 e0) := B0.out.cell (i := 1) rfl
      have HW4 := Lib.hid hw4; clear hw4
      go_wp2_with fail
      refine (rfail_c a m c e0 _).mono ?_
      rintro e w5 ⟨rfl, hb⟩
      have HW5 := Lib.hid (HW4.out.below hb HW4.out.lt)
      have B5 := Lib.hid (B4.out.below hb B4.out.lt)
      have HB5 := Lib.hid (HB4.out.trans (hb.mono HB4.out.size))
      have d0 : w5.cell? ⟨w.heap.size + 1, 0, none⟩ = some (.slice none 0 0) := B5.out.cell (i := 0) rfl
      have d1 : w5.cell? ⟨w.heap.size + 1, 1, none⟩ = some (.int .i64 0) := B5.out.cell (i := 1) rfl
      have g0 := B5.out.frozen 0
      have g1 := B5.out.frozen 1
      have u0 : w5.cell? ⟨b7, 0, none⟩ = some (.slice a1 m1 c1) := HW5.out.cell (i := 0) rfl
      have u1 : w5.cell? ⟨b7, 1, none⟩ = some (.int .i64 e1) := HW5.out.cell (i := 1) rfl
      have p0 := HW5.out.frozen 0
      have p1 := HW5.out.frozen 1
      have n1 : w.heap.size + 1 ≠ b7 := by omega
      have n2 : b7 ≠ w.heap.size + 1 := by omega
      clear hb x0 x1 z0 z1
      go_wp2_with fail
      have k6 := ((B5.out.far (p := ⟨b7, 0, none⟩) n1 (.slice none 0 0)).far (p := ⟨b7, 1, none⟩) n1 (.int .i64 120)).set 0 (.slice none 0 0) |>.set 1 (.int .i64 120)
      have HBB := Lib.hid ((((HB5.out.setCell (p := ⟨b7, 0, none⟩) (by simp; omega) (.slice none 0 0)).setCell (p := ⟨b7, 1, none⟩) (by simp; omega) (.int .i64 120)).setCell (p := ⟨w.heap.size + 1, 0, none⟩) (by simp) (.slice none 0 0)).setCell (p := ⟨w.heap.size + 1, 1, none⟩) (by simp) (.int .i64 120))
      generalize (World.setCell _ _ _) = w6 at k6 HBB ⊢
      have c5 : w6.cell? ⟨w.heap.size + 1, 0, none⟩ = some (.slice none 0 0) := k6.cell (i := 0) rfl
      have c6 : w6.cell? ⟨w.heap.size + 1, 1, none⟩ = some (.int .i64 120) := k6.cell (i := 1) rfl
      refine bodyPost_ret (v := .tuple #[.agg #[.slice none 0 0, .int .i64 120], .string ⟨#[]⟩, .int .i64 120]) (by simp [results, Try.results50, go_sem, c5, c6]) rfl ?_
      refine ⟨⟨_, by rw [HR.out]; rfl, ?_⟩, HBB.out⟩
      rw [HR.out]
      exact RV.fail _
    · have HR := Lib.hid (rtext_full (s := s) (most := most) hz0 (by rw [← HL1.out, ← HM1.out, ← HJ.out]; omega))
      rw [← HL1.out, ← HJ.out] at HR
      have hj : j ≤ m1 := hlt
      have hnil : a1 = none → m1 = 0 := by
        rintro rfl
        rcases Nat.eq_zero_or_pos m1 with e | e
        · exact e
        · obtain ⟨g, off, e', _⟩ := HY.out.cells e; cases e'
      obtain ⟨A, C, hrun, hAC, hA⟩ := slice_low a1 m1 c1 j hj y3 hnil
      have HA := Lib.hid hA
      have r1 : ¬ m1 < j := by omega
      have r2 : ¬ c1 < j := by omega
      clear hz0 he10 hA hnil
      go_upto_region 4 with (fail)
      rw [← hb7]
      clear hb7
      generalize (World.alloc _ _) = w4 at hw4 B4 B0 HB4 HY4 hz4 ⊢
      have x0 : w4.cell? ⟨b7, 0, none⟩ = some (.slice a1 m1 c1) := hw4.cell (i := 0) rfl
      have HW4 := Lib.hid hw4; clear hw4
      go_wp2_with fail
      have hS0 : (fun W => W.cell? ⟨b7, 0, none⟩ = some (.slice a1 m1 c1) ∧ Bys W a1 m1 l1) w4 := ⟨x0, HY4.out⟩
      have d0 : w4.cell? ⟨w.heap.size + 1, 0, none⟩ = some (.slice none 0 0) := B4.out.cell (i := 0) rfl
      have d1 : w4.cell? ⟨w.heap.size + 1, 1, none⟩ = some (.int .i64 0) := B4.out.cell (i := 1) rfl
      have g0 := B4.out.frozen 0
      have g1 := B4.out.frozen 1
      have n1 : w.heap.size + 1 ≠ b7 := by omega
      have hkeep : (fun W => W.cell? ⟨b7, 0, none⟩ = some (.slice a1 m1 c1) ∧ Bys W a1 m1 l1) ((w4.setCell ⟨w.heap.size + 1, 0, none⟩ (.slice A (m1 - j) C)).setCell ⟨w.heap.size + 1, 1, none⟩ (.int .i64 0)).drew := by
        refine ⟨((HW4.out.far (p := ⟨w.heap.size + 1, 0, none⟩) n1.symm _).far (p := ⟨w.heap.size + 1, 1, none⟩) n1.symm _).drew.cell (i := 0) rfl, ?_⟩
        exact Bys.below ((((Tch.refl (fun i => i = w.heap.size + 1) w4).setCell (p := ⟨w.heap.size + 1, 0, none⟩) (.inl rfl) _).setCell (p := ⟨w.heap.size + 1, 1, none⟩) (.inl rfl) _).bys HY4.out (fun g off e hn hs => far_cells B4.out (fun i y hy => by rcases (by omega : i = 0 ∨ i = 1 ∨ 2 ≤ i) with rfl | rfl | hi; simp at hy; simp at hy; rw [Array.getElem?_eq_none (by simp; omega)] at hy; cases hy) HY4.out g off e hn hs)) (Below.refl _ _).drew
      refine wp_region_held_drew (S := (fun W => W.cell? ⟨b7, 0, none⟩ = some (.slice a1 m1 c1) ∧ Bys W a1 m1 l1)) (by kernel_rfl) hS0 ?_
      intro hS0'
      refine wpAnyH_take (i := 0) (v := .pointer (some ⟨b7, 0, none⟩)) rfl (by kernel_rfl) (by kernel_rfl) (by kernel_rfl) (fun _ _ _ h => h) (Or.inl ⟨by kernel_rfl, fun w hSw => ?_⟩) hS0' ?_
      · go_simp
      try simp only [Act.put, List.getElem_toArray, List.getElem_cons_succ, List.getElem_cons_zero, List.setIfInBounds_toArray, List.set_cons_zero, List.set_cons_succ]
      refine wpAnyH_take (i := 1) (v := .slice a1 m1 c1) rfl (by kernel_rfl) (by kernel_rfl) (by kernel_rfl) (fun _ _ _ h => h) (Or.inl ⟨by kernel_rfl, fun w hSw => ?_⟩) hS0' ?_
      · obtain ⟨s1, s2⟩ := hSw
        go_simp
      try simp only [Act.put, List.getElem_toArray, List.getElem_cons_succ, List.getElem_cons_zero, List.setIfInBounds_toArray, List.set_cons_zero, List.set_cons_succ]
      refine wpAnyH_take (i := 2) (v := .int .i64 (j : Int)) rfl (by kernel_rfl) (by kernel_rfl) (by kernel_rfl) (fun _ _ _ h => h) (Or.inl ⟨by kernel_rfl, fun w hSw => ?_⟩) hS0' ?_
      · go_simp
      try simp only [Act.put, List.getElem_toArray, List.getElem_cons_succ, List.getElem_cons_zero, List.setIfInBounds_toArray, List.set_cons_zero, List.set_cons_succ]
      refine wpAnyH_take (i := 3) (v := .slice A (m1 - j) C) rfl (by kernel_rfl) (by kernel_rfl) (by kernel_rfl) (fun _ _ _ h => h) (Or.inl ⟨by kernel_rfl, fun w hSw => ?_⟩) hS0' ?_
      · clear hSw
        go_simp
      try simp only [Act.put, List.getElem_toArray, List.getElem_cons_succ, List.getElem_cons_zero, List.setIfInBounds_toArray, List.set_cons_zero, List.set_cons_succ]
      refine wpAnyH_take (i := 4) (v := .agg #[.slice A (m1 - j) C, .int .i64 0]) rfl (by kernel_rfl) (by kernel_rfl) (by kernel_rfl) (fun _ _ _ h => h) (Or.inl ⟨by kernel_rfl, fun w hSw => ?_⟩) hS0' ?_
      · go_simp
      try simp only [Act.put, List.getElem_toArray, List.getElem_cons_succ, List.getElem_cons_zero, List.setIfInBounds_toArray, List.set_cons_zero, List.set_cons_succ]
      refine wpAnyH_take (i := 5) (v := .pointer (some ⟨b7, 0, none⟩)) rfl (by kernel_rfl) (by kernel_rfl) (by kernel_rfl) (fun _ _ _ h => h) (Or.inl ⟨by kernel_rfl, fun w hSw => ?_⟩) hS0' ?_
      · go_simp
      try simp only [Act.put, List.getElem_toArray, List.getElem_cons_succ, List.getElem_cons_zero, List.setIfInBounds_toArray, List.set_cons_zero, List.set_cons_succ]
      refine wpAnyH_take (i := 6) (v := .slice a1 m1 c1) rfl (by kernel_rfl) (by kernel_rfl) (by kernel_rfl) (fun _ _ _ h => h) (Or.inl ⟨by kernel_rfl, fun w hSw => ?_⟩) hS0' ?_
      · obtain ⟨s1, s2⟩ := hSw
        go_simp
      try simp only [Act.put, List.getElem_toArray, List.getElem_cons_succ, List.getElem_cons_zero, List.setIfInBounds_toArray, List.set_cons_zero, List.set_cons_succ]
      refine wpAnyH_take (i := 7) (v := .int .i64 (j : Int)) rfl (by kernel_rfl) (by kernel_rfl) (by kernel_rfl) (fun _ _ _ h => h) (Or.inl ⟨by kernel_rfl, fun w hSw => ?_⟩) hS0' ?_
      · go_simp
      try simp only [Act.put, List.getElem_toArray, List.getElem_cons_succ, List.getElem_cons_zero, List.setIfInBounds_toArray, List.set_cons_zero, List.set_cons_succ]
      refine wpAnyH_take (i := 8) (v := .slice a1 j c1) rfl (by kernel_rfl) (by kernel_rfl) (by kernel_rfl) (fun _ _ _ h => h) (Or.inl ⟨by kernel_rfl, fun w hSw => ?_⟩) hS0' ?_
      · go_simp
      try simp only [Act.put, List.getElem_toArray, List.getElem_cons_succ, List.getElem_cons_zero, List.setIfInBounds_toArray, List.set_cons_zero, List.set_cons_succ]
      refine wpAnyH_take (i := 9) (v := .string (strOf (l1.take j))) rfl (by kernel_rfl) (by kernel_rfl) (by kernel_rfl) (fun _ _ _ h => h) (Or.inl ⟨by kernel_rfl, fun w hSw => ?_⟩) hS0' ?_
      · have q := run_str w a1 j c1 _ (hSw.2.take j hj)
        go_simp
      try simp only [Act.put, List.getElem_toArray, List.getElem_cons_succ, List.getElem_cons_zero, List.setIfInBounds_toArray, List.set_cons_zero, List.set_cons_succ]
      refine wpAnyH_ready (rs := [10]) (by kernel_rfl) (by simp) ?_
      refine AllReadyH.cons (by rfl) ?_ AllReadyH.nil
      intro K hK
      go_simp
      have k6 := ((B4.out.set 0 (.slice A (m1 - j) C)).set 1 (.int .i64 0)).drew
      have HBB := Lib.hid ((((HB4.out).setCell (p := ⟨w.heap.size + 1, 0, none⟩) (by simp) (.slice A (m1 - j) C)).setCell (p := ⟨w.heap.size + 1, 1, none⟩) (by simp) (.int .i64 0)).drew)
      have hSS := hkeep
      generalize (World.drew _) = w6 at k6 HBB hSS ⊢
      refine hK.out _ _ hSS (fun hS1 => ?_)
      clear hK K
      refine wpAnyH_ready (rs := [11]) (by kernel_rfl) (by simp) ?_
      refine AllReadyH.cons (by rfl) ?_ AllReadyH.nil
      intro K hK
      go_simp
      refine hK.out _ _ hS1 (fun hS2 => ?_)
      clear hK K
      refine wpAnyH_ready (rs := [12]) (by kernel_rfl) (by simp) ?_
      refine AllReadyH.cons (by rfl) ?_ AllReadyH.nil
      intro K hK
      go_simp
      refine hK.out _ _ hS2 (fun hS3 => ?_)
      clear hK K
      refine wpAnyH_done (by kernel_rfl) ?_ _
      go_wp2_with fail
      have c5 : w6.cell? ⟨w.heap.size + 1, 0, none⟩ = some (.slice A (m1 - j) C) := k6.cell (i := 0) rfl
      have c6 : w6.cell? ⟨w.heap.size + 1, 1, none⟩ = some (.int .i64 0) := k6.cell (i := 1) rfl
      refine bodyPost_ret (v := .tuple #[.agg #[.slice A (m1 - j) C, .int .i64 0], .string (strOf (l1.take j)), .int .i64 0]) (by simp [results, Try.results50, go_sem, c5, c6]) rfl ?_
      refine ⟨⟨_, by rw [HR.out], ?_⟩, HBB.out⟩
      rw [HR.out]
      have hb := HA.out w6 l1 hS1.2
      have e2 : (l1.drop j).length = m1 - j := by rw [List.length_drop, hS1.2.1]
      exact ⟨A, C, by simp only [e2], by simp only [e2]; exact hb, by simp only [e2]; exact hAC⟩
end Go.Proofs.Ytnecoapbpicloaa
