/- Contracts: the document's reader, Truth. -/
import Derived.Test.YtnecoapbpicloaaWt
namespace Go.Proofs.Ytnecoapbpicloaa
open Go.RowKit
set_option linter.unusedSimpArgs false
set_option linter.unusedVariables false
set_option maxRecDepth 100000

def RTru (w : World) (s : RS) (e : Ending) (w' : World) : Prop := (∃ v, e = .returned (.tuple #[v, .bool (rtruth s).2.1, .int .i64 (rtruth s).2.2]) ∧ RV w' v (rtruth s).1) ∧ Below w.heap.size w w'
set_option maxHeartbeats 2000000 in
theorem rr_truth (v : Value) (s : RS) (w : World) (h : RV w v s) :
    Calls Try.prog 51 #[v] w (RTru w s) := by
  obtain ⟨a, c, rfl, h2, h3⟩ := h
  have H2 := Lib.hid h2
  obtain ⟨m, hm⟩ : ∃ m, m = s.l.length := ⟨_, rfl⟩
  rw [← hm] at h3 ⊢
  have HM := Lib.hid hm
  clear h2 hm
  by_cases he : s.e = 0
  case neg =>
    have HR := Lib.hid (rtruth_err he)
    have q : (s.e != 0) = true := by simpa using he
    clear he
    go_enter Try.func51, Try.ntmps51
    go_wp2_with fail
    go_region
    go_wp2_with fail
    refine bodyPost_ret (v := .tuple #[.agg #[.slice a m c, .int .i64 s.e], .bool false, .int .i64 s.e]) (by simp [results, Try.results51, go_sem]) rfl ?_
    have hB : Below w.heap.size w ((w.alloc (.cells #[.slice a m c, .int .i64 s.e] 40)).alloc (.cells #[.slice a m c, .int .i64 s.e] 40)).drew := (((Below.refl _ _).alloc (Nat.le_refl _) _).alloc (by simp) _).drew
    refine ⟨⟨_, by rw [HR.out], ?_⟩, hB⟩
    rw [HR.out]
    exact ⟨a, c, by rw [HM.out], H2.out.below hB, by rw [← HM.out]; exact h3⟩
  case pos =>
    rw [he]
    have HE := Lib.hid he; clear he
    have HB2 := Lib.hid (blk2 w 40 40 #[.slice a m c, .int .i64 0] #[.slice none 0 0, .int .i64 0])
    rcases hl : s.l with _ | ⟨x, t⟩
    · have HR := Lib.hid (rtruth_nil HE.out hl)
      obtain rfl : m = 0 := by rw [HM.out, hl]; rfl
      clear hl
      go_enter Try.func51, Try.ntmps51
      go_wp2_with fail
      generalize (World.alloc _ _) = W0 at HB2 ⊢
      obtain ⟨b1, b3, b5, b6⟩ := HB2.out
      refine (rfail_c _ 0 c 0 _).mono ?_
      rintro e w3 ⟨rfl, hb⟩
      have HB := Lib.hid (b5.trans (hb.mono (by omega)))
      have B3 := Lib.hid (b3.below hb b3.lt)
      have hz3 : w.heap.size + 2 ≤ w3.heap.size := by have := hb.size; omega
      have d0 : w3.cell? ⟨w.heap.size + 1, 0, none⟩ = some (.slice none 0 0) := B3.out.cell (i := 0) rfl
      have d1 : w3.cell? ⟨w.heap.size + 1, 1, none⟩ = some (.int .i64 0) := B3.out.cell (i := 1) rfl
      have g0 := B3.out.frozen 0
      have g1 := B3.out.frozen 1
      have n2 : w.heap.size + 1 ≠ w3.heap.size := by omega
      have n3 : w.heap.size + 1 < w3.heap.size := by omega
      clear b1 b3 b5 b6 hb HB2
      go_wp2_with fail
      have k5 := ((B3.out.set 0 (.slice none 0 0)).set 1 (.int .i64 120)).alloc (.cells #[.slice none 0 0, .int .i64 120] 40)
      have HBB := Lib.hid (((HB.out.setCell (p := ⟨w.heap.size + 1, 0, none⟩) (by simp) (.slice none 0 0)).setCell (p := ⟨w.heap.size + 1, 1, none⟩) (by simp) (.int .i64 120)).alloc (by simp; omega) (.cells #[.slice none 0 0, .int .i64 120] 40))
      generalize (World.alloc _ _) = w5 at k5 HBB ⊢
      have c5 : w5.cell? ⟨w.heap.size + 1, 0, none⟩ = some (.slice none 0 0) := k5.cell (i := 0) rfl
      have c6 : w5.cell? ⟨w.heap.size + 1, 1, none⟩ = some (.int .i64 120) := k5.cell (i := 1) rfl
      refine bodyPost_ret (v := .tuple #[.agg #[.slice none 0 0, .int .i64 120], .bool false, .int .i64 120]) (by simp [results, Try.results51, go_sem, c5, c6]) rfl ?_
      refine ⟨⟨_, by rw [HR.out], ?_⟩, HBB.out⟩
      rw [HR.out]
      exact RV.fail _
    · obtain ⟨g, off, rfl, hg, hcell⟩ := H2.out.2 0 x (by rw [hl]; rfl)
      rw [Nat.add_zero] at hcell
      have hm0 : 0 < m := by rw [HM.out, hl]; simp
      have q0 : ((m : Int) == 0) = false := by simp; omega
      have HL := Lib.hid hl
      by_cases hx : 1 < x.toNat
      · have HR := Lib.hid (rtruth_bad HE.out hl hx)
        have r1 : (1 : Int) < (x.toNat : Int) := by omega
        clear hl
        have hw0 := fun o => cell_al hcell o
        go_enter Try.func51, Try.ntmps51
        go_upto_region 3 with (fail)
        generalize (World.alloc _ _) = W0 at HB2 ⊢
        obtain ⟨b1, b3, b5, b6⟩ := HB2.out
        have hc0 : W0.cell? ⟨g, off, none⟩ = some (.int .u8 (x.toNat : Int)) := (b5.cell (p := ⟨g, off, none⟩) hg).trans hcell
        have z0 : W0.cell? ⟨w.heap.size, 0, none⟩ = some (.slice (some ⟨g, off, none⟩) m c) := b1.cell (i := 0) rfl
        have z1 : W0.cell? ⟨w.heap.size, 1, none⟩ = some (.int .i64 0) := b1.cell (i := 1) rfl
        clear hw0 hcell
        go_wp2_with fail
        refine (rfail_c _ m c 0 _).mono ?_
        rintro e w3 ⟨rfl, hb⟩
        have HB := Lib.hid (b5.trans (hb.mono (by omega)))
        have B3 := Lib.hid (b3.below hb b3.lt)
        have hz3 : w.heap.size + 2 ≤ w3.heap.size := by have := hb.size; omega
        have d0 : w3.cell? ⟨w.heap.size + 1, 0, none⟩ = some (.slice none 0 0) := B3.out.cell (i := 0) rfl
        have d1 : w3.cell? ⟨w.heap.size + 1, 1, none⟩ = some (.int .i64 0) := B3.out.cell (i := 1) rfl
        have g0 := B3.out.frozen 0
        have g1 := B3.out.frozen 1
        have n2 : w.heap.size + 1 ≠ w3.heap.size := by omega
        have n3 : w.heap.size + 1 < w3.heap.size := by omega
        clear b1 b3 b5 b6 hb HB2
        go_wp2_with fail
        have k5 := ((B3.out.set 0 (.slice none 0 0)).set 1 (.int .i64 120)).alloc (.cells #[.slice none 0 0, .int .i64 120] 40)
        have HBB := Lib.hid (((HB.out.setCell (p := ⟨w.heap.size + 1, 0, none⟩) (by simp) (.slice none 0 0)).setCell (p := ⟨w.heap.size + 1, 1, none⟩) (by simp) (.int .i64 120)).alloc (by simp; omega) (.cells #[.slice none 0 0, .int .i64 120] 40))
        generalize (World.alloc _ _) = w5 at k5 HBB ⊢
        have c5 : w5.cell? ⟨w.heap.size + 1, 0, none⟩ = some (.slice none 0 0) := k5.cell (i := 0) rfl
        have c6 : w5.cell? ⟨w.heap.size + 1, 1, none⟩ = some (.int .i64 120) := k5.cell (i := 1) rfl
        refine bodyPost_ret (v := .tuple #[.agg #[.slice none 0 0, .int .i64 120], .bool false, .int .i64 120]) (by simp [results, Try.results51, go_sem, c5, c6]) rfl ?_
        refine ⟨⟨_, by rw [HR.out], ?_⟩, HBB.out⟩
        rw [HR.out]
        exact RV.fail _
      · have HR := Lib.hid (rtruth_ok HE.out hl hx)
        have r1 : ¬ (1 : Int) < (x.toNat : Int) := by omega
        obtain ⟨y, hy⟩ : ∃ y, y = decide (x.toNat = 1) := ⟨_, rfl⟩
        have q1 : ((x.toNat : Int) == 1) = y := by rw [hy, Bool.eq_iff_iff]; simp; omega
        have HY := Lib.hid hy.symm; clear hy
        have HT : Hid (s.l.drop 1 = t) := Lib.hid (by rw [hl]; simp)
        obtain ⟨A, C, hrun, hAC, hA⟩ := slice_low (some ⟨g, off, none⟩) m c 1 (by omega) h3 (by intro e; cases e)
        have hrun2 : ∀ W, (Instr.sliceAt 22 (.slice (some ⟨g, off, none⟩) m c) (some (.int .i64 1)) none none).run Try.prog W = .ok (.slice A (m - 1) C) W := hrun
        clear hrun
        have HA := Lib.hid hA
        clear hl hA
        go_enter Try.func51, Try.ntmps51
        go_upto_region 3 with (fail)
        generalize (World.alloc _ _) = w4 at HB2 ⊢
        obtain ⟨b1, b3, b5, b6⟩ := HB2.out
        have hc0 : w4.cell? ⟨g, off, none⟩ = some (.int .u8 (x.toNat : Int)) := (b5.cell (p := ⟨g, off, none⟩) hg).trans hcell
        have z0 : w4.cell? ⟨w.heap.size, 0, none⟩ = some (.slice (some ⟨g, off, none⟩) m c) := b1.cell (i := 0) rfl
        have B4 := Lib.hid b3; have HB4 := Lib.hid b5
        have n1 : w.heap.size ≠ w.heap.size + 1 := by omega
        have n3 : g ≠ w.heap.size + 1 := by omega
        have B1 := Lib.hid b1
        clear hcell b1 b3 b5 b6 HB2
        go_wp2_with fail
        have d0 : w4.cell? ⟨w.heap.size + 1, 0, none⟩ = some (.slice none 0 0) := B4.out.cell (i := 0) rfl
        have d1 : w4.cell? ⟨w.heap.size + 1, 1, none⟩ = some (.int .i64 0) := B4.out.cell (i := 1) rfl
        have g0 := B4.out.frozen 0
        have g1 := B4.out.frozen 1
        have hS0 : (fun W => W.cell? ⟨w.heap.size, 0, none⟩ = some (.slice (some ⟨g, off, none⟩) m c) ∧ W.cell? ⟨g, off, none⟩ = some (.int .u8 (x.toNat : Int))) w4 := ⟨z0, hc0⟩
        have hkeep : (fun W => W.cell? ⟨w.heap.size, 0, none⟩ = some (.slice (some ⟨g, off, none⟩) m c) ∧ W.cell? ⟨g, off, none⟩ = some (.int .u8 (x.toNat : Int))) ((w4.setCell ⟨w.heap.size + 1, 0, none⟩ (.slice A (m - 1) C)).setCell ⟨w.heap.size + 1, 1, none⟩ (.int .i64 0)).drew := by
          refine ⟨((B1.out.far (p := ⟨w.heap.size + 1, 0, none⟩) n1 _).far (p := ⟨w.heap.size + 1, 1, none⟩) n1 _).drew.cell (i := 0) rfl, ?_⟩
          exact (World.cell?_of_block (a := ⟨g, off, none⟩) ((Below.heap_setCell _ ⟨w.heap.size + 1, 1, none⟩ _ g n3).trans (Below.heap_setCell _ ⟨w.heap.size + 1, 0, none⟩ _ g n3))).trans hc0
        refine wp_region_held_drew (S := (fun W => W.cell? ⟨w.heap.size, 0, none⟩ = some (.slice (some ⟨g, off, none⟩) m c) ∧ W.cell? ⟨g, off, none⟩ = some (.int .u8 (x.toNat : Int)))) (by kernel_rfl) hS0 ?_
        intro hS0'
        refine wpAnyH_take (i := 0) (v := .pointer (some ⟨w.heap.size, 0, none⟩)) rfl (by kernel_rfl) (by kernel_rfl) (by kernel_rfl) (fun _ _ _ h => h) (Or.inl ⟨by kernel_rfl, fun w hSw => ?_⟩) hS0' ?_
        · go_simp
        try simp only [Act.put, List.getElem_toArray, List.getElem_cons_succ, List.getElem_cons_zero, List.setIfInBounds_toArray, List.set_cons_zero, List.set_cons_succ]
        refine wpAnyH_take (i := 1) (v := .slice (some ⟨g, off, none⟩) m c) rfl (by kernel_rfl) (by kernel_rfl) (by kernel_rfl) (fun _ _ _ h => h) (Or.inl ⟨by kernel_rfl, fun w hSw => ?_⟩) hS0' ?_
        · obtain ⟨s1, s2⟩ := hSw
          go_simp
        try simp only [Act.put, List.getElem_toArray, List.getElem_cons_succ, List.getElem_cons_zero, List.setIfInBounds_toArray, List.set_cons_zero, List.set_cons_succ]
        refine wpAnyH_take (i := 2) (v := .slice A (m - 1) C) rfl (by kernel_rfl) (by kernel_rfl) (by kernel_rfl) (fun _ _ _ h => h) (Or.inl ⟨by kernel_rfl, fun w hSw => ?_⟩) hS0' ?_
        · clear hSw
          go_simp
        try simp only [Act.put, List.getElem_toArray, List.getElem_cons_succ, List.getElem_cons_zero, List.setIfInBounds_toArray, List.set_cons_zero, List.set_cons_succ]
        refine wpAnyH_take (i := 3) (v := .agg #[.slice A (m - 1) C, .int .i64 0]) rfl (by kernel_rfl) (by kernel_rfl) (by kernel_rfl) (fun _ _ _ h => h) (Or.inl ⟨by kernel_rfl, fun w hSw => ?_⟩) hS0' ?_
        · go_simp
        try simp only [Act.put, List.getElem_toArray, List.getElem_cons_succ, List.getElem_cons_zero, List.setIfInBounds_toArray, List.set_cons_zero, List.set_cons_succ]
        refine wpAnyH_take (i := 4) (v := .pointer (some ⟨w.heap.size, 0, none⟩)) rfl (by kernel_rfl) (by kernel_rfl) (by kernel_rfl) (fun _ _ _ h => h) (Or.inl ⟨by kernel_rfl, fun w hSw => ?_⟩) hS0' ?_
        · go_simp
        try simp only [Act.put, List.getElem_toArray, List.getElem_cons_succ, List.getElem_cons_zero, List.setIfInBounds_toArray, List.set_cons_zero, List.set_cons_succ]
        refine wpAnyH_take (i := 5) (v := .slice (some ⟨g, off, none⟩) m c) rfl (by kernel_rfl) (by kernel_rfl) (by kernel_rfl) (fun _ _ _ h => h) (Or.inl ⟨by kernel_rfl, fun w hSw => ?_⟩) hS0' ?_
        · obtain ⟨s1, s2⟩ := hSw
          go_simp
        try simp only [Act.put, List.getElem_toArray, List.getElem_cons_succ, List.getElem_cons_zero, List.setIfInBounds_toArray, List.set_cons_zero, List.set_cons_succ]
        refine wpAnyH_take (i := 6) (v := .pointer (some ⟨g, off, none⟩)) rfl (by kernel_rfl) (by kernel_rfl) (by kernel_rfl) (fun _ _ _ h => h) (Or.inl ⟨by kernel_rfl, fun w hSw => ?_⟩) hS0' ?_
        · clear hSw
          go_simp
        try simp only [Act.put, List.getElem_toArray, List.getElem_cons_succ, List.getElem_cons_zero, List.setIfInBounds_toArray, List.set_cons_zero, List.set_cons_succ]
        refine wpAnyH_take (i := 7) (v := .int .u8 (x.toNat : Int)) rfl (by kernel_rfl) (by kernel_rfl) (by kernel_rfl) (fun _ _ _ h => h) (Or.inl ⟨by kernel_rfl, fun w hSw => ?_⟩) hS0' ?_
        · obtain ⟨s1, s2⟩ := hSw
          go_simp
        try simp only [Act.put, List.getElem_toArray, List.getElem_cons_succ, List.getElem_cons_zero, List.setIfInBounds_toArray, List.set_cons_zero, List.set_cons_succ]
        refine wpAnyH_take (i := 8) (v := .bool y) rfl (by kernel_rfl) (by kernel_rfl) (by kernel_rfl) (fun _ _ _ h => h) (Or.inl ⟨by kernel_rfl, fun w hSw => ?_⟩) hS0' ?_
        · clear hSw
          go_simp
        try simp only [Act.put, List.getElem_toArray, List.getElem_cons_succ, List.getElem_cons_zero, List.setIfInBounds_toArray, List.set_cons_zero, List.set_cons_succ]
        refine wpAnyH_ready (rs := [9]) (by kernel_rfl) (by simp) ?_
        refine AllReadyH.cons (by rfl) ?_ AllReadyH.nil
        intro K hK
        go_simp
        have k6 := ((B4.out.set 0 (.slice A (m - 1) C)).set 1 (.int .i64 0)).drew
        have HBB := Lib.hid ((((HB4.out).setCell (p := ⟨w.heap.size + 1, 0, none⟩) (by simp) (.slice A (m - 1) C)).setCell (p := ⟨w.heap.size + 1, 1, none⟩) (by simp) (.int .i64 0)).drew)
        have hSS := hkeep
        generalize (World.drew _) = w6 at k6 HBB hSS ⊢
        refine hK.out _ _ hSS (fun hS1 => ?_)
        clear hK K
        refine wpAnyH_ready (rs := [10]) (by kernel_rfl) (by simp) ?_
        refine AllReadyH.cons (by rfl) ?_ AllReadyH.nil
        intro K hK
        go_simp
        refine hK.out _ _ hS1 (fun hS2 => ?_)
        clear hK K
        refine wpAnyH_ready (rs := [11]) (by kernel_rfl) (by simp) ?_
        refine AllReadyH.cons (by rfl) ?_ AllReadyH.nil
        intro K hK
        go_simp
        refine hK.out _ _ hS2 (fun hS3 => ?_)
        clear hK K
        refine wpAnyH_done (by kernel_rfl) ?_ _
        go_wp2_with fail
        have c5 : w6.cell? ⟨w.heap.size + 1, 0, none⟩ = some (.slice A (m - 1) C) := k6.cell (i := 0) rfl
        have c6 : w6.cell? ⟨w.heap.size + 1, 1, none⟩ = some (.int .i64 0) := k6.cell (i := 1) rfl
        refine bodyPost_ret (v := .tuple #[.agg #[.slice A (m - 1) C, .int .i64 0], .bool y, .int .i64 0]) (by simp [results, Try.results51, go_sem, c5, c6]) rfl ?_
        refine ⟨⟨_, by rw [HR.out, HY.out], ?_⟩, HBB.out⟩
        rw [HR.out]
        have hb := HA.out w6 s.l (by rw [HM.out]; exact H2.out.below HBB.out)
        rw [HT.out] at hb
        have e2 : t.length = m - 1 := by have := HM.out; have h2 := congrArg List.length HL.out; simp at h2; omega
        exact ⟨A, C, by simp only [e2], by simp only [e2]; exact hb, by simp only [e2]; exact hAC⟩
end Go.Proofs.Ytnecoapbpicloaa
