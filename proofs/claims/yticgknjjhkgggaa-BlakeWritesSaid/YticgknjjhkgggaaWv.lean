/- The walks of BlakeMix and BlakePress. -/
import Derived.Test.YticgknjjhkgggaaWu
import Derived.Test.YticgknjjhkgggaaLw
namespace Go.Proofs.Yticgknjjhkgggaa
open Go.RowKit
set_option linter.unusedSimpArgs false
set_option linter.unusedVariables false

theorem word_wf (x : Wo) : (Lit.int .u32 (x.toNat : Int)).wf = true := by
  have := lt32 x
  simp [Lit.wf, IntKind.min, IntKind.max, IntKind.signed, IntKind.bits]
  omega
/-- Equal arrays of words. -/
theorem eq_ws {t n : Nat} (hu : Try.prog.underlying t = some (.array n 22)) (hct : Try.prog.cellsOf t = n) (hk : Try.prog.keyTypeAt 2 t = true) (l : List Wo) (hl : l.length = n) (w : World) : (Op.equalIn 10000 t (.agg (ws l)) (.agg (ws l))).run Try.prog w = .ok true w := by
  have h := eql_ints hu Try.underlying22 (by kernel_rfl) hct hk (l.map fun x => (x.toNat : Int)) (l.map fun x => (x.toNat : Int)) (by simpa using hl) (by simpa using hl) (fun x hx => by
    obtain ⟨y, _, rfl⟩ := List.mem_map.1 hx; exact word_wf y) (fun x hx => by
    obtain ⟨y, _, rfl⟩ := List.mem_map.1 hx; exact word_wf y) w
  simp only [List.map_map] at h
  simpa [ws, Function.comp_def] using h
theorem quad_ws (q : Quad) : q.cells = ws [q.a, q.b, q.c, q.d] := rfl
set_option maxRecDepth 100000 in
set_option maxHeartbeats 2000000 in
theorem mixes_walk (q : Quad) (x y : Wo) (w : World) : Calls Try.prog 3 #[.agg q.cells, .int .u32 (x.toNat : Int), .int .u32 (y.toNat : Int)] w fun e w' => e = .returned (.bool true) ∧ Below w.heap.size w w' := by
  obtain ⟨Cs, hCs⟩ : ∃ C, C = q.cells := ⟨_, rfl⟩
  have HI : Hid ((Try.prog.info? 23).map (·.size) = some Cs.size) := Lib.hid (by rw [hCs]; exact Quad.info q)
  rw [← hCs]
  have HCs := Lib.hid hCs
  clear hCs
  obtain ⟨R, hR⟩ : ∃ R, R = (mix q x y).cells := ⟨_, rfl⟩
  have heq : ∀ w, (Op.equalIn 10000 23 (.agg R) (.agg R)).run Try.prog w = .ok true w := fun w => by
    rw [hR, quad_ws]
    exact eq_ws Try.underlying23 (by kernel_rfl) (by kernel_rfl) _ rfl w
  have HR := Lib.hid hR
  clear hR
  go_enter Try.func3, Try.ntmps3
  go_wp2_with fail
  have HS := Lib.hid (Blk.new w 23 Cs)
  have HB := Lib.hid ((Below.refl w.heap.size w).alloc (Nat.le_refl _) (.cells Cs 23))
  generalize hg : w.heap.size = g at HS ⊢
  have Hg := Lib.hid hg
  clear hg
  generalize (World.alloc _ _) = w1 at HS HB ⊢
  have HS := Lib.hid HS.out.drew
  have HB := Lib.hid HB.out.drew
  have hS0 : Blk w1.drew g 23 Cs := HS.out
  refine wp_region_held_drew (S := (fun W => Blk W g 23 Cs)) (by kernel_rfl) hS0 ?_
  intro hS0'
  generalize w1.drew = wA at hS0' HB HS ⊢
  refine wpAnyH_take (i := 0) (v := .agg Cs) rfl (by kernel_rfl) (by kernel_rfl) (by kernel_rfl) (fun _ _ _ h => h) ?_ hS0' ?_
  · exact yieldsIf_load_blk (by kernel_rfl) 23 (.tmp 3) rfl g (by kernel_rfl) 23 _ _ (fun w h => h) Try.underlying23 rfl HI.out
  try simp only [Act.put, List.getElem_toArray, List.getElem_cons_succ, List.getElem_cons_zero, List.setIfInBounds_toArray, List.set_cons_zero, List.set_cons_succ]
  refine wpAnyH_take (i := 1) (v := .int .u32 (x.toNat : Int)) rfl (by kernel_rfl) (by kernel_rfl) (by kernel_rfl) (fun _ _ _ h => h) (Or.inl ⟨by kernel_rfl, fun w hSw => ?_⟩) hS0' ?_
  · go_simp
  try simp only [Act.put, List.getElem_toArray, List.getElem_cons_succ, List.getElem_cons_zero, List.setIfInBounds_toArray, List.set_cons_zero, List.set_cons_succ]
  refine wpAnyH_take (i := 2) (v := .int .u32 (y.toNat : Int)) rfl (by kernel_rfl) (by kernel_rfl) (by kernel_rfl) (fun _ _ _ h => h) (Or.inl ⟨by kernel_rfl, fun w hSw => ?_⟩) hS0' ?_
  · go_simp
  try simp only [Act.put, List.getElem_toArray, List.getElem_cons_succ, List.getElem_cons_zero, List.setIfInBounds_toArray, List.set_cons_zero, List.set_cons_succ]
  refine wpAnyH_take (i := 4) (v := .agg Cs) rfl (by kernel_rfl) (by kernel_rfl) (by kernel_rfl) (fun _ _ _ h => h) ?_ hS0' ?_
  · exact yieldsIf_load_blk (by kernel_rfl) 23 (.tmp 3) rfl g (by kernel_rfl) 23 _ _ (fun w h => h) Try.underlying23 rfl HI.out
  try simp only [Act.put, List.getElem_toArray, List.getElem_cons_succ, List.getElem_cons_zero, List.setIfInBounds_toArray, List.set_cons_zero, List.set_cons_succ]
  refine wpAnyH_take (i := 5) (v := .int .u32 (x.toNat : Int)) rfl (by kernel_rfl) (by kernel_rfl) (by kernel_rfl) (fun _ _ _ h => h) (Or.inl ⟨by kernel_rfl, fun w hSw => ?_⟩) hS0' ?_
  · go_simp
  try simp only [Act.put, List.getElem_toArray, List.getElem_cons_succ, List.getElem_cons_zero, List.setIfInBounds_toArray, List.set_cons_zero, List.set_cons_succ]
  refine wpAnyH_take (i := 6) (v := .int .u32 (y.toNat : Int)) rfl (by kernel_rfl) (by kernel_rfl) (by kernel_rfl) (fun _ _ _ h => h) (Or.inl ⟨by kernel_rfl, fun w hSw => ?_⟩) hS0' ?_
  · go_simp
  try simp only [Act.put, List.getElem_toArray, List.getElem_cons_succ, List.getElem_cons_zero, List.setIfInBounds_toArray, List.set_cons_zero, List.set_cons_succ]
  refine wpAnyH_ready (rs := [3]) (by kernel_rfl) (by simp) ?_
  refine AllReadyH.cons (by rfl) ?_ AllReadyH.nil
  intro K hK
  go_simp
  try rw [HCs.out]
  refine (mix_c q x y _).mono ?_
  rintro e wm1 ⟨rfl, hb⟩
  rw [← HR.out]
  have HB := Lib.hid (HB.out.trans (hb.mono HB.out.size))
  have HS := Lib.hid (HS.out.below hb HS.out.lt)
  clear hb
  refine hK.out _ _ HS.out (fun hS1 => ?_)
  clear hK K
  refine wpAnyH_ready (rs := [7]) (by kernel_rfl) (by simp) ?_
  refine AllReadyH.cons (by rfl) ?_ AllReadyH.nil
  intro K hK
  go_simp
  try rw [HCs.out]
  refine (rmix_c q x y _).mono ?_
  rintro e wm2 ⟨rfl, hb⟩
  rw [← HR.out]
  have HB := Lib.hid (HB.out.trans (hb.mono HB.out.size))
  have HS := Lib.hid (HS.out.below hb HS.out.lt)
  clear hb
  refine hK.out _ _ HS.out (fun hS2 => ?_)
  clear hK K
  refine wpAnyH_take (i := 8) (v := .bool true) rfl (by kernel_rfl) (by kernel_rfl) (by kernel_rfl) (fun _ _ _ h => h) (Or.inl ⟨by kernel_rfl, fun w hSw => ?_⟩) hS2 ?_
  · go_simp
  try simp only [Act.put, List.getElem_toArray, List.getElem_cons_succ, List.getElem_cons_zero, List.setIfInBounds_toArray, List.set_cons_zero, List.set_cons_succ]
  refine wpAnyH_take (i := 9) (v := .bool true) rfl (by kernel_rfl) (by kernel_rfl) (by kernel_rfl) (fun _ _ _ h => h) (Or.inl ⟨by kernel_rfl, fun w hSw => ?_⟩) hS2 ?_
  · go_simp
  try simp only [Act.put, List.getElem_toArray, List.getElem_cons_succ, List.getElem_cons_zero, List.setIfInBounds_toArray, List.set_cons_zero, List.set_cons_succ]
  refine wpAnyH_ready (rs := [10]) (by kernel_rfl) (by simp) ?_
  refine AllReadyH.cons (by rfl) ?_ AllReadyH.nil
  intro K hK
  go_simp
  refine (works_c _).mono ?_
  rintro e wm3 ⟨rfl, hb⟩
  have HB := Lib.hid (HB.out.trans (hb.mono HB.out.size))
  have HS := Lib.hid (HS.out.below hb HS.out.lt)
  clear hb
  refine hK.out _ _ HS.out (fun hS3 => ?_)
  clear hK K
  refine wpAnyH_take (i := 11) (v := .bool true) rfl (by kernel_rfl) (by kernel_rfl) (by kernel_rfl) (fun _ _ _ h => h) (Or.inl ⟨by kernel_rfl, fun w hSw => ?_⟩) hS3 ?_
  · go_simp
  try simp only [Act.put, List.getElem_toArray, List.getElem_cons_succ, List.getElem_cons_zero, List.setIfInBounds_toArray, List.set_cons_zero, List.set_cons_succ]
  refine wpAnyH_take (i := 12) (v := .bool true) rfl (by kernel_rfl) (by kernel_rfl) (by kernel_rfl) (fun _ _ _ h => h) (Or.inl ⟨by kernel_rfl, fun w hSw => ?_⟩) hS3 ?_
  · go_simp
  try simp only [Act.put, List.getElem_toArray, List.getElem_cons_succ, List.getElem_cons_zero, List.setIfInBounds_toArray, List.set_cons_zero, List.set_cons_succ]
  refine wpAnyH_done (by kernel_rfl) ?_ _
  go_wp2_with fail
  go_ret
  exact ⟨rfl, HB.out⟩
set_option maxRecDepth 100000 in
set_option maxHeartbeats 2000000 in
theorem presses_walk (h : List Wo) (b : List By) (n : Nat) (last : Bool) (w : World) (hh : h.length = 8) (hb : b.length = 64) (hn : n < 18446744073709551616) : Calls Try.prog 4 #[.agg (ws h), .agg (bya b), .int .u64 (n : Int), .bool last] w fun e w' => e = .returned (.bool true) ∧ Below w.heap.size w w' := by
  have HN := Lib.hid hn
  have HL8 := Lib.hid hh; have HL64 := Lib.hid hb
  clear hn
  obtain ⟨Hc, hHc⟩ : ∃ C, C = ws h := ⟨_, rfl⟩
  obtain ⟨Bc, hBc⟩ : ∃ C, C = bya b := ⟨_, rfl⟩
  have HI : Hid ((Try.prog.info? 27).map (·.size) = some Hc.size) := Lib.hid (by rw [hHc, ws_size, hh]; kernel_rfl)
  have HJ : Hid ((Try.prog.info? 28).map (·.size) = some Bc.size) := Lib.hid (by rw [hBc, bya_size, hb]; kernel_rfl)
  rw [← hHc, ← hBc]
  have HHc := Lib.hid hHc; have HBc := Lib.hid hBc
  obtain ⟨R, hR⟩ : ∃ R, R = ws (press h b n last) := ⟨_, rfl⟩
  have heq : ∀ w, (Op.equalIn 10000 27 (.agg R) (.agg R)).run Try.prog w = .ok true w := fun w => by
    rw [hR]
    exact eq_ws Try.underlying27 (by kernel_rfl) (by kernel_rfl) _ (by rw [press_len]; exact hh) w
  have HR := Lib.hid hR
  clear hR hHc hBc hh hb
  go_enter Try.func4, Try.ntmps4
  go_wp2_with fail
  have HS := Lib.hid (⟨(Blk.new w 27 Hc).alloc (.cells Bc 28), Blk.new2 w (.cells Hc 27) 28 Bc⟩ : Blk _ w.heap.size 27 Hc ∧ Blk _ (w.heap.size + 1) 28 Bc)
  have HB := Lib.hid (below2 w (.cells Hc 27) (.cells Bc 28))
  generalize hg : w.heap.size = g at HS ⊢
  have Hg := Lib.hid hg
  clear hg
  generalize (World.alloc _ _) = w1 at HS HB ⊢
  have HS := Lib.hid (⟨HS.out.1.drew, HS.out.2.drew⟩ : Blk w1.drew g 27 Hc ∧ Blk w1.drew (g + 1) 28 Bc)
  have HB := Lib.hid HB.out.drew
  have hS0 : Blk w1.drew g 27 Hc ∧ Blk w1.drew (g + 1) 28 Bc := HS.out
  refine wp_region_held_drew (S := (fun W => Blk W g 27 Hc ∧ Blk W (g + 1) 28 Bc)) (by kernel_rfl) hS0 ?_
  intro hS0'
  generalize w1.drew = wA at hS0' HB HS ⊢
  refine wpAnyH_take (i := 0) (v := .agg Hc) rfl (by kernel_rfl) (by kernel_rfl) (by kernel_rfl) (fun _ _ _ h => h) ?_ hS0' ?_
  · exact yieldsIf_load_blk (by kernel_rfl) 27 (.tmp 4) rfl g (by kernel_rfl) 27 _ _ (fun w h => h.1) Try.underlying27 rfl HI.out
  try simp only [Act.put, List.getElem_toArray, List.getElem_cons_succ, List.getElem_cons_zero, List.setIfInBounds_toArray, List.set_cons_zero, List.set_cons_succ]
  refine wpAnyH_take (i := 1) (v := .agg Bc) rfl (by kernel_rfl) (by kernel_rfl) (by kernel_rfl) (fun _ _ _ h => h) ?_ hS0' ?_
  · exact yieldsIf_load_blk (by kernel_rfl) 28 (.tmp 5) rfl (g + 1) (by kernel_rfl) 28 _ _ (fun w h => h.2) Try.underlying28 rfl HJ.out
  try simp only [Act.put, List.getElem_toArray, List.getElem_cons_succ, List.getElem_cons_zero, List.setIfInBounds_toArray, List.set_cons_zero, List.set_cons_succ]
  refine wpAnyH_take (i := 2) (v := .int .u64 (n : Int)) rfl (by kernel_rfl) (by kernel_rfl) (by kernel_rfl) (fun _ _ _ h => h) (Or.inl ⟨by kernel_rfl, fun w hSw => ?_⟩) hS0' ?_
  · go_simp
  try simp only [Act.put, List.getElem_toArray, List.getElem_cons_succ, List.getElem_cons_zero, List.setIfInBounds_toArray, List.set_cons_zero, List.set_cons_succ]
  refine wpAnyH_take (i := 3) (v := .bool last) rfl (by kernel_rfl) (by kernel_rfl) (by kernel_rfl) (fun _ _ _ h => h) (Or.inl ⟨by kernel_rfl, fun w hSw => ?_⟩) hS0' ?_
  · go_simp
  try simp only [Act.put, List.getElem_toArray, List.getElem_cons_succ, List.getElem_cons_zero, List.setIfInBounds_toArray, List.set_cons_zero, List.set_cons_succ]
  refine wpAnyH_take (i := 5) (v := .agg Hc) rfl (by kernel_rfl) (by kernel_rfl) (by kernel_rfl) (fun _ _ _ h => h) ?_ hS0' ?_
  · exact yieldsIf_load_blk (by kernel_rfl) 27 (.tmp 4) rfl g (by kernel_rfl) 27 _ _ (fun w h => h.1) Try.underlying27 rfl HI.out
  try simp only [Act.put, List.getElem_toArray, List.getElem_cons_succ, List.getElem_cons_zero, List.setIfInBounds_toArray, List.set_cons_zero, List.set_cons_succ]
  refine wpAnyH_take (i := 6) (v := .agg Bc) rfl (by kernel_rfl) (by kernel_rfl) (by kernel_rfl) (fun _ _ _ h => h) ?_ hS0' ?_
  · exact yieldsIf_load_blk (by kernel_rfl) 28 (.tmp 5) rfl (g + 1) (by kernel_rfl) 28 _ _ (fun w h => h.2) Try.underlying28 rfl HJ.out
  try simp only [Act.put, List.getElem_toArray, List.getElem_cons_succ, List.getElem_cons_zero, List.setIfInBounds_toArray, List.set_cons_zero, List.set_cons_succ]
  refine wpAnyH_take (i := 7) (v := .int .u64 (n : Int)) rfl (by kernel_rfl) (by kernel_rfl) (by kernel_rfl) (fun _ _ _ h => h) (Or.inl ⟨by kernel_rfl, fun w hSw => ?_⟩) hS0' ?_
  · go_simp
  try simp only [Act.put, List.getElem_toArray, List.getElem_cons_succ, List.getElem_cons_zero, List.setIfInBounds_toArray, List.set_cons_zero, List.set_cons_succ]
  refine wpAnyH_take (i := 8) (v := .bool last) rfl (by kernel_rfl) (by kernel_rfl) (by kernel_rfl) (fun _ _ _ h => h) (Or.inl ⟨by kernel_rfl, fun w hSw => ?_⟩) hS0' ?_
  · go_simp
  try simp only [Act.put, List.getElem_toArray, List.getElem_cons_succ, List.getElem_cons_zero, List.setIfInBounds_toArray, List.set_cons_zero, List.set_cons_succ]
  refine wpAnyH_ready (rs := [4]) (by kernel_rfl) (by simp) ?_
  refine AllReadyH.cons (by rfl) ?_ AllReadyH.nil
  intro K hK
  go_simp
  try rw [HHc.out, HBc.out]
  refine (press_c h b n last _ HL8.out HL64.out).mono ?_
  rintro e wm1 ⟨rfl, hb⟩
  rw [← HR.out]
  have HB := Lib.hid (HB.out.trans (hb.mono HB.out.size))
  have HS := Lib.hid (⟨HS.out.1.below hb HS.out.1.lt, HS.out.2.below hb HS.out.2.lt⟩ : Blk _ g 27 Hc ∧ Blk _ (g + 1) 28 Bc)
  clear hb
  refine hK.out _ _ HS.out (fun hS1 => ?_)
  clear hK K
  refine wpAnyH_ready (rs := [9]) (by kernel_rfl) (by simp) ?_
  refine AllReadyH.cons (by rfl) ?_ AllReadyH.nil
  intro K hK
  go_simp
  try rw [HHc.out, HBc.out]
  refine (rpress_c h b n last _ HL8.out HL64.out HN.out).mono ?_
  rintro e wm2 ⟨rfl, hb⟩
  rw [← HR.out]
  have HB := Lib.hid (HB.out.trans (hb.mono HB.out.size))
  have HS := Lib.hid (⟨HS.out.1.below hb HS.out.1.lt, HS.out.2.below hb HS.out.2.lt⟩ : Blk _ g 27 Hc ∧ Blk _ (g + 1) 28 Bc)
  clear hb
  refine hK.out _ _ HS.out (fun hS2 => ?_)
  clear hK K
  refine wpAnyH_take (i := 10) (v := .bool true) rfl (by kernel_rfl) (by kernel_rfl) (by kernel_rfl) (fun _ _ _ h => h) (Or.inl ⟨by kernel_rfl, fun w hSw => ?_⟩) hS2 ?_
  · go_simp
  try simp only [Act.put, List.getElem_toArray, List.getElem_cons_succ, List.getElem_cons_zero, List.setIfInBounds_toArray, List.set_cons_zero, List.set_cons_succ]
  refine wpAnyH_take (i := 11) (v := .bool true) rfl (by kernel_rfl) (by kernel_rfl) (by kernel_rfl) (fun _ _ _ h => h) (Or.inl ⟨by kernel_rfl, fun w hSw => ?_⟩) hS2 ?_
  · go_simp
  try simp only [Act.put, List.getElem_toArray, List.getElem_cons_succ, List.getElem_cons_zero, List.setIfInBounds_toArray, List.set_cons_zero, List.set_cons_succ]
  refine wpAnyH_ready (rs := [12]) (by kernel_rfl) (by simp) ?_
  refine AllReadyH.cons (by rfl) ?_ AllReadyH.nil
  intro K hK
  go_simp
  refine (works_c _).mono ?_
  rintro e wm3 ⟨rfl, hb⟩
  have HB := Lib.hid (HB.out.trans (hb.mono HB.out.size))
  have HS := Lib.hid (⟨HS.out.1.below hb HS.out.1.lt, HS.out.2.below hb HS.out.2.lt⟩ : Blk _ g 27 Hc ∧ Blk _ (g + 1) 28 Bc)
  clear hb
  refine hK.out _ _ HS.out (fun hS3 => ?_)
  clear hK K
  refine wpAnyH_take (i := 13) (v := .bool true) rfl (by kernel_rfl) (by kernel_rfl) (by kernel_rfl) (fun _ _ _ h => h) (Or.inl ⟨by kernel_rfl, fun w hSw => ?_⟩) hS3 ?_
  · go_simp
  try simp only [Act.put, List.getElem_toArray, List.getElem_cons_succ, List.getElem_cons_zero, List.setIfInBounds_toArray, List.set_cons_zero, List.set_cons_succ]
  refine wpAnyH_take (i := 14) (v := .bool true) rfl (by kernel_rfl) (by kernel_rfl) (by kernel_rfl) (fun _ _ _ h => h) (Or.inl ⟨by kernel_rfl, fun w hSw => ?_⟩) hS3 ?_
  · go_simp
  try simp only [Act.put, List.getElem_toArray, List.getElem_cons_succ, List.getElem_cons_zero, List.setIfInBounds_toArray, List.set_cons_zero, List.set_cons_succ]
  refine wpAnyH_done (by kernel_rfl) ?_ _
  go_wp2_with fail
  go_ret
  exact ⟨rfl, HB.out⟩
end Go.Proofs.Yticgknjjhkgggaa
