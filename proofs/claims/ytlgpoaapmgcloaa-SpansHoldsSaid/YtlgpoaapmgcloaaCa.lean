/- Contracts: Covers. -/
import Derived.Test.YtlgpoaapmgcloaaSq
namespace Go.Proofs.Ytlgpoaapmgcloaa
open Go.RowKit
set_option linter.unusedSimpArgs false
set_option linter.unusedVariables false
set_option maxRecDepth 100000

set_option maxHeartbeats 4000000 in
theorem covers_c (p : Nat) (l : List Sp) (a : Option Addr) (c : Nat) (z : Sp) (w : World) (h : IsSet w p l a c) (hn : l.length ≤ 1000000) (hls : Smalls l) (hzs : z.small) (hz1 : z.right = true) :
    Calls Try.prog 13 #[.pointer (some ⟨p, 0, none⟩), z.val] w fun e w' => e = .returned (.bool (among l z == z.len)) ∧ Below w.heap.size w w' := by
  have H := Lib.hid h; clear h
  have HLS := Lib.hid hls; have HZS := Lib.hid hzs; have HZ1 := Lib.hid hz1
  clear hls hzs hz1
  obtain ⟨A, hA⟩ : ∃ A, A = among l z := ⟨_, rfl⟩
  obtain ⟨N, hN⟩ : ∃ N, N = z.len := ⟨_, rfl⟩
  have HA := Lib.hid hA; have HN := Lib.hid hN
  clear hA hN
  unfold Sp.val
  go_enter Try.func13, Try.ntmps13
  go_wp2_with fail
  obtain ⟨w2, hw2⟩ : ∃ w2, w2 = w.alloc (.cells #[.int .i64 z.f, .int .i64 z.t] 33) := ⟨_, rfl⟩
  obtain ⟨B, hB⟩ : ∃ B, B = w.heap.size := ⟨_, rfl⟩
  have bX : Blk w2 B 33 #[.int .i64 z.f, .int .i64 z.t] := by rw [hw2, hB]; exact Blk.new w 33 _
  have hb2 : Below w.heap.size w w2 := by rw [hw2]; exact (Below.refl w.heap.size w).alloc (Nat.le_refl _) _
  rw [← hw2, ← hB]
  clear hw2 hB
  have hS0 : (fun W => IsSet W p l a c ∧ Blk W B 33 #[.int .i64 z.f, .int .i64 z.t] ∧ Below w.heap.size w W) w2.drew := ⟨(H.out.below hb2).below (Below.refl w2.heap.size w2).drew, bX.drew, hb2.drew⟩
  clear bX hb2
  refine wp_region_held_drew (S := (fun W => IsSet W p l a c ∧ Blk W B 33 #[.int .i64 z.f, .int .i64 z.t] ∧ Below w.heap.size w W)) (by kernel_rfl) hS0 ?_
  intro hS0'
  refine wpAnyH_take (i := 0) (v := .pointer (some ⟨p, 0, none⟩)) rfl (by kernel_rfl) (by kernel_rfl) (by kernel_rfl) (fun _ _ _ h => h) (Or.inl ⟨by kernel_rfl, fun w hSw => ?_⟩) hS0' ?_
  · go_simp
  try simp only [Act.put, List.getElem_toArray, List.getElem_cons_succ, List.getElem_cons_zero, List.setIfInBounds_toArray, List.set_cons_zero, List.set_cons_succ]
  refine wpAnyH_ready (rs := [1]) (by kernel_rfl) (by simp) ?_
  refine AllReadyH.cons (by rfl) ?_ AllReadyH.nil
  intro K hK
  go_simp
  refine (none_c p a l.length c _ hS0'.1.blk).mono ?_
  rintro e w4 ⟨rfl, hw4⟩
  subst hw4
  refine hK.out _ _ hS0' (fun hS1 => ?_)
  clear hK K
  refine wpAnyH_take (i := 2) (v := .bool true) rfl (by kernel_rfl) (by kernel_rfl) (by kernel_rfl) (fun _ _ _ h => h) (Or.inl ⟨by kernel_rfl, fun w hSw => ?_⟩) hS1 ?_
  · go_simp
  try simp only [Act.put, List.getElem_toArray, List.getElem_cons_succ, List.getElem_cons_zero, List.setIfInBounds_toArray, List.set_cons_zero, List.set_cons_succ]
  refine wpAnyH_take (i := 3) (v := .bool true) rfl (by kernel_rfl) (by kernel_rfl) (by kernel_rfl) (fun _ _ _ h => h) (Or.inl ⟨by kernel_rfl, fun w hSw => ?_⟩) hS1 ?_
  · go_simp
  try simp only [Act.put, List.getElem_toArray, List.getElem_cons_succ, List.getElem_cons_zero, List.setIfInBounds_toArray, List.set_cons_zero, List.set_cons_succ]
  refine wpAnyH_take (i := 4) (v := .agg #[.int .i64 z.f, .int .i64 z.t]) rfl (by kernel_rfl) (by kernel_rfl) (by kernel_rfl) (fun _ _ _ h => h) ?_ hS1 ?_
  · exact yieldsIf_load_blk (by kernel_rfl) 33 (.tmp 3) (by kernel_rfl) B (by kernel_rfl) 33 #[.int .i64 z.f, .int .i64 z.t] _ (fun _ h => h.2.1) Try.underlying33 rfl info33
  try simp only [Act.put, List.getElem_toArray, List.getElem_cons_succ, List.getElem_cons_zero, List.setIfInBounds_toArray, List.set_cons_zero, List.set_cons_succ]
  refine wpAnyH_ready (rs := [5]) (by kernel_rfl) (by simp) ?_
  refine AllReadyH.cons (by rfl) ?_ AllReadyH.nil
  intro K hK
  go_simp
  change Calls Try.prog 23 #[z.val] _ _
  refine (right_c z _).mono ?_
  rintro e w5 ⟨rfl, hb5⟩
  rw [HZ1.out]
  refine hK.out _ _ ⟨hS1.1.below hb5, hS1.2.1.below hb5 hS1.2.1.lt, hS1.2.2.trans (hb5.mono hS1.2.2.size)⟩ (fun hS2 => ?_)
  clear hK K
  refine wpAnyH_take (i := 6) (v := .bool true) rfl (by kernel_rfl) (by kernel_rfl) (by kernel_rfl) (fun _ _ _ h => h) (Or.inl ⟨by kernel_rfl, fun w hSw => ?_⟩) hS2 ?_
  · go_simp
  try simp only [Act.put, List.getElem_toArray, List.getElem_cons_succ, List.getElem_cons_zero, List.setIfInBounds_toArray, List.set_cons_zero, List.set_cons_succ]
  refine wpAnyH_take (i := 7) (v := .bool true) rfl (by kernel_rfl) (by kernel_rfl) (by kernel_rfl) (fun _ _ _ h => h) (Or.inl ⟨by kernel_rfl, fun w hSw => ?_⟩) hS2 ?_
  · go_simp
  try simp only [Act.put, List.getElem_toArray, List.getElem_cons_succ, List.getElem_cons_zero, List.setIfInBounds_toArray, List.set_cons_zero, List.set_cons_succ]
  refine wpAnyH_take (i := 8) (v := .pointer (some ⟨p, 0, none⟩)) rfl (by kernel_rfl) (by kernel_rfl) (by kernel_rfl) (fun _ _ _ h => h) (Or.inl ⟨by kernel_rfl, fun w hSw => ?_⟩) hS2 ?_
  · go_simp
  try simp only [Act.put, List.getElem_toArray, List.getElem_cons_succ, List.getElem_cons_zero, List.setIfInBounds_toArray, List.set_cons_zero, List.set_cons_succ]
  refine wpAnyH_take (i := 9) (v := .agg #[.int .i64 z.f, .int .i64 z.t]) rfl (by kernel_rfl) (by kernel_rfl) (by kernel_rfl) (fun _ _ _ h => h) ?_ hS2 ?_
  · exact yieldsIf_load_blk (by kernel_rfl) 33 (.tmp 3) (by kernel_rfl) B (by kernel_rfl) 33 #[.int .i64 z.f, .int .i64 z.t] _ (fun _ h => h.2.1) Try.underlying33 rfl info33
  try simp only [Act.put, List.getElem_toArray, List.getElem_cons_succ, List.getElem_cons_zero, List.setIfInBounds_toArray, List.set_cons_zero, List.set_cons_succ]
  refine wpAnyH_take (i := 11) (v := .agg #[.int .i64 z.f, .int .i64 z.t]) rfl (by kernel_rfl) (by kernel_rfl) (by kernel_rfl) (fun _ _ _ h => h) ?_ hS2 ?_
  · exact yieldsIf_load_blk (by kernel_rfl) 33 (.tmp 3) (by kernel_rfl) B (by kernel_rfl) 33 #[.int .i64 z.f, .int .i64 z.t] _ (fun _ h => h.2.1) Try.underlying33 rfl info33
  try simp only [Act.put, List.getElem_toArray, List.getElem_cons_succ, List.getElem_cons_zero, List.setIfInBounds_toArray, List.set_cons_zero, List.set_cons_succ]
  refine wpAnyH_ready (rs := [10]) (by kernel_rfl) (by simp) ?_
  refine AllReadyH.cons (by rfl) ?_ AllReadyH.nil
  intro K hK
  go_simp
  change Calls Try.prog 30 #[.pointer (some ⟨p, 0, none⟩), z.val] _ _
  refine (among_c p l a c z _ hS2.1 hn HLS.out HZS.out).mono ?_
  rintro e w6 ⟨rfl, hb6⟩
  rw [← HA.out]
  refine hK.out _ _ ⟨hS2.1.below hb6, hS2.2.1.below hb6 hS2.2.1.lt, hS2.2.2.trans (hb6.mono hS2.2.2.size)⟩ (fun hS3 => ?_)
  clear hK K
  refine wpAnyH_ready (rs := [12]) (by kernel_rfl) (by simp) ?_
  refine AllReadyH.cons (by rfl) ?_ AllReadyH.nil
  intro K hK
  go_simp
  change Calls Try.prog 24 #[z.val] _ _
  refine (long_c z _ HZS.out).mono ?_
  rintro e w7 ⟨rfl, hb7⟩
  rw [← HN.out]
  refine hK.out _ _ ⟨hS3.1.below hb7, hS3.2.1.below hb7 hS3.2.1.lt, hS3.2.2.trans (hb7.mono hS3.2.2.size)⟩ (fun hS4 => ?_)
  clear hK K
  refine wpAnyH_take (i := 13) (v := .bool (A == N)) rfl (by kernel_rfl) (by kernel_rfl) (by kernel_rfl) (fun _ _ _ h => h) (Or.inl ⟨by kernel_rfl, fun w hSw => ?_⟩) hS4 ?_
  · go_simp
  try simp only [Act.put, List.getElem_toArray, List.getElem_cons_succ, List.getElem_cons_zero, List.setIfInBounds_toArray, List.set_cons_zero, List.set_cons_succ]
  refine wpAnyH_take (i := 14) (v := .bool (A == N)) rfl (by kernel_rfl) (by kernel_rfl) (by kernel_rfl) (fun _ _ _ h => h) (Or.inl ⟨by kernel_rfl, fun w hSw => ?_⟩) hS4 ?_
  · go_simp
  try simp only [Act.put, List.getElem_toArray, List.getElem_cons_succ, List.getElem_cons_zero, List.setIfInBounds_toArray, List.set_cons_zero, List.set_cons_succ]
  refine wpAnyH_take (i := 15) (v := .bool (A == N)) rfl (by kernel_rfl) (by kernel_rfl) (by kernel_rfl) (fun _ _ _ h => h) (Or.inl ⟨by kernel_rfl, fun w hSw => ?_⟩) hS4 ?_
  · go_simp
  try simp only [Act.put, List.getElem_toArray, List.getElem_cons_succ, List.getElem_cons_zero, List.setIfInBounds_toArray, List.set_cons_zero, List.set_cons_succ]
  refine wpAnyH_done (by kernel_rfl) ?_ _
  go_wp2_with fail
  go_ret
  exact ⟨by rw [← HA.out, ← HN.out]; rfl, hS4.2.2⟩
end Go.Proofs.Ytlgpoaapmgcloaa
