/- Contracts: one call by both readers. -/
import Derived.Test.YtnecoapbpicloaaWu
namespace Go.Proofs.Ytnecoapbpicloaa
open Go.RowKit
set_option linter.unusedSimpArgs false
set_option linter.unusedVariables false
set_option maxRecDepth 100000

theorem blk3 (w : World) (t1 t2 t3 : TypeId) (c1 c2 c3 : Array Value) :
    Blk (((w.alloc (.cells c1 t1)).alloc (.cells c2 t2)).alloc (.cells c3 t3)) w.heap.size t1 c1 ∧
    Blk (((w.alloc (.cells c1 t1)).alloc (.cells c2 t2)).alloc (.cells c3 t3)) (w.heap.size + 1) t2 c2 ∧
    Blk (((w.alloc (.cells c1 t1)).alloc (.cells c2 t2)).alloc (.cells c3 t3)) (w.heap.size + 2) t3 c3 ∧
    Below w.heap.size w (((w.alloc (.cells c1 t1)).alloc (.cells c2 t2)).alloc (.cells c3 t3)) ∧
    (((w.alloc (.cells c1 t1)).alloc (.cells c2 t2)).alloc (.cells c3 t3)).heap.size = w.heap.size + 3 := by
  refine ⟨((Blk.new w t1 c1).alloc _).alloc _, (Blk.new2 w _ t2 c2).alloc _, ?_, ?_, by simp⟩
  · have := Blk.new2 (w.alloc (.cells c1 t1)) (.cells c2 t2) t3 c3
    simpa using this
  · exact (((Below.refl _ _).alloc (Nat.le_refl _) _).alloc (by simp) _).alloc (by simp; omega) _
theorem rd2_no (a0 : Option Addr) (n0 c0 : Nat) (x : Int) : ∀ (i : Nat) (y : Int), (#[.slice a0 n0 c0, .int .i64 x] : Array Value)[i]? ≠ some (.int .u8 y) := by
  intro i y e
  match i with
  | 0 => simp at e
  | 1 => simp at e
  | k + 2 => simp at e
theorem RV.tch {w w' : World} {v : Value} {s : RS} {S : Nat → Prop} (h : RV w v s) (ht : Tch S w w') (hS : ∀ b off n l, Bys w (some ⟨b, off, none⟩) n l → 0 < n → ¬ S b) : RV w' v s := by
  obtain ⟨a, c, rfl, h2, h3⟩ := h
  exact ⟨a, c, rfl, ht.bys h2 (fun g off e hn => hS g off _ _ (e ▸ h2) hn), h3⟩
theorem RV.only {w w' : World} {v : Value} {s s0 : RS} {p : Nat} (h : RV w v s) (hr : IsRd w p s0) (ho : Only p w w') : RV w' v s := by
  obtain ⟨A, C, k1, _, _⟩ := hr
  exact h.tch ho.tch (fun b off n l hb hn => rd_apart k1 hb b off rfl hn)
theorem RV.far6 {w w' : World} {v : Value} {s : RS} {g : Nat} {t : TypeId} {a0 : Option Addr} {n0 c0 : Nat} {x : Int} (h : RV w v s) (hb : Blk w g t #[.slice a0 n0 c0, .int .i64 x]) (ht : Tch (fun i => i = g) w w') : RV w' v s :=
  h.tch ht (fun b off n l hy hn => far_cells hb (rd2_no _ _ _ _) hy b off rfl hn)
theorem IsRd.far6 {w w' : World} {p : Nat} {s : RS} {g : Nat} {t : TypeId} {a0 : Option Addr} {n0 c0 : Nat} {x : Int} (h : IsRd w p s) (hb : Blk w g t #[.slice a0 n0 c0, .int .i64 x]) (ht : Tch (fun i => i = g) w w') (hp : p ≠ g) : IsRd w' p s := by
  obtain ⟨a, c, h1, h2, h3⟩ := h
  exact ⟨a, c, ht.blk h1 hp, ht.bys h2 (far_cells hb (rd2_no _ _ _ _) h2), h3⟩
theorem rnum_le (s : RS) (most : Int) : (rnum s most).1.l.length ≤ s.l.length := by
  unfold rnum RS.fail
  repeat' split
  all_goals simp
theorem rtext_le (s : RS) (most : Int) : (rtext s most).1.l.length ≤ s.l.length := by
  have := rnum_le s most
  unfold rtext RS.fail
  repeat' split
  · exact this
  · simp
  · simp; omega
theorem rtruth_le (s : RS) : (rtruth s).1.l.length ≤ s.l.length := by
  unfold rtruth RS.fail
  repeat' split
  all_goals simp_all
theorem rend_le (s : RS) : (rend s).1.l.length ≤ s.l.length := by
  unfold rend RS.fail
  repeat' split
  all_goals simp
theorem Tch.drew {S : Nat → Prop} {w w' : World} (h : Tch S w w') : Tch S w w'.drew := ⟨h.os, h.tape, h.output, h.size, h.block⟩
def AskRes (w : World) (p : Nat) (s : RS) (e : Ending) (w' : World) : Prop :=
  ∃ v s', e = .returned (.tuple #[v, .bool true]) ∧ RV w' v s' ∧ IsRd w' p s' ∧ s'.l.length ≤ s.l.length ∧ Only p w w'

set_option maxHeartbeats 4000000 in
theorem ask_0 (p : Nat) (v : Value) (s : RS) (x0 x1 : Int) (w : World) (h : IsRd w p s) (hv : RV w v s) (hl : s.l.length ≤ 1000000000) (hx : x0 = 0) :
    Calls Try.prog 25 #[.pointer (some ⟨p, 0, none⟩), v, .agg #[.int .i64 x0, .int .i64 x1]] w (AskRes w p s) := by
  obtain ⟨a, c, rfl, h2, h3⟩ := hv
  have HV : Hid (RV w (.agg #[.slice a s.l.length c, .int .i64 s.e]) s) := Lib.hid ⟨a, c, rfl, h2, h3⟩
  have H := Lib.hid h; have HL := Lib.hid hl
  have hpl := h.lt
  obtain ⟨m, hm⟩ : ∃ m, m = s.l.length := ⟨_, rfl⟩
  obtain ⟨e0, he0⟩ : ∃ e0, e0 = s.e := ⟨_, rfl⟩
  rw [← hm, ← he0] at HV ⊢
  have HB3 := Lib.hid (blk3 w 40 56 40 #[.slice a m c, .int .i64 e0] #[.int .i64 x0, .int .i64 x1] #[.slice none 0 0, .int .i64 0])
  obtain ⟨ya, hya⟩ : ∃ ya, (if (1000000 : Int) < x1 then (1000000 : Int) else x1) = ya := ⟨_, rfl⟩
  obtain ⟨yb, hyb⟩ : ∃ yb, (if (-5 : Int) < ya then ya else -5) = yb := ⟨_, rfl⟩
  clear h2 h3 he0 h hl
  have q0 : (x0 == 0) = true := by simp [hx]
  clear hm hx
  obtain ⟨s1, hs1⟩ : ∃ s1, s1 = (rnum s x1).1 := ⟨_, rfl⟩
  obtain ⟨n, hn⟩ : ∃ n, n = (rnum s x1).2.1 := ⟨_, rfl⟩
  obtain ⟨no, hno⟩ : ∃ no, no = (rnum s x1).2.2 := ⟨_, rfl⟩
  have HLE : Hid (s1.l.length ≤ s.l.length) := Lib.hid (by rw [hs1]; exact rnum_le s x1)
  have HS1 := Lib.hid hs1; have HN := Lib.hid hn; have HNO := Lib.hid hno
  clear hs1 hn hno
  go_enter Try.func25, Try.ntmps25
  go_wp2_with fail
  generalize (World.alloc _ _) = W0 at HB3 ⊢
  obtain ⟨b1, b2, b3, b5, b6⟩ := HB3.out
  refine (rr_number _ s x1 _ (HV.out.below b5) HL.out).mono ?_
  rintro e w1 ⟨⟨v1, rfl, hrv⟩, hb⟩
  rw [← HN.out, ← HNO.out]
  rw [← HS1.out] at hrv
  have HRV1 := Lib.hid hrv
  obtain ⟨a1, c1, rfl, y2, y3⟩ := hrv
  obtain ⟨m1, hm1⟩ : ∃ m1, m1 = s1.l.length := ⟨_, rfl⟩
  obtain ⟨e1, he1⟩ : ∃ e1, e1 = s1.e := ⟨_, rfl⟩
  rw [← hm1] at HRV1 ⊢
  rw [← he1] at HRV1 ⊢
  have HB1 := Lib.hid (b5.trans (hb.mono (by omega)))
  have B5 := Lib.hid (b2.below hb b2.lt)
  have B6 := Lib.hid (b3.below hb b3.lt)
  have u0 : w1.cell? ⟨w.heap.size + 1, 0, none⟩ = some (.int .i64 x0) := B5.out.cell (i := 0) rfl
  have u1 : w1.cell? ⟨w.heap.size + 1, 1, none⟩ = some (.int .i64 x1) := B5.out.cell (i := 1) rfl
  have hz1 : w.heap.size + 3 ≤ w1.heap.size := by have := hb.size; omega
  have v0 := fun o => cell_al u0 o
  have v1 := fun o => cell_al u1 o
  have n9 : w.heap.size + 1 ≠ w1.heap.size := by omega
  clear hm1 he1 y2 y3 b1 b2 b3 b5 b6 hb HB3
  go_wp2_with fail
  generalize hw2 : (World.alloc _ _) = w2
  have hz2 : w1.heap.size < w2.heap.size := by rw [← hw2]; simp
  have B9 : Hid (Blk w2 w1.heap.size 40 #[.slice a1 m1 c1, .int .i64 e1]) := Lib.hid (by rw [← hw2]; exact Blk.new _ _ _)
  have HBw := (Below.refl w1.heap.size w1).alloc (Nat.le_refl _) (.cells #[.slice a1 m1 c1, .int .i64 e1] 40)
  rw [hw2] at HBw
  clear hw2
  have H2 := Lib.hid (H.out.below (HB1.out.trans (HBw.mono (by omega))))
  have HRV2 := Lib.hid (HRV1.out.below HBw)
  have B62 := Lib.hid (B6.out.below HBw B6.out.lt)
  have HB2 := Lib.hid (HB1.out.trans (HBw.mono (by omega)))
  clear HBw HRV1 HB1 B5 B6 H HV u0 u1 v0 v1 n9
  refine (rd_number p s x1 _ H2.out HL.out).mono ?_
  rintro e w3 ⟨rfl, hrd, ho⟩
  rw [← HN.out, ← HNO.out]
  rw [← HS1.out] at hrd
  have HRD3 := Lib.hid hrd
  have HO3 := Lib.hid ((Only.of_below HB2.out p).trans ho)
  have HRV3 := Lib.hid (HRV2.out.only H2.out ho)
  have B9 := Lib.hid (ho.blk B9.out (by omega))
  have B6 := Lib.hid (ho.blk B62.out (by omega))
  clear hrd ho HRV2 H2 B62 HB2
  go_wp2_with fail
  have d0 : w3.cell? ⟨w.heap.size + 2, 0, none⟩ = some (.slice none 0 0) := B6.out.cell (i := 0) rfl
  have d1 : w3.cell? ⟨w.heap.size + 2, 1, none⟩ = some (.int .i64 0) := B6.out.cell (i := 1) rfl
  have g0 := B6.out.frozen 0
  have g1 := B6.out.frozen 1
  have hkeep : (fun W => W.cell? ⟨w1.heap.size, 0, none⟩ = some (.slice a1 m1 c1) ∧ W.cell? ⟨w1.heap.size, 1, none⟩ = some (.int .i64 e1)) ((w3.setCell ⟨w.heap.size + 2, 0, none⟩ (.slice a1 m1 c1)).setCell ⟨w.heap.size + 2, 1, none⟩ (.int .i64 e1)).drew := by
    have q := ((B9.out.far (p := ⟨w.heap.size + 2, 0, none⟩) (by simp; omega) (.slice a1 m1 c1)).far (p := ⟨w.heap.size + 2, 1, none⟩) (by simp; omega) (.int .i64 e1)).drew
    exact ⟨q.cell (i := 0) rfl, q.cell (i := 1) rfl⟩
  have hkeep1 := ((Tch.refl (fun i => i = w.heap.size + 2) w3).setCell (p := ⟨w.heap.size + 2, 0, none⟩) (.inl rfl) (.slice a1 m1 c1)).setCell (p := ⟨w.heap.size + 2, 1, none⟩) (.inl rfl) (.int .i64 e1)
  have hkeep2 : IsRd ((w3.setCell ⟨w.heap.size + 2, 0, none⟩ (.slice a1 m1 c1)).setCell ⟨w.heap.size + 2, 1, none⟩ (.int .i64 e1)).drew p s1 := IsRd.far6 HRD3.out B6.out hkeep1.drew (by omega)
  have hkeep3 : RV ((w3.setCell ⟨w.heap.size + 2, 0, none⟩ (.slice a1 m1 c1)).setCell ⟨w.heap.size + 2, 1, none⟩ (.int .i64 e1)).drew (.agg #[.slice a1 m1 c1, .int .i64 e1]) s1 := RV.far6 HRV3.out B6.out hkeep1.drew
  have z0 : w3.cell? ⟨w1.heap.size, 0, none⟩ = some (.slice a1 m1 c1) := B9.out.cell (i := 0) rfl
  have z1 : w3.cell? ⟨w1.heap.size, 1, none⟩ = some (.int .i64 e1) := B9.out.cell (i := 1) rfl
  have hS0 : (fun W => W.cell? ⟨w1.heap.size, 0, none⟩ = some (.slice a1 m1 c1) ∧ W.cell? ⟨w1.heap.size, 1, none⟩ = some (.int .i64 e1)) w3 := ⟨z0, z1⟩
  clear hkeep1 z0 z1
  refine wp_region_held_drew (S := (fun W => W.cell? ⟨w1.heap.size, 0, none⟩ = some (.slice a1 m1 c1) ∧ W.cell? ⟨w1.heap.size, 1, none⟩ = some (.int .i64 e1))) (by kernel_rfl) hS0 ?_
  intro hS0'
  refine wpAnyH_take (i := 0) (v := .agg #[.slice a1 m1 c1, .int .i64 e1]) rfl (by kernel_rfl) (by kernel_rfl) (by kernel_rfl) (fun _ _ _ h => h) (Or.inl ⟨by kernel_rfl, fun w hSw => ?_⟩) hS0' ?_
  · obtain ⟨s1, s2⟩ := hSw
    go_simp
  try simp only [Act.put, List.getElem_toArray, List.getElem_cons_succ, List.getElem_cons_zero, List.setIfInBounds_toArray, List.set_cons_zero, List.set_cons_succ]
  refine wpAnyH_take (i := 1) (v := .int .i64 (n : Int)) rfl (by kernel_rfl) (by kernel_rfl) (by kernel_rfl) (fun _ _ _ h => h) (Or.inl ⟨by kernel_rfl, fun w hSw => ?_⟩) hS0' ?_
  · go_simp
  try simp only [Act.put, List.getElem_toArray, List.getElem_cons_succ, List.getElem_cons_zero, List.setIfInBounds_toArray, List.set_cons_zero, List.set_cons_succ]
  refine wpAnyH_take (i := 2) (v := .int .i64 (n : Int)) rfl (by kernel_rfl) (by kernel_rfl) (by kernel_rfl) (fun _ _ _ h => h) (Or.inl ⟨by kernel_rfl, fun w hSw => ?_⟩) hS0' ?_
  · go_simp
  try simp only [Act.put, List.getElem_toArray, List.getElem_cons_succ, List.getElem_cons_zero, List.setIfInBounds_toArray, List.set_cons_zero, List.set_cons_succ]
  refine wpAnyH_take (i := 3) (v := .bool true) rfl (by kernel_rfl) (by kernel_rfl) (by kernel_rfl) (fun _ _ _ h => h) (Or.inl ⟨by kernel_rfl, fun w hSw => ?_⟩) hS0' ?_
  · go_simp
  try simp only [Act.put, List.getElem_toArray, List.getElem_cons_succ, List.getElem_cons_zero, List.setIfInBounds_toArray, List.set_cons_zero, List.set_cons_succ]
  refine wpAnyH_take (i := 4) (v := .bool true) rfl (by kernel_rfl) (by kernel_rfl) (by kernel_rfl) (fun _ _ _ h => h) (Or.inl ⟨by kernel_rfl, fun w hSw => ?_⟩) hS0' ?_
  · go_simp
  try simp only [Act.put, List.getElem_toArray, List.getElem_cons_succ, List.getElem_cons_zero, List.setIfInBounds_toArray, List.set_cons_zero, List.set_cons_succ]
  refine wpAnyH_take (i := 5) (v := .int .i64 no) rfl (by kernel_rfl) (by kernel_rfl) (by kernel_rfl) (fun _ _ _ h => h) (Or.inl ⟨by kernel_rfl, fun w hSw => ?_⟩) hS0' ?_
  · go_simp
  try simp only [Act.put, List.getElem_toArray, List.getElem_cons_succ, List.getElem_cons_zero, List.setIfInBounds_toArray, List.set_cons_zero, List.set_cons_succ]
  refine wpAnyH_take (i := 7) (v := .int .i64 no) rfl (by kernel_rfl) (by kernel_rfl) (by kernel_rfl) (fun _ _ _ h => h) (Or.inl ⟨by kernel_rfl, fun w hSw => ?_⟩) hS0' ?_
  · go_simp
  try simp only [Act.put, List.getElem_toArray, List.getElem_cons_succ, List.getElem_cons_zero, List.setIfInBounds_toArray, List.set_cons_zero, List.set_cons_succ]
  refine wpAnyH_ready (rs := [6]) (by kernel_rfl) (by simp) ?_
  refine AllReadyH.cons (by rfl) ?_ AllReadyH.nil
  intro K hK
  go_simp
  refine (num_c _ _).mono ?_
  rintro e w' ⟨rfl, rfl⟩
  refine hK.out _ _ hS0' (fun hS1 => ?_)
  clear hK K
  refine wpAnyH_take (i := 8) (v := .bool true) rfl (by kernel_rfl) (by kernel_rfl) (by kernel_rfl) (fun _ _ _ h => h) (Or.inl ⟨by kernel_rfl, fun w hSw => ?_⟩) hS1 ?_
  · go_simp
  try simp only [Act.put, List.getElem_toArray, List.getElem_cons_succ, List.getElem_cons_zero, List.setIfInBounds_toArray, List.set_cons_zero, List.set_cons_succ]
  refine wpAnyH_take (i := 9) (v := .bool true) rfl (by kernel_rfl) (by kernel_rfl) (by kernel_rfl) (fun _ _ _ h => h) (Or.inl ⟨by kernel_rfl, fun w hSw => ?_⟩) hS1 ?_
  · go_simp
  try simp only [Act.put, List.getElem_toArray, List.getElem_cons_succ, List.getElem_cons_zero, List.setIfInBounds_toArray, List.set_cons_zero, List.set_cons_succ]
  refine wpAnyH_ready (rs := [10]) (by kernel_rfl) (by simp) ?_
  refine AllReadyH.cons (by rfl) ?_ AllReadyH.nil
  intro K hK
  go_simp
  have k6 := ((B6.out.set 0 (.slice a1 m1 c1)).set 1 (.int .i64 e1)).drew
  have HOO := Lib.hid (((HO3.out.setCell (p := ⟨w.heap.size + 2, 0, none⟩) (.inr (by simp)) (.slice a1 m1 c1)).setCell (p := ⟨w.heap.size + 2, 1, none⟩) (.inr (by simp)) (.int .i64 e1)).drew)
  have HRD := Lib.hid (hkeep2)
  have HRV := Lib.hid (hkeep3)
  have hSS := hkeep
  generalize (World.drew _) = w6 at k6 HOO HRD HRV hSS ⊢
  refine hK.out _ _ hSS (fun hS2 => ?_)
  clear hK K
  refine wpAnyH_ready (rs := [11]) (by kernel_rfl) (by simp) ?_
  refine AllReadyH.cons (by rfl) ?_ AllReadyH.nil
  intro K hK
  go_simp
  refine hK.out _ _ hS2 (fun hS3 => ?_)
  clear hK K
  refine wpAnyH_done (by kernel_rfl) ?_ _
  go_wp2_with fail
  have c5 : w6.cell? ⟨w.heap.size + 2, 0, none⟩ = some (.slice a1 m1 c1) := k6.cell (i := 0) rfl
  have c6 : w6.cell? ⟨w.heap.size + 2, 1, none⟩ = some (.int .i64 e1) := k6.cell (i := 1) rfl
  refine bodyPost_ret (v := .tuple #[.agg #[.slice a1 m1 c1, .int .i64 e1], .bool true]) (by simp [results, Try.results25, go_sem, c5, c6]) rfl ?_
  exact ⟨_, _, rfl, HRV.out, HRD.out, HLE.out, HOO.out⟩

set_option maxHeartbeats 4000000 in
theorem ask_1 (p : Nat) (v : Value) (s : RS) (x0 x1 : Int) (w : World) (h : IsRd w p s) (hv : RV w v s) (hl : s.l.length ≤ 1000000000) (hx : x0 = 1) :
    Calls Try.prog 25 #[.pointer (some ⟨p, 0, none⟩), v, .agg #[.int .i64 x0, .int .i64 x1]] w (AskRes w p s) := by
  obtain ⟨a, c, rfl, h2, h3⟩ := hv
  have HV : Hid (RV w (.agg #[.slice a s.l.length c, .int .i64 s.e]) s) := Lib.hid ⟨a, c, rfl, h2, h3⟩
  have H := Lib.hid h; have HL := Lib.hid hl
  have hpl := h.lt
  obtain ⟨m, hm⟩ : ∃ m, m = s.l.length := ⟨_, rfl⟩
  obtain ⟨e0, he0⟩ : ∃ e0, e0 = s.e := ⟨_, rfl⟩
  rw [← hm, ← he0] at HV ⊢
  have HB3 := Lib.hid (blk3 w 40 56 40 #[.slice a m c, .int .i64 e0] #[.int .i64 x0, .int .i64 x1] #[.slice none 0 0, .int .i64 0])
  obtain ⟨ya, hya⟩ : ∃ ya, (if (1000000 : Int) < x1 then (1000000 : Int) else x1) = ya := ⟨_, rfl⟩
  obtain ⟨yb, hyb⟩ : ∃ yb, (if (-5 : Int) < ya then ya else -5) = yb := ⟨_, rfl⟩
  clear h2 h3 he0 h hl
  have q0 : (x0 == 0) = false := by simp [hx]
  have q1 : (x0 == 1) = true := by simp [hx]
  clear hm hx
  obtain ⟨s1, hs1⟩ : ∃ s1, s1 = (rtext s yb).1 := ⟨_, rfl⟩
  obtain ⟨n, hn⟩ : ∃ n, n = (rtext s yb).2.1 := ⟨_, rfl⟩
  obtain ⟨no, hno⟩ : ∃ no, no = (rtext s yb).2.2 := ⟨_, rfl⟩
  have HLE : Hid (s1.l.length ≤ s.l.length) := Lib.hid (by rw [hs1]; exact rtext_le s yb)
  have HS1 := Lib.hid hs1; have HN := Lib.hid hn; have HNO := Lib.hid hno
  clear hs1 hn hno
  go_enter Try.func25, Try.ntmps25
  go_wp2_with fail
  generalize (World.alloc _ _) = W0 at HB3 ⊢
  obtain ⟨b1, b2, b3, b5, b6⟩ := HB3.out
  refine (rr_text _ s yb _ (HV.out.below b5) HL.out).mono ?_
  rintro e w1 ⟨⟨v1, rfl, hrv⟩, hb⟩
  rw [← HN.out, ← HNO.out]
  rw [← HS1.out] at hrv
  have HRV1 := Lib.hid hrv
  obtain ⟨a1, c1, rfl, y2, y3⟩ := hrv
  obtain ⟨m1, hm1⟩ : ∃ m1, m1 = s1.l.length := ⟨_, rfl⟩
  obtain ⟨e1, he1⟩ : ∃ e1, e1 = s1.e := ⟨_, rfl⟩
  rw [← hm1] at HRV1 ⊢
  rw [← he1] at HRV1 ⊢
  have HB1 := Lib.hid (b5.trans (hb.mono (by omega)))
  have B5 := Lib.hid (b2.below hb b2.lt)
  have B6 := Lib.hid (b3.below hb b3.lt)
  have u0 : w1.cell? ⟨w.heap.size + 1, 0, none⟩ = some (.int .i64 x0) := B5.out.cell (i := 0) rfl
  have u1 : w1.cell? ⟨w.heap.size + 1, 1, none⟩ = some (.int .i64 x1) := B5.out.cell (i := 1) rfl
  have hz1 : w.heap.size + 3 ≤ w1.heap.size := by have := hb.size; omega
  have v0 := fun o => cell_al u0 o
  have v1 := fun o => cell_al u1 o
  have n9 : w.heap.size + 1 ≠ w1.heap.size := by omega
  clear hm1 he1 y2 y3 b1 b2 b3 b5 b6 hb HB3
  go_wp2_with fail
  generalize hw2 : (World.alloc _ _) = w2
  have hz2 : w1.heap.size < w2.heap.size := by rw [← hw2]; simp
  have B9 : Hid (Blk w2 w1.heap.size 40 #[.slice a1 m1 c1, .int .i64 e1]) := Lib.hid (by rw [← hw2]; exact Blk.new _ _ _)
  have HBw := (Below.refl w1.heap.size w1).alloc (Nat.le_refl _) (.cells #[.slice a1 m1 c1, .int .i64 e1] 40)
  rw [hw2] at HBw
  clear hw2
  have H2 := Lib.hid (H.out.below (HB1.out.trans (HBw.mono (by omega))))
  have HRV2 := Lib.hid (HRV1.out.below HBw)
  have B62 := Lib.hid (B6.out.below HBw B6.out.lt)
  have HB2 := Lib.hid (HB1.out.trans (HBw.mono (by omega)))
  clear HBw HRV1 HB1 B5 B6 H HV u0 u1 v0 v1 n9
  refine (rd_text p s yb _ H2.out HL.out).mono ?_
  rintro e w3 ⟨rfl, hrd, ho⟩
  rw [← HN.out, ← HNO.out]
  rw [← HS1.out] at hrd
  have HRD3 := Lib.hid hrd
  have HO3 := Lib.hid ((Only.of_below HB2.out p).trans ho)
  have HRV3 := Lib.hid (HRV2.out.only H2.out ho)
  have B9 := Lib.hid (ho.blk B9.out (by omega))
  have B6 := Lib.hid (ho.blk B62.out (by omega))
  clear hrd ho HRV2 H2 B62 HB2
  go_wp2_with fail
  have d0 : w3.cell? ⟨w.heap.size + 2, 0, none⟩ = some (.slice none 0 0) := B6.out.cell (i := 0) rfl
  have d1 : w3.cell? ⟨w.heap.size + 2, 1, none⟩ = some (.int .i64 0) := B6.out.cell (i := 1) rfl
  have g0 := B6.out.frozen 0
  have g1 := B6.out.frozen 1
  have hkeep : (fun W => W.cell? ⟨w1.heap.size, 0, none⟩ = some (.slice a1 m1 c1) ∧ W.cell? ⟨w1.heap.size, 1, none⟩ = some (.int .i64 e1)) ((w3.setCell ⟨w.heap.size + 2, 0, none⟩ (.slice a1 m1 c1)).setCell ⟨w.heap.size + 2, 1, none⟩ (.int .i64 e1)).drew := by
    have q := ((B9.out.far (p := ⟨w.heap.size + 2, 0, none⟩) (by simp; omega) (.slice a1 m1 c1)).far (p := ⟨w.heap.size + 2, 1, none⟩) (by simp; omega) (.int .i64 e1)).drew
    exact ⟨q.cell (i := 0) rfl, q.cell (i := 1) rfl⟩
  have hkeep1 := ((Tch.refl (fun i => i = w.heap.size + 2) w3).setCell (p := ⟨w.heap.size + 2, 0, none⟩) (.inl rfl) (.slice a1 m1 c1)).setCell (p := ⟨w.heap.size + 2, 1, none⟩) (.inl rfl) (.int .i64 e1)
  have hkeep2 : IsRd ((w3.setCell ⟨w.heap.size + 2, 0, none⟩ (.slice a1 m1 c1)).setCell ⟨w.heap.size + 2, 1, none⟩ (.int .i64 e1)).drew p s1 := IsRd.far6 HRD3.out B6.out hkeep1.drew (by omega)
  have hkeep3 : RV ((w3.setCell ⟨w.heap.size + 2, 0, none⟩ (.slice a1 m1 c1)).setCell ⟨w.heap.size + 2, 1, none⟩ (.int .i64 e1)).drew (.agg #[.slice a1 m1 c1, .int .i64 e1]) s1 := RV.far6 HRV3.out B6.out hkeep1.drew
  have z0 : w3.cell? ⟨w1.heap.size, 0, none⟩ = some (.slice a1 m1 c1) := B9.out.cell (i := 0) rfl
  have z1 : w3.cell? ⟨w1.heap.size, 1, none⟩ = some (.int .i64 e1) := B9.out.cell (i := 1) rfl
  have hS0 : (fun W => W.cell? ⟨w1.heap.size, 0, none⟩ = some (.slice a1 m1 c1) ∧ W.cell? ⟨w1.heap.size, 1, none⟩ = some (.int .i64 e1)) w3 := ⟨z0, z1⟩
  clear hkeep1 z0 z1
  refine wp_region_held_drew (S := (fun W => W.cell? ⟨w1.heap.size, 0, none⟩ = some (.slice a1 m1 c1) ∧ W.cell? ⟨w1.heap.size, 1, none⟩ = some (.int .i64 e1))) (by kernel_rfl) hS0 ?_
  intro hS0'
  refine wpAnyH_take (i := 0) (v := .agg #[.slice a1 m1 c1, .int .i64 e1]) rfl (by kernel_rfl) (by kernel_rfl) (by kernel_rfl) (fun _ _ _ h => h) (Or.inl ⟨by kernel_rfl, fun w hSw => ?_⟩) hS0' ?_
  · obtain ⟨s1, s2⟩ := hSw
    go_simp
  try simp only [Act.put, List.getElem_toArray, List.getElem_cons_succ, List.getElem_cons_zero, List.setIfInBounds_toArray, List.set_cons_zero, List.set_cons_succ]
  refine wpAnyH_take (i := 1) (v := .string (strOf n)) rfl (by kernel_rfl) (by kernel_rfl) (by kernel_rfl) (fun _ _ _ h => h) (Or.inl ⟨by kernel_rfl, fun w hSw => ?_⟩) hS0' ?_
  · go_simp
  try simp only [Act.put, List.getElem_toArray, List.getElem_cons_succ, List.getElem_cons_zero, List.setIfInBounds_toArray, List.set_cons_zero, List.set_cons_succ]
  refine wpAnyH_take (i := 2) (v := .string (strOf n)) rfl (by kernel_rfl) (by kernel_rfl) (by kernel_rfl) (fun _ _ _ h => h) (Or.inl ⟨by kernel_rfl, fun w hSw => ?_⟩) hS0' ?_
  · go_simp
  try simp only [Act.put, List.getElem_toArray, List.getElem_cons_succ, List.getElem_cons_zero, List.setIfInBounds_toArray, List.set_cons_zero, List.set_cons_succ]
  refine wpAnyH_take (i := 3) (v := .bool true) rfl (by kernel_rfl) (by kernel_rfl) (by kernel_rfl) (fun _ _ _ h => h) (Or.inl ⟨by kernel_rfl, fun w hSw => ?_⟩) hS0' ?_
  · go_simp
  try simp only [Act.put, List.getElem_toArray, List.getElem_cons_succ, List.getElem_cons_zero, List.setIfInBounds_toArray, List.set_cons_zero, List.set_cons_succ]
  refine wpAnyH_take (i := 4) (v := .bool true) rfl (by kernel_rfl) (by kernel_rfl) (by kernel_rfl) (fun _ _ _ h => h) (Or.inl ⟨by kernel_rfl, fun w hSw => ?_⟩) hS0' ?_
  · go_simp
  try simp only [Act.put, List.getElem_toArray, List.getElem_cons_succ, List.getElem_cons_zero, List.setIfInBounds_toArray, List.set_cons_zero, List.set_cons_succ]
  refine wpAnyH_take (i := 5) (v := .int .i64 no) rfl (by kernel_rfl) (by kernel_rfl) (by kernel_rfl) (fun _ _ _ h => h) (Or.inl ⟨by kernel_rfl, fun w hSw => ?_⟩) hS0' ?_
  · go_simp
  try simp only [Act.put, List.getElem_toArray, List.getElem_cons_succ, List.getElem_cons_zero, List.setIfInBounds_toArray, List.set_cons_zero, List.set_cons_succ]
  refine wpAnyH_take (i := 7) (v := .int .i64 no) rfl (by kernel_rfl) (by kernel_rfl) (by kernel_rfl) (fun _ _ _ h => h) (Or.inl ⟨by kernel_rfl, fun w hSw => ?_⟩) hS0' ?_
  · go_simp
  try simp only [Act.put, List.getElem_toArray, List.getElem_cons_succ, List.getElem_cons_zero, List.setIfInBounds_toArray, List.set_cons_zero, List.set_cons_succ]
  refine wpAnyH_ready (rs := [6]) (by kernel_rfl) (by simp) ?_
  refine AllReadyH.cons (by rfl) ?_ AllReadyH.nil
  intro K hK
  go_simp
  refine (num_c _ _).mono ?_
  rintro e w' ⟨rfl, rfl⟩
  refine hK.out _ _ hS0' (fun hS1 => ?_)
  clear hK K
  refine wpAnyH_take (i := 8) (v := .bool true) rfl (by kernel_rfl) (by kernel_rfl) (by kernel_rfl) (fun _ _ _ h => h) (Or.inl ⟨by kernel_rfl, fun w hSw => ?_⟩) hS1 ?_
  · go_simp
  try simp only [Act.put, List.getElem_toArray, List.getElem_cons_succ, List.getElem_cons_zero, List.setIfInBounds_toArray, List.set_cons_zero, List.set_cons_succ]
  refine wpAnyH_take (i := 9) (v := .bool true) rfl (by kernel_rfl) (by kernel_rfl) (by kernel_rfl) (fun _ _ _ h => h) (Or.inl ⟨by kernel_rfl, fun w hSw => ?_⟩) hS1 ?_
  · go_simp
  try simp only [Act.put, List.getElem_toArray, List.getElem_cons_succ, List.getElem_cons_zero, List.setIfInBounds_toArray, List.set_cons_zero, List.set_cons_succ]
  refine wpAnyH_ready (rs := [10]) (by kernel_rfl) (by simp) ?_
  refine AllReadyH.cons (by rfl) ?_ AllReadyH.nil
  intro K hK
  go_simp
  have k6 := ((B6.out.set 0 (.slice a1 m1 c1)).set 1 (.int .i64 e1)).drew
  have HOO := Lib.hid (((HO3.out.setCell (p := ⟨w.heap.size + 2, 0, none⟩) (.inr (by simp)) (.slice a1 m1 c1)).setCell (p := ⟨w.heap.size + 2, 1, none⟩) (.inr (by simp)) (.int .i64 e1)).drew)
  have HRD := Lib.hid (hkeep2)
  have HRV := Lib.hid (hkeep3)
  have hSS := hkeep
  generalize (World.drew _) = w6 at k6 HOO HRD HRV hSS ⊢
  refine hK.out _ _ hSS (fun hS2 => ?_)
  clear hK K
  refine wpAnyH_ready (rs := [11]) (by kernel_rfl) (by simp) ?_
  refine AllReadyH.cons (by rfl) ?_ AllReadyH.nil
  intro K hK
  go_simp
  refine hK.out _ _ hS2 (fun hS3 => ?_)
  clear hK K
  refine wpAnyH_done (by kernel_rfl) ?_ _
  go_wp2_with fail
  have c5 : w6.cell? ⟨w.heap.size + 2, 0, none⟩ = some (.slice a1 m1 c1) := k6.cell (i := 0) rfl
  have c6 : w6.cell? ⟨w.heap.size + 2, 1, none⟩ = some (.int .i64 e1) := k6.cell (i := 1) rfl
  refine bodyPost_ret (v := .tuple #[.agg #[.slice a1 m1 c1, .int .i64 e1], .bool true]) (by simp [results, Try.results25, go_sem, c5, c6]) rfl ?_
  exact ⟨_, _, rfl, HRV.out, HRD.out, HLE.out, HOO.out⟩

set_option maxHeartbeats 4000000 in
theorem ask_2 (p : Nat) (v : Value) (s : RS) (x0 x1 : Int) (w : World) (h : IsRd w p s) (hv : RV w v s) (hl : s.l.length ≤ 1000000000) (hx : x0 = 2) :
    Calls Try.prog 25 #[.pointer (some ⟨p, 0, none⟩), v, .agg #[.int .i64 x0, .int .i64 x1]] w (AskRes w p s) := by
  obtain ⟨a, c, rfl, h2, h3⟩ := hv
  have HV : Hid (RV w (.agg #[.slice a s.l.length c, .int .i64 s.e]) s) := Lib.hid ⟨a, c, rfl, h2, h3⟩
  have H := Lib.hid h; have HL := Lib.hid hl
  have hpl := h.lt
  obtain ⟨m, hm⟩ : ∃ m, m = s.l.length := ⟨_, rfl⟩
  obtain ⟨e0, he0⟩ : ∃ e0, e0 = s.e := ⟨_, rfl⟩
  rw [← hm, ← he0] at HV ⊢
  have HB3 := Lib.hid (blk3 w 40 56 40 #[.slice a m c, .int .i64 e0] #[.int .i64 x0, .int .i64 x1] #[.slice none 0 0, .int .i64 0])
  obtain ⟨ya, hya⟩ : ∃ ya, (if (1000000 : Int) < x1 then (1000000 : Int) else x1) = ya := ⟨_, rfl⟩
  obtain ⟨yb, hyb⟩ : ∃ yb, (if (-5 : Int) < ya then ya else -5) = yb := ⟨_, rfl⟩
  clear h2 h3 he0 h hl
  have q0 : (x0 == 0) = false := by simp [hx]
  have q1 : (x0 == 1) = false := by simp [hx]
  have q2 : (x0 == 2) = true := by simp [hx]
  clear hm hx
  obtain ⟨s1, hs1⟩ : ∃ s1, s1 = (rtruth s).1 := ⟨_, rfl⟩
  obtain ⟨n, hn⟩ : ∃ n, n = (rtruth s).2.1 := ⟨_, rfl⟩
  obtain ⟨no, hno⟩ : ∃ no, no = (rtruth s).2.2 := ⟨_, rfl⟩
  have HLE : Hid (s1.l.length ≤ s.l.length) := Lib.hid (by rw [hs1]; exact rtruth_le s)
  have HS1 := Lib.hid hs1; have HN := Lib.hid hn; have HNO := Lib.hid hno
  clear hs1 hn hno
  go_enter Try.func25, Try.ntmps25
  go_wp2_with fail
  generalize (World.alloc _ _) = W0 at HB3 ⊢
  obtain ⟨b1, b2, b3, b5, b6⟩ := HB3.out
  refine (rr_truth _ s _ (HV.out.below b5)).mono ?_
  rintro e w1 ⟨⟨v1, rfl, hrv⟩, hb⟩
  rw [← HN.out, ← HNO.out]
  rw [← HS1.out] at hrv
  have HRV1 := Lib.hid hrv
  obtain ⟨a1, c1, rfl, y2, y3⟩ := hrv
  obtain ⟨m1, hm1⟩ : ∃ m1, m1 = s1.l.length := ⟨_, rfl⟩
  obtain ⟨e1, he1⟩ : ∃ e1, e1 = s1.e := ⟨_, rfl⟩
  rw [← hm1] at HRV1 ⊢
  rw [← he1] at HRV1 ⊢
  have HB1 := Lib.hid (b5.trans (hb.mono (by omega)))
  have B5 := Lib.hid (b2.below hb b2.lt)
  have B6 := Lib.hid (b3.below hb b3.lt)
  have u0 : w1.cell? ⟨w.heap.size + 1, 0, none⟩ = some (.int .i64 x0) := B5.out.cell (i := 0) rfl
  have u1 : w1.cell? ⟨w.heap.size + 1, 1, none⟩ = some (.int .i64 x1) := B5.out.cell (i := 1) rfl
  have hz1 : w.heap.size + 3 ≤ w1.heap.size := by have := hb.size; omega
  have v0 := fun o => cell_al u0 o
  have v1 := fun o => cell_al u1 o
  have n9 : w.heap.size + 1 ≠ w1.heap.size := by omega
  clear hm1 he1 y2 y3 b1 b2 b3 b5 b6 hb HB3
  go_wp2_with fail
  generalize hw2 : (World.alloc _ _) = w2
  have hz2 : w1.heap.size < w2.heap.size := by rw [← hw2]; simp
  have B9 : Hid (Blk w2 w1.heap.size 40 #[.slice a1 m1 c1, .int .i64 e1]) := Lib.hid (by rw [← hw2]; exact Blk.new _ _ _)
  have HBw := (Below.refl w1.heap.size w1).alloc (Nat.le_refl _) (.cells #[.slice a1 m1 c1, .int .i64 e1] 40)
  rw [hw2] at HBw
  clear hw2
  have H2 := Lib.hid (H.out.below (HB1.out.trans (HBw.mono (by omega))))
  have HRV2 := Lib.hid (HRV1.out.below HBw)
  have B62 := Lib.hid (B6.out.below HBw B6.out.lt)
  have HB2 := Lib.hid (HB1.out.trans (HBw.mono (by omega)))
  clear HBw HRV1 HB1 B5 B6 H HV u0 u1 v0 v1 n9
  refine (rd_truth p s _ H2.out).mono ?_
  rintro e w3 ⟨rfl, hrd, ho⟩
  rw [← HN.out, ← HNO.out]
  rw [← HS1.out] at hrd
  have HRD3 := Lib.hid hrd
  have HO3 := Lib.hid ((Only.of_below HB2.out p).trans ho)
  have HRV3 := Lib.hid (HRV2.out.only H2.out ho)
  have B9 := Lib.hid (ho.blk B9.out (by omega))
  have B6 := Lib.hid (ho.blk B62.out (by omega))
  clear hrd ho HRV2 H2 B62 HB2
  go_wp2_with fail
  have d0 : w3.cell? ⟨w.heap.size + 2, 0, none⟩ = some (.slice none 0 0) := B6.out.cell (i := 0) rfl
  have d1 : w3.cell? ⟨w.heap.size + 2, 1, none⟩ = some (.int .i64 0) := B6.out.cell (i := 1) rfl
  have g0 := B6.out.frozen 0
  have g1 := B6.out.frozen 1
  have hkeep : (fun W => W.cell? ⟨w1.heap.size, 0, none⟩ = some (.slice a1 m1 c1) ∧ W.cell? ⟨w1.heap.size, 1, none⟩ = some (.int .i64 e1)) ((w3.setCell ⟨w.heap.size + 2, 0, none⟩ (.slice a1 m1 c1)).setCell ⟨w.heap.size + 2, 1, none⟩ (.int .i64 e1)).drew := by
    have q := ((B9.out.far (p := ⟨w.heap.size + 2, 0, none⟩) (by simp; omega) (.slice a1 m1 c1)).far (p := ⟨w.heap.size + 2, 1, none⟩) (by simp; omega) (.int .i64 e1)).drew
    exact ⟨q.cell (i := 0) rfl, q.cell (i := 1) rfl⟩
  have hkeep1 := ((Tch.refl (fun i => i = w.heap.size + 2) w3).setCell (p := ⟨w.heap.size + 2, 0, none⟩) (.inl rfl) (.slice a1 m1 c1)).setCell (p := ⟨w.heap.size + 2, 1, none⟩) (.inl rfl) (.int .i64 e1)
  have hkeep2 : IsRd ((w3.setCell ⟨w.heap.size + 2, 0, none⟩ (.slice a1 m1 c1)).setCell ⟨w.heap.size + 2, 1, none⟩ (.int .i64 e1)).drew p s1 := IsRd.far6 HRD3.out B6.out hkeep1.drew (by omega)
  have hkeep3 : RV ((w3.setCell ⟨w.heap.size + 2, 0, none⟩ (.slice a1 m1 c1)).setCell ⟨w.heap.size + 2, 1, none⟩ (.int .i64 e1)).drew (.agg #[.slice a1 m1 c1, .int .i64 e1]) s1 := RV.far6 HRV3.out B6.out hkeep1.drew
  have z0 : w3.cell? ⟨w1.heap.size, 0, none⟩ = some (.slice a1 m1 c1) := B9.out.cell (i := 0) rfl
  have z1 : w3.cell? ⟨w1.heap.size, 1, none⟩ = some (.int .i64 e1) := B9.out.cell (i := 1) rfl
  have hS0 : (fun W => W.cell? ⟨w1.heap.size, 0, none⟩ = some (.slice a1 m1 c1) ∧ W.cell? ⟨w1.heap.size, 1, none⟩ = some (.int .i64 e1)) w3 := ⟨z0, z1⟩
  clear hkeep1 z0 z1
  refine wp_region_held_drew (S := (fun W => W.cell? ⟨w1.heap.size, 0, none⟩ = some (.slice a1 m1 c1) ∧ W.cell? ⟨w1.heap.size, 1, none⟩ = some (.int .i64 e1))) (by kernel_rfl) hS0 ?_
  intro hS0'
  refine wpAnyH_take (i := 0) (v := .agg #[.slice a1 m1 c1, .int .i64 e1]) rfl (by kernel_rfl) (by kernel_rfl) (by kernel_rfl) (fun _ _ _ h => h) (Or.inl ⟨by kernel_rfl, fun w hSw => ?_⟩) hS0' ?_
  · obtain ⟨s1, s2⟩ := hSw
    go_simp
  try simp only [Act.put, List.getElem_toArray, List.getElem_cons_succ, List.getElem_cons_zero, List.setIfInBounds_toArray, List.set_cons_zero, List.set_cons_succ]
  refine wpAnyH_take (i := 1) (v := .bool n) rfl (by kernel_rfl) (by kernel_rfl) (by kernel_rfl) (fun _ _ _ h => h) (Or.inl ⟨by kernel_rfl, fun w hSw => ?_⟩) hS0' ?_
  · go_simp
  try simp only [Act.put, List.getElem_toArray, List.getElem_cons_succ, List.getElem_cons_zero, List.setIfInBounds_toArray, List.set_cons_zero, List.set_cons_succ]
  refine wpAnyH_take (i := 2) (v := .bool n) rfl (by kernel_rfl) (by kernel_rfl) (by kernel_rfl) (fun _ _ _ h => h) (Or.inl ⟨by kernel_rfl, fun w hSw => ?_⟩) hS0' ?_
  · go_simp
  try simp only [Act.put, List.getElem_toArray, List.getElem_cons_succ, List.getElem_cons_zero, List.setIfInBounds_toArray, List.set_cons_zero, List.set_cons_succ]
  refine wpAnyH_take (i := 3) (v := .bool true) rfl (by kernel_rfl) (by kernel_rfl) (by kernel_rfl) (fun _ _ _ h => h) (Or.inl ⟨by kernel_rfl, fun w hSw => ?_⟩) hS0' ?_
  · go_simp
  try simp only [Act.put, List.getElem_toArray, List.getElem_cons_succ, List.getElem_cons_zero, List.setIfInBounds_toArray, List.set_cons_zero, List.set_cons_succ]
  refine wpAnyH_take (i := 4) (v := .bool true) rfl (by kernel_rfl) (by kernel_rfl) (by kernel_rfl) (fun _ _ _ h => h) (Or.inl ⟨by kernel_rfl, fun w hSw => ?_⟩) hS0' ?_
  · go_simp
  try simp only [Act.put, List.getElem_toArray, List.getElem_cons_succ, List.getElem_cons_zero, List.setIfInBounds_toArray, List.set_cons_zero, List.set_cons_succ]
  refine wpAnyH_take (i := 5) (v := .int .i64 no) rfl (by kernel_rfl) (by kernel_rfl) (by kernel_rfl) (fun _ _ _ h => h) (Or.inl ⟨by kernel_rfl, fun w hSw => ?_⟩) hS0' ?_
  · go_simp
  try simp only [Act.put, List.getElem_toArray, List.getElem_cons_succ, List.getElem_cons_zero, List.setIfInBounds_toArray, List.set_cons_zero, List.set_cons_succ]
  refine wpAnyH_take (i := 7) (v := .int .i64 no) rfl (by kernel_rfl) (by kernel_rfl) (by kernel_rfl) (fun _ _ _ h => h) (Or.inl ⟨by kernel_rfl, fun w hSw => ?_⟩) hS0' ?_
  · go_simp
  try simp only [Act.put, List.getElem_toArray, List.getElem_cons_succ, List.getElem_cons_zero, List.setIfInBounds_toArray, List.set_cons_zero, List.set_cons_succ]
  refine wpAnyH_ready (rs := [6]) (by kernel_rfl) (by simp) ?_
  refine AllReadyH.cons (by rfl) ?_ AllReadyH.nil
  intro K hK
  go_simp
  refine (num_c _ _).mono ?_
  rintro e w' ⟨rfl, rfl⟩
  refine hK.out _ _ hS0' (fun hS1 => ?_)
  clear hK K
  refine wpAnyH_take (i := 8) (v := .bool true) rfl (by kernel_rfl) (by kernel_rfl) (by kernel_rfl) (fun _ _ _ h => h) (Or.inl ⟨by kernel_rfl, fun w hSw => ?_⟩) hS1 ?_
  · go_simp
  try simp only [Act.put, List.getElem_toArray, List.getElem_cons_succ, List.getElem_cons_zero, List.setIfInBounds_toArray, List.set_cons_zero, List.set_cons_succ]
  refine wpAnyH_take (i := 9) (v := .bool true) rfl (by kernel_rfl) (by kernel_rfl) (by kernel_rfl) (fun _ _ _ h => h) (Or.inl ⟨by kernel_rfl, fun w hSw => ?_⟩) hS1 ?_
  · go_simp
  try simp only [Act.put, List.getElem_toArray, List.getElem_cons_succ, List.getElem_cons_zero, List.setIfInBounds_toArray, List.set_cons_zero, List.set_cons_succ]
  refine wpAnyH_ready (rs := [10]) (by kernel_rfl) (by simp) ?_
  refine AllReadyH.cons (by rfl) ?_ AllReadyH.nil
  intro K hK
  go_simp
  have k6 := ((B6.out.set 0 (.slice a1 m1 c1)).set 1 (.int .i64 e1)).drew
  have HOO := Lib.hid (((HO3.out.setCell (p := ⟨w.heap.size + 2, 0, none⟩) (.inr (by simp)) (.slice a1 m1 c1)).setCell (p := ⟨w.heap.size + 2, 1, none⟩) (.inr (by simp)) (.int .i64 e1)).drew)
  have HRD := Lib.hid (hkeep2)
  have HRV := Lib.hid (hkeep3)
  have hSS := hkeep
  generalize (World.drew _) = w6 at k6 HOO HRD HRV hSS ⊢
  refine hK.out _ _ hSS (fun hS2 => ?_)
  clear hK K
  refine wpAnyH_ready (rs := [11]) (by kernel_rfl) (by simp) ?_
  refine AllReadyH.cons (by rfl) ?_ AllReadyH.nil
  intro K hK
  go_simp
  refine hK.out _ _ hS2 (fun hS3 => ?_)
  clear hK K
  refine wpAnyH_done (by kernel_rfl) ?_ _
  go_wp2_with fail
  have c5 : w6.cell? ⟨w.heap.size + 2, 0, none⟩ = some (.slice a1 m1 c1) := k6.cell (i := 0) rfl
  have c6 : w6.cell? ⟨w.heap.size + 2, 1, none⟩ = some (.int .i64 e1) := k6.cell (i := 1) rfl
  refine bodyPost_ret (v := .tuple #[.agg #[.slice a1 m1 c1, .int .i64 e1], .bool true]) (by simp [results, Try.results25, go_sem, c5, c6]) rfl ?_
  exact ⟨_, _, rfl, HRV.out, HRD.out, HLE.out, HOO.out⟩

set_option maxHeartbeats 4000000 in
theorem ask_3 (p : Nat) (v : Value) (s : RS) (x0 x1 : Int) (w : World) (h : IsRd w p s) (hv : RV w v s) (hl : s.l.length ≤ 1000000000) (hx : x0 = 3) :
    Calls Try.prog 25 #[.pointer (some ⟨p, 0, none⟩), v, .agg #[.int .i64 x0, .int .i64 x1]] w (AskRes w p s) := by
  obtain ⟨a, c, rfl, h2, h3⟩ := hv
  have HV : Hid (RV w (.agg #[.slice a s.l.length c, .int .i64 s.e]) s) := Lib.hid ⟨a, c, rfl, h2, h3⟩
  have H := Lib.hid h; have HL := Lib.hid hl
  have hpl := h.lt
  obtain ⟨m, hm⟩ : ∃ m, m = s.l.length := ⟨_, rfl⟩
  obtain ⟨e0, he0⟩ : ∃ e0, e0 = s.e := ⟨_, rfl⟩
  rw [← hm, ← he0] at HV ⊢
  have HB3 := Lib.hid (blk3 w 40 56 40 #[.slice a m c, .int .i64 e0] #[.int .i64 x0, .int .i64 x1] #[.slice none 0 0, .int .i64 0])
  obtain ⟨ya, hya⟩ : ∃ ya, (if (1000000 : Int) < x1 then (1000000 : Int) else x1) = ya := ⟨_, rfl⟩
  obtain ⟨yb, hyb⟩ : ∃ yb, (if (-5 : Int) < ya then ya else -5) = yb := ⟨_, rfl⟩
  clear h2 h3 he0 h hl
  have q0 : (x0 == 0) = false := by simp [hx]
  have q1 : (x0 == 1) = false := by simp [hx]
  have q2 : (x0 == 2) = false := by simp [hx]
  have q3 : (x0 == 3) = true := by simp [hx]
  clear hm hx
  obtain ⟨s1, hs1⟩ : ∃ s1, s1 = (rend s).1 := ⟨_, rfl⟩
  obtain ⟨no, hno⟩ : ∃ no, no = (rend s).2 := ⟨_, rfl⟩
  have HLE : Hid (s1.l.length ≤ s.l.length) := Lib.hid (by rw [hs1]; exact rend_le s)
  have HS1 := Lib.hid hs1; have HNO := Lib.hid hno
  clear hs1 hno
  go_enter Try.func25, Try.ntmps25
  go_wp2_with fail
  generalize (World.alloc _ _) = W0 at HB3 ⊢
  obtain ⟨b1, b2, b3, b5, b6⟩ := HB3.out
  refine (rr_end _ s _ (HV.out.below b5)).mono ?_
  rintro e w1 ⟨⟨v1, rfl, hrv⟩, hb⟩
  rw [← HNO.out]
  rw [← HS1.out] at hrv
  have HRV1 := Lib.hid hrv
  obtain ⟨a1, c1, rfl, y2, y3⟩ := hrv
  obtain ⟨m1, hm1⟩ : ∃ m1, m1 = s1.l.length := ⟨_, rfl⟩
  obtain ⟨e1, he1⟩ : ∃ e1, e1 = s1.e := ⟨_, rfl⟩
  rw [← hm1] at HRV1 ⊢
  rw [← he1] at HRV1 ⊢
  have HB1 := Lib.hid (b5.trans (hb.mono (by omega)))
  have B6 := Lib.hid (b3.below hb b3.lt)
  have hz1 : w.heap.size + 3 ≤ w1.heap.size := by have := hb.size; omega
  clear hm1 he1 y2 y3 b1 b2 b3 b5 b6 hb HB3
  go_upto_region 17 with (fail)
  generalize hw2 : (World.alloc _ _) = w2
  have hz2 : w1.heap.size < w2.heap.size := by rw [← hw2]; simp
  have B9 : Hid (Blk w2 w1.heap.size 40 #[.slice a1 m1 c1, .int .i64 e1]) := Lib.hid (by rw [← hw2]; exact Blk.new _ _ _)
  have HBw := (Below.refl w1.heap.size w1).alloc (Nat.le_refl _) (.cells #[.slice a1 m1 c1, .int .i64 e1] 40)
  rw [hw2] at HBw
  clear hw2
  have H2d := Lib.hid ((H.out.below (HB1.out.trans (HBw.mono (by omega)))).below (Below.refl _ _).drew)
  have HRV2 := Lib.hid (HRV1.out.below HBw)
  have B62 := Lib.hid (B6.out.below HBw B6.out.lt)
  have HB2 := Lib.hid (HB1.out.trans (HBw.mono (by omega)))
  have hS0 : (fun W => W.cell? ⟨w1.heap.size, 0, none⟩ = some (.slice a1 m1 c1) ∧ W.cell? ⟨w1.heap.size, 1, none⟩ = some (.int .i64 e1)) w2 := ⟨B9.out.cell (i := 0) rfl, B9.out.cell (i := 1) rfl⟩
  have hz3 : w2.drew.heap.size = w2.heap.size := rfl
  clear HBw HRV1 HB1 B6 H HV
  refine wp_region_held_drew (S := (fun W => W.cell? ⟨w1.heap.size, 0, none⟩ = some (.slice a1 m1 c1) ∧ W.cell? ⟨w1.heap.size, 1, none⟩ = some (.int .i64 e1))) (by kernel_rfl) hS0 ?_
  intro hS0'
  refine wpAnyH_take (i := 0) (v := .agg #[.slice a1 m1 c1, .int .i64 e1]) rfl (by kernel_rfl) (by kernel_rfl) (by kernel_rfl) (fun _ _ _ h => h) (Or.inl ⟨by kernel_rfl, fun w hSw => ?_⟩) hS0' ?_
  · obtain ⟨s1, s2⟩ := hSw
    go_simp
  try simp only [Act.put, List.getElem_toArray, List.getElem_cons_succ, List.getElem_cons_zero, List.setIfInBounds_toArray, List.set_cons_zero, List.set_cons_succ]
  refine wpAnyH_take (i := 1) (v := .pointer (some ⟨p, 0, none⟩)) rfl (by kernel_rfl) (by kernel_rfl) (by kernel_rfl) (fun _ _ _ h => h) (Or.inl ⟨by kernel_rfl, fun w hSw => ?_⟩) hS0' ?_
  · go_simp
  try simp only [Act.put, List.getElem_toArray, List.getElem_cons_succ, List.getElem_cons_zero, List.setIfInBounds_toArray, List.set_cons_zero, List.set_cons_succ]
  refine wpAnyH_take (i := 4) (v := .int .i64 no) rfl (by kernel_rfl) (by kernel_rfl) (by kernel_rfl) (fun _ _ _ h => h) (Or.inl ⟨by kernel_rfl, fun w hSw => ?_⟩) hS0' ?_
  · go_simp
  try simp only [Act.put, List.getElem_toArray, List.getElem_cons_succ, List.getElem_cons_zero, List.setIfInBounds_toArray, List.set_cons_zero, List.set_cons_succ]
  refine wpAnyH_ready (rs := [2]) (by kernel_rfl) (by simp) ?_
  refine AllReadyH.cons (by rfl) ?_ AllReadyH.nil
  intro K hK
  go_simp
  refine (rd_end p s _ H2d.out).mono ?_
  rintro e w3 ⟨rfl, hrd, ho⟩
  rw [← HNO.out]
  rw [← HS1.out] at hrd
  have HRD3 := Lib.hid hrd
  have HO3 := Lib.hid ((Only.of_below HB2.out.drew p).trans ho)
  have HRV3 := Lib.hid ((HRV2.out.below (Below.refl _ _).drew).only H2d.out ho)
  have B9 := Lib.hid (ho.blk B9.out.drew (by omega))
  have B6 := Lib.hid (ho.blk B62.out.drew (by omega))
  have z0 : w3.cell? ⟨w1.heap.size, 0, none⟩ = some (.slice a1 m1 c1) := B9.out.cell (i := 0) rfl
  have z1 : w3.cell? ⟨w1.heap.size, 1, none⟩ = some (.int .i64 e1) := B9.out.cell (i := 1) rfl
  have hS3 : (fun W => W.cell? ⟨w1.heap.size, 0, none⟩ = some (.slice a1 m1 c1) ∧ W.cell? ⟨w1.heap.size, 1, none⟩ = some (.int .i64 e1)) w3 := ⟨z0, z1⟩
  have d0 : w3.cell? ⟨w.heap.size + 2, 0, none⟩ = some (.slice none 0 0) := B6.out.cell (i := 0) rfl
  have d1 : w3.cell? ⟨w.heap.size + 2, 1, none⟩ = some (.int .i64 0) := B6.out.cell (i := 1) rfl
  have g0 := B6.out.frozen 0
  have g1 := B6.out.frozen 1
  have hkeep : (fun W => W.cell? ⟨w1.heap.size, 0, none⟩ = some (.slice a1 m1 c1) ∧ W.cell? ⟨w1.heap.size, 1, none⟩ = some (.int .i64 e1)) ((w3.setCell ⟨w.heap.size + 2, 0, none⟩ (.slice a1 m1 c1)).setCell ⟨w.heap.size + 2, 1, none⟩ (.int .i64 e1)) := by
    have q := ((B9.out.far (p := ⟨w.heap.size + 2, 0, none⟩) (by simp; omega) (.slice a1 m1 c1)).far (p := ⟨w.heap.size + 2, 1, none⟩) (by simp; omega) (.int .i64 e1))
    exact ⟨q.cell (i := 0) rfl, q.cell (i := 1) rfl⟩
  have hkeep1 := ((Tch.refl (fun i => i = w.heap.size + 2) w3).setCell (p := ⟨w.heap.size + 2, 0, none⟩) (.inl rfl) (.slice a1 m1 c1)).setCell (p := ⟨w.heap.size + 2, 1, none⟩) (.inl rfl) (.int .i64 e1)
  have hkeep2 : IsRd ((w3.setCell ⟨w.heap.size + 2, 0, none⟩ (.slice a1 m1 c1)).setCell ⟨w.heap.size + 2, 1, none⟩ (.int .i64 e1)) p s1 := IsRd.far6 HRD3.out B6.out hkeep1 (by omega)
  have hkeep3 : RV ((w3.setCell ⟨w.heap.size + 2, 0, none⟩ (.slice a1 m1 c1)).setCell ⟨w.heap.size + 2, 1, none⟩ (.int .i64 e1)) (.agg #[.slice a1 m1 c1, .int .i64 e1]) s1 := RV.far6 HRV3.out B6.out hkeep1
  clear hrd ho HRV2 H2d B62 HB2 z0 z1 hkeep1
  refine hK.out _ _ hS3 (fun hS1 => ?_)
  clear hK K
  refine wpAnyH_ready (rs := [3]) (by kernel_rfl) (by simp) ?_
  refine AllReadyH.cons (by rfl) ?_ AllReadyH.nil
  intro K hK
  go_simp
  refine (num_c _ _).mono ?_
  rintro e w' ⟨rfl, rfl⟩
  refine hK.out _ _ hS1 (fun hS2 => ?_)
  clear hK K
  refine wpAnyH_take (i := 5) (v := .bool true) rfl (by kernel_rfl) (by kernel_rfl) (by kernel_rfl) (fun _ _ _ h => h) (Or.inl ⟨by kernel_rfl, fun w hSw => ?_⟩) hS2 ?_
  · go_simp
  try simp only [Act.put, List.getElem_toArray, List.getElem_cons_succ, List.getElem_cons_zero, List.setIfInBounds_toArray, List.set_cons_zero, List.set_cons_succ]
  refine wpAnyH_ready (rs := [6]) (by kernel_rfl) (by simp) ?_
  refine AllReadyH.cons (by rfl) ?_ AllReadyH.nil
  intro K hK
  go_simp
  have k6 := ((B6.out.set 0 (.slice a1 m1 c1)).set 1 (.int .i64 e1))
  have HOO := Lib.hid (((HO3.out.setCell (p := ⟨w.heap.size + 2, 0, none⟩) (.inr (by simp)) (.slice a1 m1 c1)).setCell (p := ⟨w.heap.size + 2, 1, none⟩) (.inr (by simp)) (.int .i64 e1)))
  have HRD := Lib.hid (hkeep2)
  have HRV := Lib.hid (hkeep3)
  have hSS := hkeep
  generalize (World.setCell _ _ _) = w6 at k6 HOO HRD HRV hSS ⊢
  refine hK.out _ _ hSS (fun hS3 => ?_)
  clear hK K
  refine wpAnyH_ready (rs := [7]) (by kernel_rfl) (by simp) ?_
  refine AllReadyH.cons (by rfl) ?_ AllReadyH.nil
  intro K hK
  go_simp
  refine hK.out _ _ hS3 (fun hS4 => ?_)
  clear hK K
  refine wpAnyH_done (by kernel_rfl) ?_ _
  go_wp2_with fail
  have c5 : w6.cell? ⟨w.heap.size + 2, 0, none⟩ = some (.slice a1 m1 c1) := k6.cell (i := 0) rfl
  have c6 : w6.cell? ⟨w.heap.size + 2, 1, none⟩ = some (.int .i64 e1) := k6.cell (i := 1) rfl
  refine bodyPost_ret (v := .tuple #[.agg #[.slice a1 m1 c1, .int .i64 e1], .bool true]) (by simp [results, Try.results25, go_sem, c5, c6]) rfl ?_
  exact ⟨_, _, rfl, HRV.out, HRD.out, HLE.out, HOO.out⟩

set_option maxHeartbeats 4000000 in
theorem ask_4 (p : Nat) (v : Value) (s : RS) (x0 x1 : Int) (w : World) (h : IsRd w p s) (hv : RV w v s) (hl : s.l.length ≤ 1000000000) (hx : x0 ≠ 0 ∧ x0 ≠ 1 ∧ x0 ≠ 2 ∧ x0 ≠ 3) :
    Calls Try.prog 25 #[.pointer (some ⟨p, 0, none⟩), v, .agg #[.int .i64 x0, .int .i64 x1]] w (AskRes w p s) := by
  obtain ⟨a, c, rfl, h2, h3⟩ := hv
  have HV : Hid (RV w (.agg #[.slice a s.l.length c, .int .i64 s.e]) s) := Lib.hid ⟨a, c, rfl, h2, h3⟩
  have H := Lib.hid h; have HL := Lib.hid hl
  have hpl := h.lt
  obtain ⟨m, hm⟩ : ∃ m, m = s.l.length := ⟨_, rfl⟩
  obtain ⟨e0, he0⟩ : ∃ e0, e0 = s.e := ⟨_, rfl⟩
  rw [← hm, ← he0] at HV ⊢
  have HB3 := Lib.hid (blk3 w 40 56 40 #[.slice a m c, .int .i64 e0] #[.int .i64 x0, .int .i64 x1] #[.slice none 0 0, .int .i64 0])
  obtain ⟨ya, hya⟩ : ∃ ya, (if (1000000 : Int) < x1 then (1000000 : Int) else x1) = ya := ⟨_, rfl⟩
  obtain ⟨yb, hyb⟩ : ∃ yb, (if (-5 : Int) < ya then ya else -5) = yb := ⟨_, rfl⟩
  clear h2 h3 he0 h hl
  have q0 : (x0 == 0) = false := by simp [hx]
  have q1 : (x0 == 1) = false := by simp [hx]
  have q2 : (x0 == 2) = false := by simp [hx]
  have q3 : (x0 == 3) = false := by simp [hx]
  clear hx
  have HM := Lib.hid hm; clear hm
  go_enter Try.func25, Try.ntmps25
  go_upto_region 18 with (fail)
  generalize (World.alloc _ _) = w3 at HB3 ⊢
  obtain ⟨b1, b2, b3, b5, b6⟩ := HB3.out
  have HRD3 := Lib.hid (H.out.below b5)
  have HRV3 := Lib.hid (HV.out.below b5)
  have H2d := Lib.hid (HRD3.out.below (Below.refl _ _).drew)
  have HO3 := Lib.hid (Only.of_below b5 p)
  have B9 := Lib.hid b1
  have B6 := Lib.hid b3
  have d0 : w3.cell? ⟨w.heap.size + 2, 0, none⟩ = some (.slice none 0 0) := B6.out.cell (i := 0) rfl
  have d1 : w3.cell? ⟨w.heap.size + 2, 1, none⟩ = some (.int .i64 0) := B6.out.cell (i := 1) rfl
  have g0 := B6.out.frozen 0
  have g1 := B6.out.frozen 1
  have hkeep : (fun W => W.cell? ⟨w.heap.size, 0, none⟩ = some (.slice a m c) ∧ W.cell? ⟨w.heap.size, 1, none⟩ = some (.int .i64 e0)) ((w3.setCell ⟨w.heap.size + 2, 0, none⟩ (.slice a m c)).setCell ⟨w.heap.size + 2, 1, none⟩ (.int .i64 e0)).drew := by
    have q := ((B9.out.far (p := ⟨w.heap.size + 2, 0, none⟩) (by simp) (.slice a m c)).far (p := ⟨w.heap.size + 2, 1, none⟩) (by simp) (.int .i64 e0)).drew
    exact ⟨q.cell (i := 0) rfl, q.cell (i := 1) rfl⟩
  have hkeep1 := ((Tch.refl (fun i => i = w.heap.size + 2) w3).setCell (p := ⟨w.heap.size + 2, 0, none⟩) (.inl rfl) (.slice a m c)).setCell (p := ⟨w.heap.size + 2, 1, none⟩) (.inl rfl) (.int .i64 e0)
  have hkeep2 : IsRd ((w3.setCell ⟨w.heap.size + 2, 0, none⟩ (.slice a m c)).setCell ⟨w.heap.size + 2, 1, none⟩ (.int .i64 e0)).drew p s := IsRd.far6 HRD3.out B6.out hkeep1.drew (by omega)
  have hkeep3 : RV ((w3.setCell ⟨w.heap.size + 2, 0, none⟩ (.slice a m c)).setCell ⟨w.heap.size + 2, 1, none⟩ (.int .i64 e0)).drew (.agg #[.slice a m c, .int .i64 e0]) s := RV.far6 HRV3.out B6.out hkeep1.drew
  have z0 : w3.cell? ⟨w.heap.size, 0, none⟩ = some (.slice a m c) := B9.out.cell (i := 0) rfl
  have z1 : w3.cell? ⟨w.heap.size, 1, none⟩ = some (.int .i64 e0) := B9.out.cell (i := 1) rfl
  have hS0 : (fun W => W.cell? ⟨w.heap.size, 0, none⟩ = some (.slice a m c) ∧ W.cell? ⟨w.heap.size, 1, none⟩ = some (.int .i64 e0)) w3 := ⟨z0, z1⟩
  clear hkeep1 z0 z1 b1 b2 b3 b5 b6 HB3 H HV
  refine wp_region_held_drew (S := (fun W => W.cell? ⟨w.heap.size, 0, none⟩ = some (.slice a m c) ∧ W.cell? ⟨w.heap.size, 1, none⟩ = some (.int .i64 e0))) (by kernel_rfl) hS0 ?_
  intro hS0'
  refine wpAnyH_take (i := 0) (v := .agg #[.slice a m c, .int .i64 e0]) rfl (by kernel_rfl) (by kernel_rfl) (by kernel_rfl) (fun _ _ _ h => h) (Or.inl ⟨by kernel_rfl, fun w hSw => ?_⟩) hS0' ?_
  · obtain ⟨s1, s2⟩ := hSw
    go_simp
  try simp only [Act.put, List.getElem_toArray, List.getElem_cons_succ, List.getElem_cons_zero, List.setIfInBounds_toArray, List.set_cons_zero, List.set_cons_succ]
  refine wpAnyH_take (i := 1) (v := .pointer (some ⟨p, 0, none⟩)) rfl (by kernel_rfl) (by kernel_rfl) (by kernel_rfl) (fun _ _ _ h => h) (Or.inl ⟨by kernel_rfl, fun w hSw => ?_⟩) hS0' ?_
  · go_simp
  try simp only [Act.put, List.getElem_toArray, List.getElem_cons_succ, List.getElem_cons_zero, List.setIfInBounds_toArray, List.set_cons_zero, List.set_cons_succ]
  refine wpAnyH_take (i := 3) (v := .pointer (some ⟨w.heap.size, 0, none⟩)) rfl (by kernel_rfl) (by kernel_rfl) (by kernel_rfl) (fun _ _ _ h => h) (Or.inl ⟨by kernel_rfl, fun w hSw => ?_⟩) hS0' ?_
  · go_simp
  try simp only [Act.put, List.getElem_toArray, List.getElem_cons_succ, List.getElem_cons_zero, List.setIfInBounds_toArray, List.set_cons_zero, List.set_cons_succ]
  refine wpAnyH_take (i := 4) (v := .slice a m c) rfl (by kernel_rfl) (by kernel_rfl) (by kernel_rfl) (fun _ _ _ h => h) (Or.inl ⟨by kernel_rfl, fun w hSw => ?_⟩) hS0' ?_
  · obtain ⟨s1, s2⟩ := hSw
    go_simp
  try simp only [Act.put, List.getElem_toArray, List.getElem_cons_succ, List.getElem_cons_zero, List.setIfInBounds_toArray, List.set_cons_zero, List.set_cons_succ]
  refine wpAnyH_take (i := 5) (v := .int .i64 (m : Int)) rfl (by kernel_rfl) (by kernel_rfl) (by kernel_rfl) (fun _ _ _ h => h) (Or.inl ⟨by kernel_rfl, fun w hSw => ?_⟩) hS0' ?_
  · go_simp
  try simp only [Act.put, List.getElem_toArray, List.getElem_cons_succ, List.getElem_cons_zero, List.setIfInBounds_toArray, List.set_cons_zero, List.set_cons_succ]
  refine wpAnyH_ready (rs := [2]) (by kernel_rfl) (by simp) ?_
  refine AllReadyH.cons (by rfl) ?_ AllReadyH.nil
  intro K hK
  go_simp
  refine (left_c p s _ H2d.out).mono ?_
  rintro e w' ⟨rfl, rfl⟩
  rw [← HM.out]
  refine hK.out _ _ hS0' (fun hS1 => ?_)
  clear hK K
  refine wpAnyH_take (i := 6) (v := .bool true) rfl (by kernel_rfl) (by kernel_rfl) (by kernel_rfl) (fun _ _ _ h => h) (Or.inl ⟨by kernel_rfl, fun w hSw => ?_⟩) hS1 ?_
  · go_simp
  try simp only [Act.put, List.getElem_toArray, List.getElem_cons_succ, List.getElem_cons_zero, List.setIfInBounds_toArray, List.set_cons_zero, List.set_cons_succ]
  refine wpAnyH_ready (rs := [7]) (by kernel_rfl) (by simp) ?_
  refine AllReadyH.cons (by rfl) ?_ AllReadyH.nil
  intro K hK
  go_simp
  have k6 := ((B6.out.set 0 (.slice a m c)).set 1 (.int .i64 e0)).drew
  have HOO := Lib.hid (((HO3.out.setCell (p := ⟨w.heap.size + 2, 0, none⟩) (.inr (by simp)) (.slice a m c)).setCell (p := ⟨w.heap.size + 2, 1, none⟩) (.inr (by simp)) (.int .i64 e0)).drew)
  have HRD := Lib.hid (hkeep2)
  have HRV := Lib.hid (hkeep3)
  have hSS := hkeep
  generalize (World.drew _) = w6 at k6 HOO HRD HRV hSS ⊢
  refine hK.out _ _ hSS (fun hS2 => ?_)
  clear hK K
  refine wpAnyH_ready (rs := [8]) (by kernel_rfl) (by simp) ?_
  refine AllReadyH.cons (by rfl) ?_ AllReadyH.nil
  intro K hK
  go_simp
  refine hK.out _ _ hS2 (fun hS3 => ?_)
  clear hK K
  refine wpAnyH_done (by kernel_rfl) ?_ _
  go_wp2_with fail
  have c5 : w6.cell? ⟨w.heap.size + 2, 0, none⟩ = some (.slice a m c) := k6.cell (i := 0) rfl
  have c6 : w6.cell? ⟨w.heap.size + 2, 1, none⟩ = some (.int .i64 e0) := k6.cell (i := 1) rfl
  refine bodyPost_ret (v := .tuple #[.agg #[.slice a m c, .int .i64 e0], .bool true]) (by simp [results, Try.results25, go_sem, c5, c6]) rfl ?_
  exact ⟨_, _, rfl, HRV.out, HRD.out, Nat.le_refl _, HOO.out⟩

theorem ask_c (p : Nat) (v : Value) (s : RS) (x0 x1 : Int) (w : World) (h : IsRd w p s) (hv : RV w v s) (hl : s.l.length ≤ 1000000000) :
    Calls Try.prog 25 #[.pointer (some ⟨p, 0, none⟩), v, .agg #[.int .i64 x0, .int .i64 x1]] w (AskRes w p s) := by
  by_cases h0 : x0 = 0
  · exact ask_0 p v s x0 x1 w h hv hl h0
  by_cases h1 : x0 = 1
  · exact ask_1 p v s x0 x1 w h hv hl h1
  by_cases h2 : x0 = 2
  · exact ask_2 p v s x0 x1 w h hv hl h2
  by_cases h3 : x0 = 3
  · exact ask_3 p v s x0 x1 w h hv hl h3
  exact ask_4 p v s x0 x1 w h hv hl ⟨h0, h1, h2, h3⟩
end Go.Proofs.Ytnecoapbpicloaa
