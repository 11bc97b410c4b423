/- The walk of WireReads. -/
import Derived.Test.YtnecoapbpicloaaXf
namespace Go.Proofs.Ytnecoapbpicloaa
open Go.RowKit
set_option linter.unusedSimpArgs false
set_option linter.unusedVariables false
set_option maxRecDepth 100000

set_option maxHeartbeats 8000000 in
theorem reads_walk (a : Option Addr) (nb cb : Nat) (lb : List By) (al : Option Addr) (nl cl : Nat) (xs : List (Int × Int)) (w : World) (hy0 : Bys w a nb lb ∧ nb ≤ cb) (ha0 : Asks w al nl xs) :
    Calls Try.prog 5 #[.slice a nb cb, .slice al nl cl] w fun e w' => e = .returned (.bool true) ∧ Below w.heap.size w w' := by
  obtain ⟨hY, hcb⟩ := hy0
  have HY := Lib.hid hY; have HA := Lib.hid ha0
  clear hY ha0
  by_cases hbig : 400 < nb ∨ 40 < nl
  · rcases Nat.lt_or_ge 400 nb with hn | hn
    · have r1 : decide ((400 : Int) < (nb : Int)) = true := decide_eq_true (by omega)
      have r2 : (400 : Int) < (nb : Int) := by omega
      clear hbig
      go_enter Try.func5, Try.ntmps5
      go_wp2_with fail
      refine (works_c _).mono ?_
      rintro e w' ⟨rfl, hb⟩
      have HB := Lib.hid hb; clear hb
      go_wp2_with fail
      go_ret
      exact ⟨rfl, HB.out⟩
    · have r1 : ¬ (400 : Int) < (nb : Int) := by omega
      have r2 : decide ((40 : Int) < (nl : Int)) = true := decide_eq_true (by omega)
      clear hbig
      go_enter Try.func5, Try.ntmps5
      go_wp2_with fail
      refine (works_c _).mono ?_
      rintro e w' ⟨rfl, hb⟩
      have HB := Lib.hid hb; clear hb
      go_wp2_with fail
      go_ret
      exact ⟨rfl, HB.out⟩
  have hn1 : nb ≤ 400 := by omega
  have hn2 : nl ≤ 40 := by omega
  have r1 : ¬ (400 : Int) < (nb : Int) := by omega
  have r2 : decide ((40 : Int) < (nl : Int)) = false := decide_eq_false (by omega)
  clear hbig
  go_enter Try.func5, Try.ntmps5
  go_wp2_with (at_builtin; refine wpl_append_bys rfl _ _ rfl w.heap.size _ [] rfl (own_empty w) a nb cb lb rfl (HY.out.below ((Below.refl _ _).alloc (Nat.le_refl _) _)) ?c1 ?c2 ?_)
  iterate 3 (first | (case c1 => first | omega | (simp; omega)) | (case c2 => first | omega | (simp; omega)) | skip)
  intro v2 w2 hown hg hnl
  have HB2 := Lib.hid (((Below.refl w.heap.size w).alloc (Nat.le_refl _) (.cells #[] 5)).grown hg (by simp) (fun k e => by simp [Value.ownBlock] at e; omega))
  have HO := Lib.hid hown
  have HNL := Lib.hid hnl
  clear hown hg hnl
  have hc1 := HY.out.1
  have hc2 := HB2.out.size
  go_wp2_with (at_builtin; refine wpl_append_bys rfl _ _ rfl w.heap.size v2 lb rfl (HO.out.below ((Below.refl _ _).alloc (Nat.le_refl _) _)) _ 1 _ [77#8] rfl (Bys.lit _ rfl rfl) ?d1 ?d2 ?_)
  iterate 3 (first | (case d1 => omega) | (case d2 => first | omega | (simp; omega)) | skip)
  intro v3 w3 hown hg hnl
  have HB3 := Lib.hid (HB2.out.trans (((Below.refl w.heap.size w2).alloc HB2.out.size _).trans (own_grown (base := w.heap.size) (B := w.heap.size) (HO.out.below ((Below.refl _ _).alloc (Nat.le_refl _) _)) hg (Nat.le_refl _) (by have := HB2.out.size; simp; omega))))
  have hne := hnl HNL.out
  clear hg HB2 HO hnl HNL
  obtain ⟨g, c3, rfl, hc3⟩ := hown.here hne
  have hlen : (lb ++ [77#8]).length = nb + 1 := by simp [HY.out.1]
  rw [hlen] at hown hc3 ⊢
  have hg3 := hown.base
  have hat := hown.at_ (k := nb) (x := 77#8) (by rw [← HY.out.1]; simp)
  have h77 : w3.cell? ⟨g, nb, none⟩ = some (.int .u8 77) := hat.1
  have HOW := Lib.hid hown
  have hot := hown.take (by simp [HY.out.1]) nb (by omega)
  have hl2 : (lb ++ [77#8]).take nb = lb := by rw [← HY.out.1]; simp
  rw [hl2] at hot
  have hyot : Bys w3 (some ⟨g, 0, none⟩) nb lb := by
    obtain ⟨a9, c9, e9, _, hy9⟩ := hot.bys
    cases e9
    exact hy9
  have HYM := Lib.hid hyot
  have k1 : ¬ c3 < nb := by omega
  have k2 : ¬ c3 < nb + 1 := by omega
  have k3 : ¬ (c3 : Int) < nb := by omega
  have k4 : ¬ (c3 : Int) < (nb : Int) + 1 := by omega
  clear hown hlen hat h77 hot hl2 hyot hne
  go_wp2_with fail
  refine (read_c2 (some ⟨g, 0, none⟩) nb c3 lb _ HYM.out (by omega)).mono ?_
  rintro e w4 ⟨p, rfl, hpz, hrd, hb⟩
  have HRD := Lib.hid hrd
  have hg4 : g < w3.heap.size := hg3.2
  have hg5 : w.heap.size ≤ g := hg3.1
  have HO4 := Lib.hid (HOW.out.below hb)
  have HB4 := Lib.hid (HB3.out.trans (hb.mono HB3.out.size))
  have hzb := hb.size
  have hzp : p < w4.heap.size := (hrd g w4 hg4 (Only.refl _ _)).lt
  have hz3 := HB3.out.size
  clear hrd hb HOW HYM HB3 hg3
  go_wp2_with fail
  go_loopw [7] (fun iv wr => ∃ (i : Nat) (l' : List By), i ≤ nb ∧ iv = .int .i64 (i : Int) ∧ l'.length = nb + 1 ∧ l'[nb]? = some 77#8 ∧ OwnB wr w.heap.size (.slice (some ⟨g, 0, none⟩) (nb + 1) c3) l' ∧ Only g w4 wr) (fun iv _ => nb - (intOf iv).toNat)
  case atStart => exact ⟨0, _, Nat.zero_le _, rfl, by simp [HY.out.1], by rw [← HY.out.1]; simp, HO4.out, Only.refl _ _⟩
  case round =>
  obtain ⟨i, l', hi, rfl, hl', h7, ho', hO'⟩ := hrel
  have HO' := Lib.hid ho'; have HOn := Lib.hid hO'; have HL' := Lib.hid hl'; have H7 := Lib.hid h7
  clear ho' hO' hl' h7
  by_cases hlt : i < nb
  · obtain ⟨y, hy⟩ : ∃ y, l'[i]? = some y := ⟨l'[i]'(by rw [HL'.out]; omega), List.getElem?_eq_getElem _⟩
    obtain ⟨s1, s2⟩ := HO'.out.at_ hy
    have hyl := y.isLt
    have hput := HO'.out.put i (y + 1#8)
    have hyv : (((y + 1#8 : By)).toNat : Int) = ((y.toNat : Int) + 1) % 256 := by rw [BitVec.toNat_add]; simp
    rw [hyv] at hput
    have HP := Lib.hid hput
    clear hput hyv hy
    go_wp2_with fail
    go_roundw
    case rel => exact ⟨i + 1, _, by omega, by go_num, by rw [List.length_set]; exact HL'.out, by rw [List.getElem?_set_ne (by omega)]; exact H7.out, HP.out, HOn.out.setCell (.inl rfl) _⟩
    case measure => simp [intOf]; omega
  obtain rfl : i = nb := by omega
  have HBr := Lib.hid (HB4.out.trans (HOn.out.below HB4.out.size hg5))
  have HI := Lib.hid (HRD.out g wr hg4 HOn.out)
  have HC := Lib.hid (HO'.out.at_ H7.out).1
  have HYr := Lib.hid (HY.out.below HBr.out)
  have hzr := HOn.out.size
  have hzr2 := HBr.out.size
  have hpr : p < wr.heap.size := by omega
  have hgr : g < wr.heap.size := by omega
  have hwp : w.heap.size ≤ p := by omega
  have hgp : g ≠ p := by omega
  clear HO' HOn HL' H7 HO4 HRD HB4
  generalize wr = w5 at HBr HI HC HYr hzr hzr2 hpr hgr
  have hst0 : St w w5 p i g ⟨lb, 0⟩ (.agg #[.slice a i cb, .int .i64 0]) :=
    ⟨⟨a, cb, by rw [HY.out.1], by rw [HY.out.1]; exact HYr.out, by rw [HY.out.1]; exact hcb⟩, HI.out, by rw [HY.out.1]; exact Nat.le_refl _, HC.out, HBr.out, hwp, hgp⟩
  have HST0 := Lib.hid hst0
  clear hst0
  go_wp2_with fail
  have hst1 := HST0.out.below ((Below.refl w5.heap.size w5).alloc (Nat.le_refl _) (.cells #[.slice a i cb, .int .i64 0] 40))
  have hbk1 := Blk.new w5 40 #[.slice a i cb, .int .i64 0]
  obtain ⟨b, hbb⟩ : ∃ b, b = w5.heap.size := ⟨_, rfl⟩
  rw [← hbb] at hbk1 ⊢
  have hbp : b ≠ p := by omega
  have hpb : p ≠ b := by omega
  have hgb : g ≠ b := by omega
  have hwb : w.heap.size ≤ b := by omega
  generalize (World.alloc _ _) = w6 at hst1 hbk1 ⊢
  have HST1 := Lib.hid hst1; have HBK1 := Lib.hid hbk1
  clear hst1 hbk1 hbb HST0 HI HC HYr HBr hzr hzr2 hpr hgr hzp hpz hzb hg4 hg5 hz3
  go_loopw [9] (fun iv wr => ∃ (k : Nat) (s : RS) (A : Option Addr) (C m : Nat) (e0 : Int), k ≤ nl ∧ iv = .int .i64 (k : Int) ∧ St w wr p i g s (.agg #[.slice A m C, .int .i64 e0]) ∧ Blk wr b 40 #[.slice A m C, .int .i64 e0]) (fun iv _ => nl - (intOf iv).toNat)
  case atStart => exact ⟨0, _, _, _, _, _, Nat.zero_le _, rfl, HST1.out, HBK1.out⟩
  case round =>
  obtain ⟨k, s, A, C, m, e0, hkn, rfl, hst, hbk⟩ := hrel
  have HST := Lib.hid hst; have HBK := Lib.hid hbk
  clear hst hbk HST1 HBK1
  by_cases hlt2 : k < nl
  · obtain ⟨x, hx⟩ : ∃ x, xs[k]? = some x := ⟨xs[k]'(by rw [HA.out.1]; exact hlt2), List.getElem?_eq_getElem _⟩
    obtain ⟨ga, off, rfl, hga, -, -⟩ := HA.out.2 k x hx
    have hx0 := Lib.hid hx
    clear hx
    have hS0 : (fun W => Blk W b 40 #[.slice A m C, .int .i64 e0] ∧ W.cell? ⟨ga, off + k * 2, none⟩ = some (.int .i64 x.1) ∧ W.cell? ⟨ga, off + k * 2 + 1, none⟩ = some (.int .i64 x.2)) wr.drew := ⟨HBK.out.drew, asks_at HST.out.bel.drew HA.out hx0.out⟩
    go_upto_region 13 with (fail)
    refine wp_region_held_drew (S := (fun W => Blk W b 40 #[.slice A m C, .int .i64 e0] ∧ W.cell? ⟨ga, off + k * 2, none⟩ = some (.int .i64 x.1) ∧ W.cell? ⟨ga, off + k * 2 + 1, none⟩ = some (.int .i64 x.2))) (by kernel_rfl) hS0 ?_
    intro hS0'
    have HST := Lib.hid HST.out.drew
    have HBK := Lib.hid HBK.out.drew
    generalize wr.drew = wA at HST HBK hS0' ⊢
    clear hS0
    refine wpAnyH_take (i := 0) (v := .pointer (some ⟨p, 0, none⟩)) rfl (by kernel_rfl) (by kernel_rfl) (by kernel_rfl) (fun _ _ _ h => h) (Or.inl ⟨by kernel_rfl, fun w hSw => ?_⟩) hS0' ?_
    · go_simp
    try simp only [Act.put, List.getElem_toArray, List.getElem_cons_succ, List.getElem_cons_zero, List.setIfInBounds_toArray, List.set_cons_zero, List.set_cons_succ]
    refine wpAnyH_take (i := 1) (v := .agg #[.slice A m C, .int .i64 e0]) rfl (by kernel_rfl) (by kernel_rfl) (by kernel_rfl) (fun _ _ _ h => h) (Or.inl ⟨by kernel_rfl, fun w hSw => ?_⟩) hS0' ?_
    · obtain ⟨hk, -, -⟩ := hSw
      have s1 := hk.cell (i := 0) rfl
      have s2 := hk.cell (i := 1) rfl
      go_simp
    try simp only [Act.put, List.getElem_toArray, List.getElem_cons_succ, List.getElem_cons_zero, List.setIfInBounds_toArray, List.set_cons_zero, List.set_cons_succ]
    refine wpAnyH_take (i := 2) (v := .slice (some ⟨ga, off, none⟩) nl cl) rfl (by kernel_rfl) (by kernel_rfl) (by kernel_rfl) (fun _ _ _ h => h) (Or.inl ⟨by kernel_rfl, fun w hSw => ?_⟩) hS0' ?_
    · go_simp
    try simp only [Act.put, List.getElem_toArray, List.getElem_cons_succ, List.getElem_cons_zero, List.setIfInBounds_toArray, List.set_cons_zero, List.set_cons_succ]
    refine wpAnyH_take (i := 3) (v := .int .i64 (k : Int)) rfl (by kernel_rfl) (by kernel_rfl) (by kernel_rfl) (fun _ _ _ h => h) (Or.inl ⟨by kernel_rfl, fun w hSw => ?_⟩) hS0' ?_
    · go_simp
    try simp only [Act.put, List.getElem_toArray, List.getElem_cons_succ, List.getElem_cons_zero, List.setIfInBounds_toArray, List.set_cons_zero, List.set_cons_succ]
    refine wpAnyH_take (i := 4) (v := .pointer (some ⟨ga, off + k * 2, none⟩)) rfl (by kernel_rfl) (by kernel_rfl) (by kernel_rfl) (fun _ _ _ h => h) (Or.inl ⟨by kernel_rfl, fun w hSw => ?_⟩) hS0' ?_
    · go_simp
    try simp only [Act.put, List.getElem_toArray, List.getElem_cons_succ, List.getElem_cons_zero, List.setIfInBounds_toArray, List.set_cons_zero, List.set_cons_succ]
    refine wpAnyH_take (i := 5) (v := .agg #[.int .i64 x.1, .int .i64 x.2]) rfl (by kernel_rfl) (by kernel_rfl) (by kernel_rfl) (fun _ _ _ h => h) (Or.inl ⟨by kernel_rfl, fun w hSw => ?_⟩) hS0' ?_
    · obtain ⟨-, q0, q1⟩ := hSw
      go_simp
    try simp only [Act.put, List.getElem_toArray, List.getElem_cons_succ, List.getElem_cons_zero, List.setIfInBounds_toArray, List.set_cons_zero, List.set_cons_succ]
    refine wpAnyH_ready (rs := [6, 10]) (by kernel_rfl) (by simp) ?_
    refine AllReadyH.cons (by rfl) ?_ ?_
    · intro K hK
      go_simp
      refine (ask_c p _ s x.1 x.2 _ HST.out.rd HST.out.rv (by have := HST.out.len; omega)).mono ?_
      rintro e wB ⟨v1, s1, rfl, hv1, hr1, hl1, ho1⟩
      have HSM := Lib.hid (HST.out.ask hv1 hr1 hl1 ho1)
      have HBM := Lib.hid (ho1.blk HBK.out hbp)
      try (have HZ1 := Lib.hid (ho1.blk HZ1.out hp1.symm))
      obtain ⟨A1, C1, rfl, -, -⟩ := hv1
      obtain ⟨m1, hm1⟩ : ∃ m1, m1 = s1.l.length := ⟨_, rfl⟩
      obtain ⟨e1, he1⟩ : ∃ e1, e1 = s1.e := ⟨_, rfl⟩
      rw [← hm1, ← he1] at HSM ⊢
      have HM1 := Lib.hid hm1
      clear hr1 hl1 ho1 he1 hm1
      refine hK.out _ _ ⟨HBM.out, asks_at HSM.out.bel HA.out hx0.out⟩ (fun hS1 => ?_)
      clear hK K
      refine wpAnyH_take (i := 7) (v := .tuple #[.agg #[.slice A1 m1 C1, .int .i64 e1], .bool true]) rfl (by kernel_rfl) (by kernel_rfl) (by kernel_rfl) (fun _ _ _ h => h) (Or.inl ⟨by kernel_rfl, fun w hSw => ?_⟩) hS1 ?_
      · go_simp
      try simp only [Act.put, List.getElem_toArray, List.getElem_cons_succ, List.getElem_cons_zero, List.setIfInBounds_toArray, List.set_cons_zero, List.set_cons_succ]
      refine wpAnyH_take (i := 8) (v := .agg #[.slice A1 m1 C1, .int .i64 e1]) rfl (by kernel_rfl) (by kernel_rfl) (by kernel_rfl) (fun _ _ _ h => h) (Or.inl ⟨by kernel_rfl, fun w hSw => ?_⟩) hS1 ?_
      · go_simp
      try simp only [Act.put, List.getElem_toArray, List.getElem_cons_succ, List.getElem_cons_zero, List.setIfInBounds_toArray, List.set_cons_zero, List.set_cons_succ]
      refine wpAnyH_take (i := 9) (v := .bool true) rfl (by kernel_rfl) (by kernel_rfl) (by kernel_rfl) (fun _ _ _ h => h) (Or.inl ⟨by kernel_rfl, fun w hSw => ?_⟩) hS1 ?_
      · go_simp
      try simp only [Act.put, List.getElem_toArray, List.getElem_cons_succ, List.getElem_cons_zero, List.setIfInBounds_toArray, List.set_cons_zero, List.set_cons_succ]
      refine wpAnyH_ready (rs := [10]) (by kernel_rfl) (by simp) ?_
      refine AllReadyH.cons (by rfl) ?_ AllReadyH.nil
      intro K hK
      go_simp
      have hal := HSM.out.cell HBM.out
      generalize wB.heap.size = p19 at hal ⊢
      generalize (World.alloc _ _) = wn at hal ⊢
      obtain ⟨hp0, hb1, hz1, hp1, hp2, hp3, hp4⟩ := hal
      have HSM := Lib.hid hp0
      have HBM := Lib.hid hb1
      have HZ1 := Lib.hid hz1
      clear hp0 hz1 hb1
      refine hK.out _ _ ⟨HBM.out, asks_at HSM.out.bel HA.out hx0.out⟩ (fun hS2 => ?_)
      clear hK K
      refine wpAnyH_ready (rs := [11]) (by kernel_rfl) (by simp) ?_
      refine AllReadyH.cons (by rfl) ?_ AllReadyH.nil
      intro K hK
      have d0 := HZ1.out.cell (i := 0) rfl
      have d1 := HZ1.out.cell (i := 1) rfl
      have g0 := HZ1.out.frozen 0
      have g1 := HZ1.out.frozen 1
      go_simp
      clear d0 d1 g0 g1
      have ht := set2_tch wn p19 (.slice A1 m1 C1) (.int .i64 e1)
      have HSN := Lib.hid (HSM.out.put HZ1.out hp1 hp3 hp4 ht)
      have HBN := Lib.hid (ht.blk HBM.out hp2)
      have HZ2 := Lib.hid ((HZ1.out.set 0 (.slice A1 m1 C1)).set 1 (.int .i64 e1))
      clear ht
      generalize (World.setCell _ _ _) = w6 at HSN HBN HZ2 ⊢
      refine hK.out _ _ ⟨HBN.out, asks_at HSN.out.bel HA.out hx0.out⟩ (fun hS6 => ?_)
      clear hK K
      refine wpAnyH_ready (rs := [12]) (by kernel_rfl) (by simp) ?_
      refine AllReadyH.cons (by rfl) ?_ AllReadyH.nil
      intro K hK
      go_simp
      refine hK.out _ _ hS6 (fun hS7 => ?_)
      clear hK K
      refine wpAnyH_done (by kernel_rfl) ?_ _
      have e0' := HBN.out.cell (i := 0) rfl
      have e1' := HBN.out.cell (i := 1) rfl
      have f0 := HBN.out.frozen 0
      have f1 := HBN.out.frozen 1
      have h0 := HZ2.out.cell (i := 0) rfl
      have h1 := HZ2.out.cell (i := 1) rfl
      go_wp2_with fail
      clear e0' e1' f0 f1 h0 h1
      have ht := set2_tch w6 b (.slice A1 m1 C1) (.int .i64 e1)
      have HSP := Lib.hid (HSN.out.put HBN.out hpb hgb hwb ht)
      have HBP := Lib.hid ((HBN.out.set 0 (.slice A1 m1 C1)).set 1 (.int .i64 e1))
      clear ht
      generalize (World.setCell _ _ _) = w7 at HSP HBP ⊢
      have hS0 : (fun W => Blk W b 40 #[.slice A1 m1 C1, .int .i64 e1]) w7 := HBP.out
      refine wp_region_held_drew (S := (fun W => Blk W b 40 #[.slice A1 m1 C1, .int .i64 e1])) (by kernel_rfl) hS0 ?_
      intro hS0'
      refine wpAnyH_take (i := 0) (v := .bool true) rfl (by kernel_rfl) (by kernel_rfl) (by kernel_rfl) (fun _ _ _ h => h) (Or.inl ⟨by kernel_rfl, fun w hSw => ?_⟩) hS0' ?_
      · go_simp
      try simp only [Act.put, List.getElem_toArray, List.getElem_cons_succ, List.getElem_cons_zero, List.setIfInBounds_toArray, List.set_cons_zero, List.set_cons_succ]
      refine wpAnyH_take (i := 1) (v := .bool false) rfl (by kernel_rfl) (by kernel_rfl) (by kernel_rfl) (fun _ _ _ h => h) (Or.inl ⟨by kernel_rfl, fun w hSw => ?_⟩) hS0' ?_
      · go_simp
      try simp only [Act.put, List.getElem_toArray, List.getElem_cons_succ, List.getElem_cons_zero, List.setIfInBounds_toArray, List.set_cons_zero, List.set_cons_succ]
      refine wpAnyH_take (i := 2) (v := .bool false) rfl (by kernel_rfl) (by kernel_rfl) (by kernel_rfl) (fun _ _ _ h => h) (Or.inl ⟨by kernel_rfl, fun w hSw => ?_⟩) hS0' ?_
      · go_simp
      try simp only [Act.put, List.getElem_toArray, List.getElem_cons_succ, List.getElem_cons_zero, List.setIfInBounds_toArray, List.set_cons_zero, List.set_cons_succ]
      refine wpAnyH_take (i := 3) (v := .pointer (some ⟨p, 0, none⟩)) rfl (by kernel_rfl) (by kernel_rfl) (by kernel_rfl) (fun _ _ _ h => h) (Or.inl ⟨by kernel_rfl, fun w hSw => ?_⟩) hS0' ?_
      · go_simp
      try simp only [Act.put, List.getElem_toArray, List.getElem_cons_succ, List.getElem_cons_zero, List.setIfInBounds_toArray, List.set_cons_zero, List.set_cons_succ]
      refine wpAnyH_take (i := 5) (v := .pointer (some ⟨b, 0, none⟩)) rfl (by kernel_rfl) (by kernel_rfl) (by kernel_rfl) (fun _ _ _ h => h) (Or.inl ⟨by kernel_rfl, fun w hSw => ?_⟩) hS0' ?_
      · go_simp
      try simp only [Act.put, List.getElem_toArray, List.getElem_cons_succ, List.getElem_cons_zero, List.setIfInBounds_toArray, List.set_cons_zero, List.set_cons_succ]
      refine wpAnyH_take (i := 6) (v := .slice A1 m1 C1) rfl (by kernel_rfl) (by kernel_rfl) (by kernel_rfl) (fun _ _ _ h => h) (Or.inl ⟨by kernel_rfl, fun w hSw => ?_⟩) hS0' ?_
      · have s1 := hSw.cell (i := 0) rfl
        go_simp
      try simp only [Act.put, List.getElem_toArray, List.getElem_cons_succ, List.getElem_cons_zero, List.setIfInBounds_toArray, List.set_cons_zero, List.set_cons_succ]
      refine wpAnyH_take (i := 7) (v := .int .i64 (m1 : Int)) rfl (by kernel_rfl) (by kernel_rfl) (by kernel_rfl) (fun _ _ _ h => h) (Or.inl ⟨by kernel_rfl, fun w hSw => ?_⟩) hS0' ?_
      · go_simp
      try simp only [Act.put, List.getElem_toArray, List.getElem_cons_succ, List.getElem_cons_zero, List.setIfInBounds_toArray, List.set_cons_zero, List.set_cons_succ]
      refine wpAnyH_ready (rs := [4]) (by kernel_rfl) (by simp) ?_
      refine AllReadyH.cons (by rfl) ?_ AllReadyH.nil
      intro K hK
      go_simp
      refine (left_c p s1 _ HSP.out.drew.rd).mono ?_
      rintro e w' ⟨rfl, rfl⟩
      rw [← HM1.out]
      refine hK.out _ _ hS0' (fun hS1 => ?_)
      clear hK K
      refine wpAnyH_take (i := 8) (v := .bool false) rfl (by kernel_rfl) (by kernel_rfl) (by kernel_rfl) (fun _ _ _ h => h) (Or.inl ⟨by kernel_rfl, fun w hSw => ?_⟩) hS1 ?_
      · go_simp
      try simp only [Act.put, List.getElem_toArray, List.getElem_cons_succ, List.getElem_cons_zero, List.setIfInBounds_toArray, List.set_cons_zero, List.set_cons_succ]
      refine wpAnyH_take (i := 9) (v := .bool false) rfl (by kernel_rfl) (by kernel_rfl) (by kernel_rfl) (fun _ _ _ h => h) (Or.inl ⟨by kernel_rfl, fun w hSw => ?_⟩) hS1 ?_
      · go_simp
      try simp only [Act.put, List.getElem_toArray, List.getElem_cons_succ, List.getElem_cons_zero, List.setIfInBounds_toArray, List.set_cons_zero, List.set_cons_succ]
      refine wpAnyH_done (by kernel_rfl) ?_ _
      go_wp2_with fail
      go_roundw
      case rel => exact ⟨k + 1, s1, A1, C1, m1, e1, by omega, by go_num, HSP.out.drew, HBP.out.drew⟩
      case measure => simp [intOf]; omega
    refine AllReadyH.cons (by rfl) ?_ AllReadyH.nil
    intro K hK
    go_simp
    have hal := HST.out.cell HBK.out
    generalize wA.heap.size = p19 at hal ⊢
    generalize (World.alloc _ _) = wn at hal ⊢
    obtain ⟨hp0, hb1, hz1, hp1, hp2, hp3, hp4⟩ := hal
    have HST := Lib.hid hp0
    have HBK := Lib.hid hb1
    have HZ1 := Lib.hid hz1
    clear hp0 hz1 hb1
    refine hK.out _ _ ⟨HBK.out, asks_at HST.out.bel HA.out hx0.out⟩ (fun hS1 => ?_)
    clear hK K
    refine wpAnyH_ready (rs := [6]) (by kernel_rfl) (by simp) ?_
    refine AllReadyH.cons (by rfl) ?_ AllReadyH.nil
    intro K hK
    generalize wn = wn0 at HST HBK HZ1 ⊢
    go_simp
    refine (ask_c p _ s x.1 x.2 _ HST.out.rd HST.out.rv (by have := HST.out.len; omega)).mono ?_
    rintro e wB ⟨v1, s1, rfl, hv1, hr1, hl1, ho1⟩
    have HSM := Lib.hid (HST.out.ask hv1 hr1 hl1 ho1)
    have HBM := Lib.hid (ho1.blk HBK.out hbp)
    try (have HZ1 := Lib.hid (ho1.blk HZ1.out hp1.symm))
    obtain ⟨A1, C1, rfl, -, -⟩ := hv1
    obtain ⟨m1, hm1⟩ : ∃ m1, m1 = s1.l.length := ⟨_, rfl⟩
    obtain ⟨e1, he1⟩ : ∃ e1, e1 = s1.e := ⟨_, rfl⟩
    rw [← hm1, ← he1] at HSM ⊢
    have HM1 := Lib.hid hm1
    clear hr1 hl1 ho1 he1 hm1
    generalize wB = wn at HSM HBM HZ1 ⊢
    refine hK.out _ _ ⟨HBM.out, asks_at HSM.out.bel HA.out hx0.out⟩ (fun hS2 => ?_)
    clear hK K
    refine wpAnyH_take (i := 7) (v := .tuple #[.agg #[.slice A1 m1 C1, .int .i64 e1], .bool true]) rfl (by kernel_rfl) (by kernel_rfl) (by kernel_rfl) (fun _ _ _ h => h) (Or.inl ⟨by kernel_rfl, fun w hSw => ?_⟩) hS2 ?_
    · go_simp
    try simp only [Act.put, List.getElem_toArray, List.getElem_cons_succ, List.getElem_cons_zero, List.setIfInBounds_toArray, List.set_cons_zero, List.set_cons_succ]
    refine wpAnyH_take (i := 8) (v := .agg #[.slice A1 m1 C1, .int .i64 e1]) rfl (by kernel_rfl) (by kernel_rfl) (by kernel_rfl) (fun _ _ _ h => h) (Or.inl ⟨by kernel_rfl, fun w hSw => ?_⟩) hS2 ?_
    · go_simp
    try simp only [Act.put, List.getElem_toArray, List.getElem_cons_succ, List.getElem_cons_zero, List.setIfInBounds_toArray, List.set_cons_zero, List.set_cons_succ]
    refine wpAnyH_take (i := 9) (v := .bool true) rfl (by kernel_rfl) (by kernel_rfl) (by kernel_rfl) (fun _ _ _ h => h) (Or.inl ⟨by kernel_rfl, fun w hSw => ?_⟩) hS2 ?_
    · go_simp
    try simp only [Act.put, List.getElem_toArray, List.getElem_cons_succ, List.getElem_cons_zero, List.setIfInBounds_toArray, List.set_cons_zero, List.set_cons_succ]
    refine wpAnyH_ready (rs := [11]) (by kernel_rfl) (by simp) ?_
    refine AllReadyH.cons (by rfl) ?_ AllReadyH.nil
    intro K hK
    have d0 := HZ1.out.cell (i := 0) rfl
    have d1 := HZ1.out.cell (i := 1) rfl
    have g0 := HZ1.out.frozen 0
    have g1 := HZ1.out.frozen 1
    go_simp
    clear d0 d1 g0 g1
    have ht := set2_tch wn p19 (.slice A1 m1 C1) (.int .i64 e1)
    have HSN := Lib.hid (HSM.out.put HZ1.out hp1 hp3 hp4 ht)
    have HBN := Lib.hid (ht.blk HBM.out hp2)
    have HZ2 := Lib.hid ((HZ1.out.set 0 (.slice A1 m1 C1)).set 1 (.int .i64 e1))
    clear ht
    generalize (World.setCell _ _ _) = w6 at HSN HBN HZ2 ⊢
    refine hK.out _ _ ⟨HBN.out, asks_at HSN.out.bel HA.out hx0.out⟩ (fun hS6 => ?_)
    clear hK K
    refine wpAnyH_ready (rs := [12]) (by kernel_rfl) (by simp) ?_
    refine AllReadyH.cons (by rfl) ?_ AllReadyH.nil
    intro K hK
    go_simp
    refine hK.out _ _ hS6 (fun hS7 => ?_)
    clear hK K
    refine wpAnyH_done (by kernel_rfl) ?_ _
    have e0' := HBN.out.cell (i := 0) rfl
    have e1' := HBN.out.cell (i := 1) rfl
    have f0 := HBN.out.frozen 0
    have f1 := HBN.out.frozen 1
    have h0 := HZ2.out.cell (i := 0) rfl
    have h1 := HZ2.out.cell (i := 1) rfl
    go_wp2_with fail
    clear e0' e1' f0 f1 h0 h1
    have ht := set2_tch w6 b (.slice A1 m1 C1) (.int .i64 e1)
    have HSP := Lib.hid (HSN.out.put HBN.out hpb hgb hwb ht)
    have HBP := Lib.hid ((HBN.out.set 0 (.slice A1 m1 C1)).set 1 (.int .i64 e1))
    clear ht
    generalize (World.setCell _ _ _) = w7 at HSP HBP ⊢
    have hS0 : (fun W => Blk W b 40 #[.slice A1 m1 C1, .int .i64 e1]) w7 := HBP.out
    refine wp_region_held_drew (S := (fun W => Blk W b 40 #[.slice A1 m1 C1, .int .i64 e1])) (by kernel_rfl) hS0 ?_
    intro hS0'
    refine wpAnyH_take (i := 0) (v := .bool true) rfl (by kernel_rfl) (by kernel_rfl) (by kernel_rfl) (fun _ _ _ h => h) (Or.inl ⟨by kernel_rfl, fun w hSw => ?_⟩) hS0' ?_
    · go_simp
    try simp only [Act.put, List.getElem_toArray, List.getElem_cons_succ, List.getElem_cons_zero, List.setIfInBounds_toArray, List.set_cons_zero, List.set_cons_succ]
    refine wpAnyH_take (i := 1) (v := .bool false) rfl (by kernel_rfl) (by kernel_rfl) (by kernel_rfl) (fun _ _ _ h => h) (Or.inl ⟨by kernel_rfl, fun w hSw => ?_⟩) hS0' ?_
    · go_simp
    try simp only [Act.put, List.getElem_toArray, List.getElem_cons_succ, List.getElem_cons_zero, List.setIfInBounds_toArray, List.set_cons_zero, List.set_cons_succ]
    refine wpAnyH_take (i := 2) (v := .bool false) rfl (by kernel_rfl) (by kernel_rfl) (by kernel_rfl) (fun _ _ _ h => h) (Or.inl ⟨by kernel_rfl, fun w hSw => ?_⟩) hS0' ?_
    · go_simp
    try simp only [Act.put, List.getElem_toArray, List.getElem_cons_succ, List.getElem_cons_zero, List.setIfInBounds_toArray, List.set_cons_zero, List.set_cons_succ]
    refine wpAnyH_take (i := 3) (v := .pointer (some ⟨p, 0, none⟩)) rfl (by kernel_rfl) (by kernel_rfl) (by kernel_rfl) (fun _ _ _ h => h) (Or.inl ⟨by kernel_rfl, fun w hSw => ?_⟩) hS0' ?_
    · go_simp
    try simp only [Act.put, List.getElem_toArray, List.getElem_cons_succ, List.getElem_cons_zero, List.setIfInBounds_toArray, List.set_cons_zero, List.set_cons_succ]
    refine wpAnyH_take (i := 5) (v := .pointer (some ⟨b, 0, none⟩)) rfl (by kernel_rfl) (by kernel_rfl) (by kernel_rfl) (fun _ _ _ h => h) (Or.inl ⟨by kernel_rfl, fun w hSw => ?_⟩) hS0' ?_
    · go_simp
    try simp only [Act.put, List.getElem_toArray, List.getElem_cons_succ, List.getElem_cons_zero, List.setIfInBounds_toArray, List.set_cons_zero, List.set_cons_succ]
    refine wpAnyH_take (i := 6) (v := .slice A1 m1 C1) rfl (by kernel_rfl) (by kernel_rfl) (by kernel_rfl) (fun _ _ _ h => h) (Or.inl ⟨by kernel_rfl, fun w hSw => ?_⟩) hS0' ?_
    · have s1 := hSw.cell (i := 0) rfl
      go_simp
    try simp only [Act.put, List.getElem_toArray, List.getElem_cons_succ, List.getElem_cons_zero, List.setIfInBounds_toArray, List.set_cons_zero, List.set_cons_succ]
    refine wpAnyH_take (i := 7) (v := .int .i64 (m1 : Int)) rfl (by kernel_rfl) (by kernel_rfl) (by kernel_rfl) (fun _ _ _ h => h) (Or.inl ⟨by kernel_rfl, fun w hSw => ?_⟩) hS0' ?_
    · go_simp
    try simp only [Act.put, List.getElem_toArray, List.getElem_cons_succ, List.getElem_cons_zero, List.setIfInBounds_toArray, List.set_cons_zero, List.set_cons_succ]
    refine wpAnyH_ready (rs := [4]) (by kernel_rfl) (by simp) ?_
    refine AllReadyH.cons (by rfl) ?_ AllReadyH.nil
    intro K hK
    go_simp
    refine (left_c p s1 _ HSP.out.drew.rd).mono ?_
    rintro e w' ⟨rfl, rfl⟩
    rw [← HM1.out]
    refine hK.out _ _ hS0' (fun hS1 => ?_)
    clear hK K
    refine wpAnyH_take (i := 8) (v := .bool false) rfl (by kernel_rfl) (by kernel_rfl) (by kernel_rfl) (fun _ _ _ h => h) (Or.inl ⟨by kernel_rfl, fun w hSw => ?_⟩) hS1 ?_
    · go_simp
    try simp only [Act.put, List.getElem_toArray, List.getElem_cons_succ, List.getElem_cons_zero, List.setIfInBounds_toArray, List.set_cons_zero, List.set_cons_succ]
    refine wpAnyH_take (i := 9) (v := .bool false) rfl (by kernel_rfl) (by kernel_rfl) (by kernel_rfl) (fun _ _ _ h => h) (Or.inl ⟨by kernel_rfl, fun w hSw => ?_⟩) hS1 ?_
    · go_simp
    try simp only [Act.put, List.getElem_toArray, List.getElem_cons_succ, List.getElem_cons_zero, List.setIfInBounds_toArray, List.set_cons_zero, List.set_cons_succ]
    refine wpAnyH_done (by kernel_rfl) ?_ _
    go_wp2_with fail
    go_roundw
    case rel => exact ⟨k + 1, s1, A1, C1, m1, e1, by omega, by go_num, HSP.out.drew, HBP.out.drew⟩
    case measure => simp [intOf]; omega
  obtain rfl : k = nl := by omega
  have hwz := HST.out.bel.size
  have HBw := Lib.hid HST.out.bel
  have C77 := Lib.hid HST.out.c77
  have hw1 : IntKind.i64.wrap ((i : Int) + 1) = (i : Int) + 1 := by rw [IntKind.wrap_i64]; omega
  have hneg : ¬ ((i : Int) + 1 < 0) := by omega
  have hlt1 : (i : Int) < (i : Int) + 1 := by omega
  clear HST HBK
  go_wp2_with fail
  · have hbk := Blk.new wr 60 #[.slice none 0 0, .int .i64 0, .bool false]
    have HN : Hid (NoRd2 (wr.alloc (.cells #[.slice none 0 0, .int .i64 0, .bool false] 60)) (some ⟨wr.heap.size, 0, none⟩)) := Lib.hid (.inr ⟨_, rfl, hbk.cell (i := 0) rfl, hbk.cell (i := 2) rfl⟩)
    have hb := (Below.refl wr.heap.size wr).alloc (Nat.le_refl _) (.cells #[.slice none 0 0, .int .i64 0, .bool false] 60)
    have HB5 := Lib.hid (HBw.out.trans (hb.mono hwz))
    have C7 := Lib.hid ((hb.cell (p := ⟨g, i, none⟩) (cell_lt C77.out)).trans C77.out)
    clear hbk hb C77 HBw
    generalize (World.alloc _ _) = wA at HN HB5 C7 ⊢
    refine (rd_number_none _ 1 _ HN.out.no (by omega)).mono ?_
    rintro e wB ⟨rfl, hb⟩
    have HN := Lib.hid (HN.out.below hb)
    have HB5 := Lib.hid (HB5.out.trans (hb.mono HB5.out.size))
    have C7 := Lib.hid ((hb.cell (p := ⟨g, i, none⟩) (cell_lt C7.out)).trans C7.out)
    clear hb
    go_wp2_with fail
    refine (rd_text_none _ 1 _ HN.out.no (by omega)).mono ?_
    rintro e wC ⟨rfl, hb⟩
    have HN := Lib.hid (HN.out.below hb)
    have HB5 := Lib.hid (HB5.out.trans (hb.mono HB5.out.size))
    have C7 := Lib.hid ((hb.cell (p := ⟨g, i, none⟩) (cell_lt C7.out)).trans C7.out)
    clear hb
    go_wp2_with fail
    refine (rd_truth_none _ _ HN.out.no).mono ?_
    rintro e wD ⟨rfl, hb⟩
    have HN := Lib.hid (HN.out.below hb)
    have HB5 := Lib.hid (HB5.out.trans (hb.mono HB5.out.size))
    have C7 := Lib.hid ((hb.cell (p := ⟨g, i, none⟩) (cell_lt C7.out)).trans C7.out)
    clear hb
    have c7 := C7.out
    go_wp2_with fail
    clear c7
    refine (num_c _ _).mono ?_
    rintro e w' ⟨rfl, rfl⟩
    go_wp2_with fail
    refine (num_c _ _).mono ?_
    rintro e w' ⟨rfl, rfl⟩
    go_wp2_with fail
    refine (num_c _ _).mono ?_
    rintro e w' ⟨rfl, rfl⟩
    go_wp2_with fail
    refine (rd_end_none _ _ HN.out.no).mono ?_
    rintro e wE ⟨rfl, hb⟩
    have HN := Lib.hid (HN.out.below hb)
    have HB5 := Lib.hid (HB5.out.trans (hb.mono HB5.out.size))
    have C7 := Lib.hid ((hb.cell (p := ⟨g, i, none⟩) (cell_lt C7.out)).trans C7.out)
    clear hb
    go_wp2_with fail
    refine (num_c _ _).mono ?_
    rintro e w' ⟨rfl, rfl⟩
    go_wp2_with fail
    refine (left_none _ _ HN.out).mono ?_
    rintro e w' ⟨rfl, rfl⟩
    go_wp2_with fail
    refine (works_c _).mono ?_
    rintro e wz ⟨rfl, hb⟩
    have HBZ := Lib.hid (HB5.out.trans (hb.mono HB5.out.size))
    clear hb
    go_wp2_with fail
    go_ret
    exact ⟨rfl, HBZ.out⟩
  · have HN : Hid (NoRd2 wr none) := Lib.hid (.inl rfl)
    have HB5 := HBw
    have C7 := C77
    clear C77 HBw
    refine (rd_number_none _ 1 _ HN.out.no (by omega)).mono ?_
    rintro e wB ⟨rfl, hb⟩
    have HN := Lib.hid (HN.out.below hb)
    have HB5 := Lib.hid (HB5.out.trans (hb.mono HB5.out.size))
    have C7 := Lib.hid ((hb.cell (p := ⟨g, i, none⟩) (cell_lt C7.out)).trans C7.out)
    clear hb
    go_wp2_with fail
    refine (rd_text_none _ 1 _ HN.out.no (by omega)).mono ?_
    rintro e wC ⟨rfl, hb⟩
    have HN := Lib.hid (HN.out.below hb)
    have HB5 := Lib.hid (HB5.out.trans (hb.mono HB5.out.size))
    have C7 := Lib.hid ((hb.cell (p := ⟨g, i, none⟩) (cell_lt C7.out)).trans C7.out)
    clear hb
    go_wp2_with fail
    refine (rd_truth_none _ _ HN.out.no).mono ?_
    rintro e wD ⟨rfl, hb⟩
    have HN := Lib.hid (HN.out.below hb)
    have HB5 := Lib.hid (HB5.out.trans (hb.mono HB5.out.size))
    have C7 := Lib.hid ((hb.cell (p := ⟨g, i, none⟩) (cell_lt C7.out)).trans C7.out)
    clear hb
    have c7 := C7.out
    go_wp2_with fail
    clear c7
    refine (num_c _ _).mono ?_
    rintro e w' ⟨rfl, rfl⟩
    go_wp2_with fail
    refine (num_c _ _).mono ?_
    rintro e w' ⟨rfl, rfl⟩
    go_wp2_with fail
    refine (num_c _ _).mono ?_
    rintro e w' ⟨rfl, rfl⟩
    go_wp2_with fail
    refine (rd_end_none _ _ HN.out.no).mono ?_
    rintro e wE ⟨rfl, hb⟩
    have HN := Lib.hid (HN.out.below hb)
    have HB5 := Lib.hid (HB5.out.trans (hb.mono HB5.out.size))
    have C7 := Lib.hid ((hb.cell (p := ⟨g, i, none⟩) (cell_lt C7.out)).trans C7.out)
    clear hb
    go_wp2_with fail
    refine (num_c _ _).mono ?_
    rintro e w' ⟨rfl, rfl⟩
    go_wp2_with fail
    refine (left_none _ _ HN.out).mono ?_
    rintro e w' ⟨rfl, rfl⟩
    go_wp2_with fail
    refine (works_c _).mono ?_
    rintro e wz ⟨rfl, hb⟩
    have HBZ := Lib.hid (HB5.out.trans (hb.mono HB5.out.size))
    clear hb
    go_wp2_with fail
    go_ret
    exact ⟨rfl, HBZ.out⟩
end Go.Proofs.Ytnecoapbpicloaa
