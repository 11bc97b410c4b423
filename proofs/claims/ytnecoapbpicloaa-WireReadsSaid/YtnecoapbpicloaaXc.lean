/- The walk of WireFrames. -/
import Derived.Test.YtnecoapbpicloaaXb
namespace Go.Proofs.Ytnecoapbpicloaa
open Go.RowKit
set_option linter.unusedSimpArgs false
set_option linter.unusedVariables false
set_option maxRecDepth 100000

set_option maxHeartbeats 8000000 in
theorem frames_walk (a : Option Addr) (nb cb : Nat) (lb : List By) (a1 : Option Addr) (nc cc : Nat) (lc : List By) (w : World) (hy0 : Bys w a nb lb ∧ nb ≤ cb) (hy1 : Bys w a1 nc lc ∧ nc ≤ cc) :
    Calls Try.prog 8 #[.slice a nb cb, .slice a1 nc cc] w fun e w' => e = .returned (.bool true) ∧ Below w.heap.size w w' := by
  obtain ⟨hY, hcb⟩ := hy0
  obtain ⟨hC, hcc⟩ := hy1
  have HY := Lib.hid hY; have HC := Lib.hid hC
  clear hY hC
  by_cases hbig : 500 < nb ∨ 1500 < nc
  · rcases Nat.lt_or_ge 500 nb with hn | hn
    · have r1 : decide ((500 : Int) < (nb : Int)) = true := decide_eq_true (by omega)
      have r2 : (500 : Int) < (nb : Int) := by omega
      clear hbig
      go_enter Try.func8, Try.ntmps8
      go_wp2_with fail
      refine (works_c _).mono ?_
      rintro e w' ⟨rfl, hb⟩
      have HB := Lib.hid hb; clear hb
      go_wp2_with fail
      go_ret
      exact ⟨rfl, HB.out⟩
    · have r1 : ¬ (500 : Int) < (nb : Int) := by omega
      have r2 : decide ((1500 : Int) < (nc : Int)) = true := decide_eq_true (by omega)
      clear hbig
      go_enter Try.func8, Try.ntmps8
      go_wp2_with fail
      refine (works_c _).mono ?_
      rintro e w' ⟨rfl, hb⟩
      have HB := Lib.hid hb; clear hb
      go_wp2_with fail
      go_ret
      exact ⟨rfl, HB.out⟩
  · have hn1 : nb ≤ 500 := by omega
    have hn2 : nc ≤ 1500 := by omega
    have r1 : ¬ (500 : Int) < (nb : Int) := by omega
    have r2 : decide ((1500 : Int) < (nc : Int)) = false := decide_eq_false (by omega)
    clear hbig
    go_enter Try.func8, Try.ntmps8
    go_wp2_with fail
    refine (frame_c a nb cb lb _ HY.out (by omega)).mono ?_
    rintro e w1 ⟨vf, rfl, hof, hbf⟩
    obtain ⟨af, cf, rfl, hcf, hyf⟩ := hof.bys
    obtain ⟨mf, hmf⟩ : ∃ mf, mf = (frameB lb).length := ⟨_, rfl⟩
    rw [← hmf] at hyf hcf ⊢
    have HF := Lib.hid hyf; have HF0 := Lib.hid hyf; have HB1 := Lib.hid hbf
    have HC1 := Lib.hid (HC.out.below hbf)
    clear hof hbf hyf hmf
    go_wp2_with (at_builtin; refine wpl_append_bys rfl _ _ rfl w1.heap.size _ [] rfl (own_empty w1) a1 nc cc lc rfl (HC1.out.below ((Below.refl _ _).alloc (Nat.le_refl _) _)) ?c1 ?c2 ?_)
    case c1 => first | omega | (simp; omega) | simp
    case c2 => first | simp | omega
    intro v2 w2 hown hg hnl
    have HB2 := Lib.hid (((Below.refl w1.heap.size w1).alloc (Nat.le_refl _) (.cells #[] 5)).grown hg (by simp) (fun k e => by simp [Value.ownBlock] at e; omega))
    have HO := Lib.hid hown
    have HNL := Lib.hid hnl
    clear hown hg hnl
    have hc1 := HC.out.1
    have hc2 := HB2.out.size
    go_wp2_with (at_builtin; refine wpl_append_bys rfl _ _ rfl w1.heap.size v2 lc rfl (HO.out.below ((Below.refl _ _).alloc (Nat.le_refl _) _)) _ 1 _ [77#8] rfl (Bys.lit _ rfl rfl) ?c1 ?c2 ?_)
    iterate 3 (first | (case c1 => omega) | (case c2 => first | omega | (simp; omega)) | skip)
    intro v3 w3 hown hg hnl
    have HB3 := Lib.hid (HB2.out.trans (((Below.refl w1.heap.size w2).alloc HB2.out.size _).trans (own_grown (base := w1.heap.size) (B := w1.heap.size) (HO.out.below ((Below.refl _ _).alloc (Nat.le_refl _) _)) hg (Nat.le_refl _) (by have := HB2.out.size; simp; omega))))
    have hne := hnl HNL.out
    clear hg HB2 HO hnl HNL
    obtain ⟨g, c3, rfl, hc3⟩ := hown.here hne
    have hlen : (lc ++ [77#8]).length = nc + 1 := by simp [HC.out.1]
    rw [hlen] at hown hc3 ⊢
    have hg3 := hown.base
    have hat := hown.at_ (k := nc) (x := 77#8) (by rw [← HC.out.1]; simp)
    have h77 : w3.cell? ⟨g, nc, none⟩ = some (.int .u8 77) := hat.1
    have hot := hown.take (by simp [HC.out.1]) nc (by omega)
    have hl2 : (lc ++ [77#8]).take nc = lc := by rw [← HC.out.1]; simp
    rw [hl2] at hot
    have HO3 := Lib.hid hot
    have H77 := Lib.hid h77
    have HF3 := Lib.hid (HF.out.below HB3.out)
    have hBB := Lib.hid (HB1.out.trans (HB3.out.mono HB1.out.size))
    have hyot : Bys w3 (some ⟨g, 0, none⟩) nc lc := by
      obtain ⟨a9, c9, e9, _, hy9⟩ := hot.bys
      cases e9
      exact hy9
    have HYM := Lib.hid hyot
    have k1 : ¬ c3 < nc := by omega
    have k2 : ¬ c3 < nc + 1 := by omega
    have k3 : ¬ (c3 : Int) < nc := by omega
    have k4 : ¬ (c3 : Int) < (nc : Int) + 1 := by omega
    clear hown hlen hat h77 hot hl2 hyot hne HB3 HF HC1
    go_wp2_with fail
    refine (split_c (some ⟨g, 0, none⟩) nc c3 lc _ HYM.out (by omega) (by omega)).mono ?_
    rintro e w4 ⟨⟨ax, cx, rfl, hox⟩, hb⟩
    obtain ⟨lx, hlx⟩ : ∃ lx, lx = (splitB lc).1 := ⟨_, rfl⟩
    obtain ⟨k, hk⟩ : ∃ k, k = (splitB lc).2.1 := ⟨_, rfl⟩
    obtain ⟨no, hno⟩ : ∃ no, no = (splitB lc).2.2 := ⟨_, rfl⟩
    obtain ⟨mx, hmx⟩ : ∃ mx, mx = lx.length := ⟨_, rfl⟩
    rw [← hlx] at hox ⊢
    rw [← hmx] at hox ⊢
    rw [← hk, ← hno]
    have HLX := Lib.hid hlx; have HK := Lib.hid hk; have HNO := Lib.hid hno; have HMX := Lib.hid hmx
    have HOX := Lib.hid hox
    have HO4 := Lib.hid (HO3.out.below hb)
    have HYM4 := Lib.hid (HYM.out.below hb)
    have H774 := Lib.hid ((hb.cell (p := ⟨g, nc, none⟩) hg3.2).trans H77.out)
    have HF4 := Lib.hid (HF3.out.below hb)
    have HBB4 := Lib.hid (hBB.out.trans (hb.mono hBB.out.size))
    have hg4 : g < w3.heap.size := hg3.2
    have hg5 : w1.heap.size ≤ g := hg3.1
    have hzb := hb.size
    have q1 := run_str w4 (some ⟨g, 0, none⟩) nc c3 lc HYM4.out
    have q2 := run_str w4 a1 nc cc lc (HC.out.below HBB4.out)
    have q3 := H774.out
    have hw1 : IntKind.i64.wrap ((nc : Int) + 1) = (nc : Int) + 1 := by rw [IntKind.wrap_i64]; omega
    have hneg : ¬ ((nc : Int) + 1 < 0) := by omega
    have hlt1 : (nc : Int) < (nc : Int) + 1 := by omega
    clear hox hb HO3 HYM H77 HF3 hBB hlx hk hno hmx hg3
    go_wp2_with fail
    clear q1 q2 q3
    go_loopw [12] (fun iv wr => ∃ (i : Nat) (l' : List By), i ≤ nc ∧ iv = .int .i64 (i : Int) ∧ l'.length = nc ∧ OwnB wr w1.heap.size (.slice (some ⟨g, 0, none⟩) nc c3) l' ∧ Only g w4 wr) (fun iv _ => nc - (intOf iv).toNat)
    case atStart => exact ⟨0, lc, Nat.zero_le _, rfl, HC.out.1, HO4.out, Only.refl _ _⟩
    case round =>
    obtain ⟨i, l', hi, rfl, hl', ho', hO'⟩ := hrel
    have HO' := Lib.hid ho'; have HOn := Lib.hid hO'; have HL' := Lib.hid hl'
    clear ho' hO' hl'
    by_cases hlt : i < nc
    · obtain ⟨y, hy⟩ : ∃ y, l'[i]? = some y := ⟨l'[i]'(by rw [HL'.out]; exact hlt), List.getElem?_eq_getElem _⟩
      obtain ⟨s1, s2⟩ := HO'.out.at_ hy
      have hyl := y.isLt
      have hput := HO'.out.put i (y + 1#8)
      have hyv : (((y + 1#8 : By)).toNat : Int) = ((y.toNat : Int) + 1) % 256 := by rw [BitVec.toNat_add]; simp
      rw [hyv] at hput
      have HP := Lib.hid hput
      clear hput hyv hy
      go_wp2_with fail
      go_roundw
      case rel => exact ⟨i + 1, _, by omega, by go_num, by rw [List.length_set]; exact HL'.out, HP.out, HOn.out.setCell (.inl rfl) _⟩
      case measure => simp [intOf]; omega
    obtain rfl : i = nc := by omega
    have HBr := Lib.hid (HBB4.out.trans (HOn.out.below HBB4.out.size (by have := HB1.out.size; omega)))
    have HXr : Hid (Bys wr ax mx lx) := Lib.hid (by
      obtain ⟨a9, c9, e9, _, hy9⟩ := (HOX.out.only HOn.out hg4).bys
      cases e9
      exact hy9)
    have HFr : Hid (Bys wr af mf (frameB lb)) := Lib.hid (HOn.out.tch.bys HF4.out (fun g9 off e hn hs => by
      obtain ⟨g8, off8, e8, hg8, _⟩ := HF0.out.cells hn
      rw [e] at e8
      injection e8 with e8
      injection e8 with e8 _
      omega))
    clear HO' HOn HL' HO4 HYM4 H774 HF4 HBB4 HOX
    go_wp2_with fail
    refine (rsplit_c a1 i cc lc _ (HC.out.below HBr.out) (by omega) hcc).mono ?_
    rintro e w5 ⟨⟨aw, cw, rfl, how⟩, hb⟩
    rw [← HLX.out, ← HMX.out] at how ⊢
    rw [← HK.out, ← HNO.out]
    have HW5 : Hid (Bys w5 aw mx lx) := Lib.hid (by
      obtain ⟨a9, c9, e9, _, hy9⟩ := how.bys
      cases e9
      exact hy9)
    have HX5 := Lib.hid (HXr.out.below hb)
    have HF5 := Lib.hid (HFr.out.below hb)
    have HB5 := Lib.hid (HBr.out.trans (hb.mono HBr.out.size))
    clear how hb
    go_wp2_with fail
    have HBd := Lib.hid HB5.out.drew
    have hS0 : (fun W => Bys W af mf (frameB lb) ∧ Bys W ax mx lx ∧ Bys W aw mx lx ∧ Bys W a nb lb) w5 := ⟨HF5.out, HX5.out, HW5.out, HY.out.below HB5.out⟩
    refine wp_region_held_drew (S := (fun W => Bys W af mf (frameB lb) ∧ Bys W ax mx lx ∧ Bys W aw mx lx ∧ Bys W a nb lb)) (by kernel_rfl) hS0 ?_
    intro hS0'
    refine wpAnyH_take (i := 0) (v := .bool true) rfl (by kernel_rfl) (by kernel_rfl) (by kernel_rfl) (fun _ _ _ h => h) (Or.inl ⟨by kernel_rfl, fun w hSw => ?_⟩) hS0' ?_
    · go_simp
    try simp only [Act.put, List.getElem_toArray, List.getElem_cons_succ, List.getElem_cons_zero, List.setIfInBounds_toArray, List.set_cons_zero, List.set_cons_succ]
    refine wpAnyH_take (i := 1) (v := .bool true) rfl (by kernel_rfl) (by kernel_rfl) (by kernel_rfl) (fun _ _ _ h => h) (Or.inl ⟨by kernel_rfl, fun w hSw => ?_⟩) hS0' ?_
    · go_simp
    try simp only [Act.put, List.getElem_toArray, List.getElem_cons_succ, List.getElem_cons_zero, List.setIfInBounds_toArray, List.set_cons_zero, List.set_cons_succ]
    refine wpAnyH_take (i := 2) (v := .slice af mf cf) rfl (by kernel_rfl) (by kernel_rfl) (by kernel_rfl) (fun _ _ _ h => h) (Or.inl ⟨by kernel_rfl, fun w hSw => ?_⟩) hS0' ?_
    · go_simp
    try simp only [Act.put, List.getElem_toArray, List.getElem_cons_succ, List.getElem_cons_zero, List.setIfInBounds_toArray, List.set_cons_zero, List.set_cons_succ]
    refine wpAnyH_take (i := 3) (v := .string (strOf (frameB lb))) rfl (by kernel_rfl) (by kernel_rfl) (by kernel_rfl) (fun _ _ _ h => h) (Or.inl ⟨by kernel_rfl, fun w hSw => ?_⟩) hS0' ?_
    · have q := run_str w af mf cf _ hSw.1
      go_simp
    try simp only [Act.put, List.getElem_toArray, List.getElem_cons_succ, List.getElem_cons_zero, List.setIfInBounds_toArray, List.set_cons_zero, List.set_cons_succ]
    refine wpAnyH_take (i := 4) (v := .slice a nb cb) rfl (by kernel_rfl) (by kernel_rfl) (by kernel_rfl) (fun _ _ _ h => h) (Or.inl ⟨by kernel_rfl, fun w hSw => ?_⟩) hS0' ?_
    · go_simp
    try simp only [Act.put, List.getElem_toArray, List.getElem_cons_succ, List.getElem_cons_zero, List.setIfInBounds_toArray, List.set_cons_zero, List.set_cons_succ]
    refine wpAnyH_ready (rs := [5]) (by kernel_rfl) (by simp) ?_
    refine AllReadyH.cons (by rfl) ?_ AllReadyH.nil
    intro K hK
    go_simp
    refine (rframe_c a nb cb lb _ hS0'.2.2.2 (by omega)).mono ?_
    rintro e wf ⟨vf, rfl, hof, hbf⟩
    obtain ⟨a9, c9, rfl, _, hy9⟩ := hof.bys
    have q9 := run_str wf a9 _ c9 _ hy9
    have HBf := Lib.hid (HBd.out.trans (hbf.mono HBd.out.size))
    have hSf : (fun W => Bys W af mf (frameB lb) ∧ Bys W ax mx lx ∧ Bys W aw mx lx ∧ Bys W a nb lb) wf := ⟨hS0'.1.below hbf, hS0'.2.1.below hbf, hS0'.2.2.1.below hbf, hS0'.2.2.2.below hbf⟩
    clear hof hy9
    refine hK.out _ _ hSf (fun hS1 => ?_)
    clear hK K
    refine wpAnyH_ready (rs := [6]) (by kernel_rfl) (by simp) ?_
    refine AllReadyH.cons (by rfl) ?_ AllReadyH.nil
    intro K hK
    go_simp
    refine hK.out _ _ hS1 (fun hS2 => ?_)
    clear hK K
    refine wpAnyH_take (i := 7) (v := .bool true) rfl (by kernel_rfl) (by kernel_rfl) (by kernel_rfl) (fun _ _ _ h => h) (Or.inl ⟨by kernel_rfl, fun w hSw => ?_⟩) hS2 ?_
    · go_simp
    try simp only [Act.put, List.getElem_toArray, List.getElem_cons_succ, List.getElem_cons_zero, List.setIfInBounds_toArray, List.set_cons_zero, List.set_cons_succ]
    refine wpAnyH_take (i := 8) (v := .bool true) rfl (by kernel_rfl) (by kernel_rfl) (by kernel_rfl) (fun _ _ _ h => h) (Or.inl ⟨by kernel_rfl, fun w hSw => ?_⟩) hS2 ?_
    · go_simp
    try simp only [Act.put, List.getElem_toArray, List.getElem_cons_succ, List.getElem_cons_zero, List.setIfInBounds_toArray, List.set_cons_zero, List.set_cons_succ]
    refine wpAnyH_take (i := 9) (v := .bool true) rfl (by kernel_rfl) (by kernel_rfl) (by kernel_rfl) (fun _ _ _ h => h) (Or.inl ⟨by kernel_rfl, fun w hSw => ?_⟩) hS2 ?_
    · go_simp
    try simp only [Act.put, List.getElem_toArray, List.getElem_cons_succ, List.getElem_cons_zero, List.setIfInBounds_toArray, List.set_cons_zero, List.set_cons_succ]
    refine wpAnyH_take (i := 10) (v := .int .i64 0) rfl (by kernel_rfl) (by kernel_rfl) (by kernel_rfl) (fun _ _ _ h => h) (Or.inl ⟨by kernel_rfl, fun w hSw => ?_⟩) hS2 ?_
    · go_simp
    try simp only [Act.put, List.getElem_toArray, List.getElem_cons_succ, List.getElem_cons_zero, List.setIfInBounds_toArray, List.set_cons_zero, List.set_cons_succ]
    refine wpAnyH_ready (rs := [11]) (by kernel_rfl) (by simp) ?_
    refine AllReadyH.cons (by rfl) ?_ AllReadyH.nil
    intro K hK
    go_simp
    refine (num_c _ _).mono ?_
    rintro e w' ⟨rfl, rfl⟩
    refine hK.out _ _ hS2 (fun hS3 => ?_)
    clear hK K
    refine wpAnyH_take (i := 12) (v := .bool true) rfl (by kernel_rfl) (by kernel_rfl) (by kernel_rfl) (fun _ _ _ h => h) (Or.inl ⟨by kernel_rfl, fun w hSw => ?_⟩) hS3 ?_
    · go_simp
    try simp only [Act.put, List.getElem_toArray, List.getElem_cons_succ, List.getElem_cons_zero, List.setIfInBounds_toArray, List.set_cons_zero, List.set_cons_succ]
    refine wpAnyH_take (i := 13) (v := .bool true) rfl (by kernel_rfl) (by kernel_rfl) (by kernel_rfl) (fun _ _ _ h => h) (Or.inl ⟨by kernel_rfl, fun w hSw => ?_⟩) hS3 ?_
    · go_simp
    try simp only [Act.put, List.getElem_toArray, List.getElem_cons_succ, List.getElem_cons_zero, List.setIfInBounds_toArray, List.set_cons_zero, List.set_cons_succ]
    refine wpAnyH_take (i := 14) (v := .bool true) rfl (by kernel_rfl) (by kernel_rfl) (by kernel_rfl) (fun _ _ _ h => h) (Or.inl ⟨by kernel_rfl, fun w hSw => ?_⟩) hS3 ?_
    · go_simp
    try simp only [Act.put, List.getElem_toArray, List.getElem_cons_succ, List.getElem_cons_zero, List.setIfInBounds_toArray, List.set_cons_zero, List.set_cons_succ]
    refine wpAnyH_take (i := 15) (v := .slice ax mx cx) rfl (by kernel_rfl) (by kernel_rfl) (by kernel_rfl) (fun _ _ _ h => h) (Or.inl ⟨by kernel_rfl, fun w hSw => ?_⟩) hS3 ?_
    · go_simp
    try simp only [Act.put, List.getElem_toArray, List.getElem_cons_succ, List.getElem_cons_zero, List.setIfInBounds_toArray, List.set_cons_zero, List.set_cons_succ]
    refine wpAnyH_take (i := 16) (v := .string (strOf lx)) rfl (by kernel_rfl) (by kernel_rfl) (by kernel_rfl) (fun _ _ _ h => h) (Or.inl ⟨by kernel_rfl, fun w hSw => ?_⟩) hS3 ?_
    · have q := run_str w ax mx cx _ hSw.2.1
      go_simp
    try simp only [Act.put, List.getElem_toArray, List.getElem_cons_succ, List.getElem_cons_zero, List.setIfInBounds_toArray, List.set_cons_zero, List.set_cons_succ]
    refine wpAnyH_take (i := 17) (v := .slice aw mx cw) rfl (by kernel_rfl) (by kernel_rfl) (by kernel_rfl) (fun _ _ _ h => h) (Or.inl ⟨by kernel_rfl, fun w hSw => ?_⟩) hS3 ?_
    · go_simp
    try simp only [Act.put, List.getElem_toArray, List.getElem_cons_succ, List.getElem_cons_zero, List.setIfInBounds_toArray, List.set_cons_zero, List.set_cons_succ]
    refine wpAnyH_take (i := 18) (v := .string (strOf lx)) rfl (by kernel_rfl) (by kernel_rfl) (by kernel_rfl) (fun _ _ _ h => h) (Or.inl ⟨by kernel_rfl, fun w hSw => ?_⟩) hS3 ?_
    · have q := run_str w aw mx cw _ hSw.2.2.1
      go_simp
    try simp only [Act.put, List.getElem_toArray, List.getElem_cons_succ, List.getElem_cons_zero, List.setIfInBounds_toArray, List.set_cons_zero, List.set_cons_succ]
    refine wpAnyH_take (i := 19) (v := .bool true) rfl (by kernel_rfl) (by kernel_rfl) (by kernel_rfl) (fun _ _ _ h => h) (Or.inl ⟨by kernel_rfl, fun w hSw => ?_⟩) hS3 ?_
    · go_simp
    try simp only [Act.put, List.getElem_toArray, List.getElem_cons_succ, List.getElem_cons_zero, List.setIfInBounds_toArray, List.set_cons_zero, List.set_cons_succ]
    refine wpAnyH_take (i := 20) (v := .bool true) rfl (by kernel_rfl) (by kernel_rfl) (by kernel_rfl) (fun _ _ _ h => h) (Or.inl ⟨by kernel_rfl, fun w hSw => ?_⟩) hS3 ?_
    · go_simp
    try simp only [Act.put, List.getElem_toArray, List.getElem_cons_succ, List.getElem_cons_zero, List.setIfInBounds_toArray, List.set_cons_zero, List.set_cons_succ]
    refine wpAnyH_take (i := 21) (v := .bool true) rfl (by kernel_rfl) (by kernel_rfl) (by kernel_rfl) (fun _ _ _ h => h) (Or.inl ⟨by kernel_rfl, fun w hSw => ?_⟩) hS3 ?_
    · go_simp
    try simp only [Act.put, List.getElem_toArray, List.getElem_cons_succ, List.getElem_cons_zero, List.setIfInBounds_toArray, List.set_cons_zero, List.set_cons_succ]
    refine wpAnyH_take (i := 22) (v := .int .i64 (k : Int)) rfl (by kernel_rfl) (by kernel_rfl) (by kernel_rfl) (fun _ _ _ h => h) (Or.inl ⟨by kernel_rfl, fun w hSw => ?_⟩) hS3 ?_
    · go_simp
    try simp only [Act.put, List.getElem_toArray, List.getElem_cons_succ, List.getElem_cons_zero, List.setIfInBounds_toArray, List.set_cons_zero, List.set_cons_succ]
    refine wpAnyH_take (i := 23) (v := .int .i64 (k : Int)) rfl (by kernel_rfl) (by kernel_rfl) (by kernel_rfl) (fun _ _ _ h => h) (Or.inl ⟨by kernel_rfl, fun w hSw => ?_⟩) hS3 ?_
    · go_simp
    try simp only [Act.put, List.getElem_toArray, List.getElem_cons_succ, List.getElem_cons_zero, List.setIfInBounds_toArray, List.set_cons_zero, List.set_cons_succ]
    refine wpAnyH_take (i := 24) (v := .bool true) rfl (by kernel_rfl) (by kernel_rfl) (by kernel_rfl) (fun _ _ _ h => h) (Or.inl ⟨by kernel_rfl, fun w hSw => ?_⟩) hS3 ?_
    · go_simp
    try simp only [Act.put, List.getElem_toArray, List.getElem_cons_succ, List.getElem_cons_zero, List.setIfInBounds_toArray, List.set_cons_zero, List.set_cons_succ]
    refine wpAnyH_take (i := 25) (v := .bool true) rfl (by kernel_rfl) (by kernel_rfl) (by kernel_rfl) (fun _ _ _ h => h) (Or.inl ⟨by kernel_rfl, fun w hSw => ?_⟩) hS3 ?_
    · go_simp
    try simp only [Act.put, List.getElem_toArray, List.getElem_cons_succ, List.getElem_cons_zero, List.setIfInBounds_toArray, List.set_cons_zero, List.set_cons_succ]
    refine wpAnyH_take (i := 26) (v := .bool true) rfl (by kernel_rfl) (by kernel_rfl) (by kernel_rfl) (fun _ _ _ h => h) (Or.inl ⟨by kernel_rfl, fun w hSw => ?_⟩) hS3 ?_
    · go_simp
    try simp only [Act.put, List.getElem_toArray, List.getElem_cons_succ, List.getElem_cons_zero, List.setIfInBounds_toArray, List.set_cons_zero, List.set_cons_succ]
    refine wpAnyH_take (i := 27) (v := .int .i64 no) rfl (by kernel_rfl) (by kernel_rfl) (by kernel_rfl) (fun _ _ _ h => h) (Or.inl ⟨by kernel_rfl, fun w hSw => ?_⟩) hS3 ?_
    · go_simp
    try simp only [Act.put, List.getElem_toArray, List.getElem_cons_succ, List.getElem_cons_zero, List.setIfInBounds_toArray, List.set_cons_zero, List.set_cons_succ]
    refine wpAnyH_take (i := 29) (v := .int .i64 no) rfl (by kernel_rfl) (by kernel_rfl) (by kernel_rfl) (fun _ _ _ h => h) (Or.inl ⟨by kernel_rfl, fun w hSw => ?_⟩) hS3 ?_
    · go_simp
    try simp only [Act.put, List.getElem_toArray, List.getElem_cons_succ, List.getElem_cons_zero, List.setIfInBounds_toArray, List.set_cons_zero, List.set_cons_succ]
    refine wpAnyH_ready (rs := [28]) (by kernel_rfl) (by simp) ?_
    refine AllReadyH.cons (by rfl) ?_ AllReadyH.nil
    intro K hK
    go_simp
    refine (num_c _ _).mono ?_
    rintro e w' ⟨rfl, rfl⟩
    refine hK.out _ _ hS3 (fun hS4 => ?_)
    clear hK K
    refine wpAnyH_take (i := 30) (v := .bool true) rfl (by kernel_rfl) (by kernel_rfl) (by kernel_rfl) (fun _ _ _ h => h) (Or.inl ⟨by kernel_rfl, fun w hSw => ?_⟩) hS4 ?_
    · go_simp
    try simp only [Act.put, List.getElem_toArray, List.getElem_cons_succ, List.getElem_cons_zero, List.setIfInBounds_toArray, List.set_cons_zero, List.set_cons_succ]
    refine wpAnyH_take (i := 31) (v := .bool true) rfl (by kernel_rfl) (by kernel_rfl) (by kernel_rfl) (fun _ _ _ h => h) (Or.inl ⟨by kernel_rfl, fun w hSw => ?_⟩) hS4 ?_
    · go_simp
    try simp only [Act.put, List.getElem_toArray, List.getElem_cons_succ, List.getElem_cons_zero, List.setIfInBounds_toArray, List.set_cons_zero, List.set_cons_succ]
    refine wpAnyH_take (i := 32) (v := .bool true) rfl (by kernel_rfl) (by kernel_rfl) (by kernel_rfl) (fun _ _ _ h => h) (Or.inl ⟨by kernel_rfl, fun w hSw => ?_⟩) hS4 ?_
    · go_simp
    try simp only [Act.put, List.getElem_toArray, List.getElem_cons_succ, List.getElem_cons_zero, List.setIfInBounds_toArray, List.set_cons_zero, List.set_cons_succ]
    refine wpAnyH_ready (rs := [33]) (by kernel_rfl) (by simp) ?_
    refine AllReadyH.cons (by rfl) ?_ AllReadyH.nil
    intro K hK
    go_simp
    refine (works_c _).mono ?_
    rintro e wz ⟨rfl, hbz⟩
    have HBZ := Lib.hid (HBf.out.trans (hbz.mono HBf.out.size))
    have hSz : (fun W => Bys W af mf (frameB lb) ∧ Bys W ax mx lx ∧ Bys W aw mx lx ∧ Bys W a nb lb) wz := ⟨hS4.1.below hbz, hS4.2.1.below hbz, hS4.2.2.1.below hbz, hS4.2.2.2.below hbz⟩
    refine hK.out _ _ hSz (fun hS5 => ?_)
    clear hK K
    refine wpAnyH_take (i := 34) (v := .bool true) rfl (by kernel_rfl) (by kernel_rfl) (by kernel_rfl) (fun _ _ _ h => h) (Or.inl ⟨by kernel_rfl, fun w hSw => ?_⟩) hS5 ?_
    · go_simp
    try simp only [Act.put, List.getElem_toArray, List.getElem_cons_succ, List.getElem_cons_zero, List.setIfInBounds_toArray, List.set_cons_zero, List.set_cons_succ]
    refine wpAnyH_ready (rs := [35]) (by kernel_rfl) (by simp) ?_
    refine AllReadyH.cons (by rfl) ?_ AllReadyH.nil
    intro K hK
    go_simp
    refine hK.out _ _ hS5 (fun hS6 => ?_)
    clear hK K
    refine wpAnyH_done (by kernel_rfl) ?_ _
    go_wp2_with fail
    go_ret
    exact ⟨rfl, HBZ.out⟩
end Go.Proofs.Ytnecoapbpicloaa
