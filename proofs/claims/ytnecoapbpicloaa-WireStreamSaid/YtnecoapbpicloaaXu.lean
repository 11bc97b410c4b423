/- The walk of WireStream. -/
import Derived.Test.YtnecoapbpicloaaXt
import Derived.Sort.QuietIn
namespace Go.Proofs.Ytnecoapbpicloaa
open Go.RowKit Go.Shelf
attribute [local go_sem] Oper.semAt_some
set_option linter.unusedSimpArgs false
set_option linter.unusedVariables false

set_option maxHeartbeats 8000000 in
set_option maxRecDepth 100000 in
theorem stream_in (a : Option Addr) (n c : Nat) (l : List By) (many : Int) (w : World) (hy : Bys w a n l) (hc : n ≤ c) :
    CallsIn Fence.wide 5 Try.prog 6 #[.slice a n c, .int .i64 many] w fun e w' => e = .returned (.bool true) ∧ Below w.heap.size w w' := by
  have HY := Lib.hid hy; clear hy
  have hst := strm_start (w := w) many
  refine callsIn_of_wp_marks Try.func6 rfl trivial ?_ rfl
  simp only [Try.ntmps6, List.size_toArray, List.length_cons, List.length_nil, Nat.reduceAdd, Nat.reduceSub, Array.replicate_succ, Array.replicate_zero, List.push_toArray, List.append_toArray, List.nil_append, List.cons_append]
  refine wpIn_wide.2 ?_
  rcases Nat.lt_or_ge 1500 n with hn | hn
  · have hnn : (1500 : Int) < (n : Int) := by omega
    go_wp2_with fail
    generalize (World.alloc _ _) = w2 at hst ⊢
    have HST := Lib.hid hst
    clear hst
    refine (works_c _).mono ?_; rintro e w1 ⟨rfl, hb⟩
    have HB1 := Lib.hid (HST.out.2.2.1.trans (hb.mono HST.out.2.2.1.size))
    have HR1 := Lib.hid (boxed_below HST.out.2.1 hb HST.out.2.1.lt)
    have hc := HR1.out.cell
    have hf := HR1.out.frozen
    clear hb
    go_wp2_with fail
    have hR : (w1.setCell ⟨w.heap.size + 1, 0, none⟩ (.bool true)).cell? ⟨w.heap.size + 1, 0, none⟩ = some (.bool true) := (Boxed.set (.bool true) HR1.out).cell
    have hB : Below w.heap.size w (w1.setCell ⟨w.heap.size + 1, 0, none⟩ (.bool true)) := HB1.out.setCell (by simp) _
    generalize World.setCell _ _ _ = V' at hR hB ⊢
    clear hc hf
    exact ⟨.bool true, by simp [results, Try.results6, go_sem, hR], rfl, hB⟩
  · have hnn : ¬ ((n : Int) > 1500) := by omega
    go_wp2_with fail
    generalize (World.alloc _ _) = w2 at hst ⊢
    have HST := Lib.hid hst
    clear hst
    refine (rframes_c a n c l _ (HY.out.below HST.out.2.2.1) (by omega) hc).mono ?_
    rintro e w3 ⟨u, fs, rfl, hf⟩
    obtain ⟨au, cu, rfl, hcu, -⟩ := hf.row.at_
    have HF := Lib.hid hf
    have HM3 := Lib.hid (boxed_below HST.out.1 hf.bel HST.out.1.lt)
    have HR3 := Lib.hid (boxed_below HST.out.2.1 hf.bel HST.out.2.1.lt)
    have HB3 := Lib.hid (HST.out.2.2.1.trans (hf.bel.mono HST.out.2.2.1.size))
    have hlo : w.heap.size ≤ w2.heap.size := HST.out.2.2.1.size
    clear hf
    have hal := (Below.refl w3.heap.size w3).alloc (Nat.le_refl _) (.cells #[.slice au fs.length cu] 67)
    have HA3 := Lib.hid hal
    have HW3 := Lib.hid (Boxed.new w3 67 (.slice au fs.length cu))
    have HY4 : Hid (Bys (w3.alloc (.cells #[.slice au fs.length cu] 67)) a n l) := Lib.hid (HY.out.below (HB3.out.trans (hal.mono HB3.out.size)))
    have HE4 : Hid (OwnB ((w3.alloc (.cells #[.slice au fs.length cu] 67)).alloc (.cells #[] 5)) (w3.heap.size + 1) (.slice (some ⟨w3.heap.size + 1, 0, none⟩) 0 0) []) := Lib.hid (by have := own_empty (w3.alloc (.cells #[.slice au fs.length cu] 67)); simpa using this)
    clear hal
    go_wp2_with (at_builtin; refine wpl_append_bys rfl _ _ rfl (w3.heap.size + 1) (.slice (some ⟨w3.heap.size + 1, 0, none⟩) 0 0) [] rfl HE4.out a n c l rfl (HY4.out.below ((Below.refl _ _).alloc (Nat.le_refl _) _)) ?c1 ?c2 ?_)
    case c1 => first | omega | (simp; omega) | simp
    case c2 => first | simp | omega
    intro vm w5 hown hg _
    have HB5 := Lib.hid (((Below.refl (w3.alloc (.cells #[.slice au fs.length cu] 67)).heap.size (w3.alloc (.cells #[.slice au fs.length cu] 67))).alloc (Nat.le_refl _) (.cells #[] 5)).grown hg (by simp) (fun k e => by simp [Value.ownBlock] at e; simp; omega))
    clear hg
    have hown : OwnB w5 (w3.heap.size + 1) vm l := hown
    obtain ⟨am, cm, rfl, hcm, hym⟩ := hown.bys
    have hln : l.length = n := HY.out.1
    rw [hln] at hown hcm hym ⊢
    have HO5 := Lib.hid hown; have HYM := Lib.hid hym
    clear hown hym
    go_wp2_with fail
    refine (frames_c am n cm l _ HYM.out (by omega)).mono ?_
    rintro e w6 ⟨A, C, rfl, hit, hb⟩
    have hz5 : w3.heap.size < w5.heap.size := by have := HB5.out.size; simp at this; omega
    have HV6 : Hid (WSt w w6 w3.heap.size w5.heap.size many (.slice au fs.length cu) fs (.slice am n cm) A C n l) := Lib.hid (by
      have hA := HA3.out
      have h35 : Below w3.heap.size w3 w5 := hA.trans (HB5.out.mono (by simp))
      have h36 : Below w3.heap.size w3 w6 := h35.trans (hb.mono (by omega))
      have h46 : Below (w3.alloc (.cells #[.slice au fs.length cu] 67)).heap.size (w3.alloc (.cells #[.slice au fs.length cu] 67)) w6 := HB5.out.trans (hb.mono (by have := HB5.out.size; omega))
      exact ⟨HB3.out.trans (h36.mono HB3.out.size), boxed_below HM3.out h36 HM3.out.lt, boxed_below HR3.out h36 HR3.out.lt, boxed_below HW3.out h46 HW3.out.lt, (ownF_low HF.out.row hlo).below h36, HF.out.bod.below h36, OwnB.below (w := w5) (own_low HO5.out (by have := HB3.out.size; omega)) hb, hit⟩)
    clear hit hb HB5 HO5 HYM HF HM3 HR3 HB3 HW3 HA3 HY4 HST
    obtain ⟨B5, hB5⟩ : ∃ B, B = w3.heap.size := ⟨_, rfl⟩
    obtain ⟨Bb, hBb⟩ : ∃ B, B = w5.heap.size := ⟨_, rfl⟩
    rw [← hB5, ← hBb] at HV6
    rw [← hBb, ← hB5]
    clear hB5 hBb hz5 hlo
    go_wp2_with fail
    obtain ⟨BT, hBT⟩ : ∃ M, M = w6.heap.size := ⟨_, rfl⟩
    have bT := Boxed.new w6 3 (.int .i64 0)
    have hb10 := (Below.refl w6.heap.size w6).alloc (Nat.le_refl _) (.cells #[.int .i64 0] 3)
    have HV0 := Lib.hid (HV6.out.below hb10)
    have HPL : Hid ((partsB l).length ≤ 1500) := Lib.hid (by have := partsB_len l; have := HV6.out.it.own.bysP.2; omega)
    rw [← hBT] at bT ⊢
    clear hBT hb10 HV6
    generalize w6.alloc (.cells #[.int .i64 0] 3) = Z at bT HV0 ⊢
    have HT := Lib.hid bT
    clear bT
    refine (wpIn_wide (n := 5)).1 ?_
    refine wpIn_loop_rounds 3 ?_
    rw [roundsIn_succ]
    have hc := HT.out.cell
    have hnf := fun W => run_eql_func_nil W 58 #[.pointer (some ⟨Bb, 0, none⟩)]
    gi_wp2_with fail
    clear hnf hc
    have bN := Boxed.new Z 3 (.int .i64 0)
    have hbN := (Below.refl Z.heap.size Z).alloc (Nat.le_refl _) (.cells #[.int .i64 0] 3)
    have HI := Lib.hid (HV0.out.below hbN).it
    have hzN : (Z.alloc (.cells #[.int .i64 0] 3)).heap.size = Z.heap.size + 1 := by simp
    generalize Z.alloc (.cells #[.int .i64 0] 3) = Z1 at bN hbN HI hzN ⊢
    have HZN := Lib.hid hzN
    clear hzN
    have hIB := HV0.out.it.box.lt
    refine range_gives2 (p := 31) (q := 32) (HI.out.gives (by omega)) rfl (enters_of Try.func58 (by kernel_rfl) rfl)
      (fun X hb => HI.out.below hb) (fun i hi => by rcases hi with rfl | hi; exact HI.out.box.lt; exact (HI.out.xb _ hi).2) (fun _ h => h.elim)
      (fun i => i = Z.heap.size) (fun i hi => by
        subst hi
        refine ⟨by have := HZN.out; omega, fun e => ?_⟩
        rcases e with e | e
        · omega
        · have := (HV0.out.it.xb _ e).2; omega)
      10 11
      (fun k X => Boxed X Z.heap.size 3 (.int .i64 (k : Int)) ∧ Below Z.heap.size Z X ∧ k ≤ (partsB l).length ∧ (k = 0 ∨ (k : Int) < many))
      (fun c k X => c = .exit 2 ∧ (k : Int) = max 1 many ∧ k ≤ (partsB l).length ∧ Boxed X Z.heap.size 3 (.int .i64 (k : Int)) ∧ Below Z.heap.size Z X)
      (fun k X Y ht h => ⟨ht.boxed h.1 (fun e => by rcases e with e | e; exact e; (have := HZN.out; omega)), below_tch h.2.1 ht (by have := HZN.out; omega), h.2.2⟩)
      (fun c k X Y ht h => ⟨h.1, h.2.1, h.2.2.1, ht.boxed h.2.2.2.1 (fun e => by rcases e with e | e; exact e; (have := HZN.out; omega)), below_tch h.2.2.2.2 ht (by have := HZN.out; omega)⟩)
      ⟨bN, hbN, Nat.zero_le _, .inl rfl⟩ ?assign ?body ?done ?stop
    case assign =>
      intro l1 v u X K hK
      simp only [List.setIfInBounds_toArray, List.set_cons_zero, List.set_cons_succ] at hK ⊢
      gi_wp2
      exact hK
    case body =>
      intro l1 k d lx mx av cv W hmx hzW hI hx hown
      simp only [List.setIfInBounds_toArray, List.set_cons_zero, List.set_cons_succ]
      obtain ⟨hn1, hb, hI2⟩ := hI
      have HVW := Lib.hid (HV0.out.below hb)
      have HTW := Lib.hid (boxed_below HT.out hb HT.out.lt)
      have hcn := hn1.cell
      have hfn := hn1.frozen
      have hct := HTW.out.cell
      have hcw := HVW.out.bw.cell
      have hcm := HVW.out.bm.cell
      have hkp := (List.getElem?_eq_some_iff.1 hx).1
      have hfp := HVW.out.bod.1
      obtain ⟨f, hf⟩ : ∃ f, fs[k]? = some f := ⟨fs[k]'(by omega), List.getElem?_eq_getElem _⟩
      obtain ⟨e1, ab, cb, e2, hyb, -⟩ := HVW.out.bod.2 k f (d, lx) hf hx
      obtain ⟨a9, c9, e9, -, hat⟩ := HVW.out.row.at_
      obtain ⟨gu, e8, hc0, hc1⟩ := hat k f hf
      injection e9 with e9 _ _
      rw [← e9] at e8
      subst e8
      simp only at e1 e2 hyb
      rw [e1] at hc0
      rw [e2] at hc1
      rw [← hmx] at hc1 hyb
      have hyx := hown.bysP.1
      have s1 : ∀ n, (convert 22 9 (.slice av mx cv)).run Try.prog (W.drewN n) = .ok (.string (strOf lx)) (W.drewN n) := fun n => run_str (W.drewN n) av mx cv lx hyx
      have s2 : ∀ n, (convert 22 9 (.slice ab mx cb)).run Try.prog (W.drewN n) = .ok (.string (strOf lx)) (W.drewN n) := fun n => run_str (W.drewN n) ab mx cb lx hyb
      have q1 : decide (fs.length ≤ k) = false := by simp; omega
      have q2 : (k : Int) < (fs.length : Int) := by omega
      have HN1 := Lib.hid hn1; have HB := Lib.hid hb; have HI2 := Lib.hid hI2; have HOX := Lib.hid hown; have HX := Lib.hid hx; have HMX := Lib.hid hmx; have HFP := Lib.hid hfp
      clear hn1 hb hI2 hown hx hmx hfp hkp hf hat hyx hyb e1 e2 e9
      gi_wp2_with fail
      refine region_quiet_round rfl (by kernel_rfl) (by kernel_rfl) (by kernel_rfl) ?_
      repeat (gi_big_quiet_step (fail))
      refine wpQuietIn_nil ?_
      intro W2 hw'
      have hT2 : Tch (fun i => XB av i) W W2 := by obtain ⟨nq, rfl⟩ := hw'; exact ⟨rfl, rfl, rfl, Nat.le_refl _, fun _ _ _ => rfl⟩
      have hO2 : OwnB W2 (Z1.heap.size + 2) (.slice av mx cv) lx := by obtain ⟨nq, rfl⟩ := hw'; exact HOX.out
      have HT2 := Lib.hid hT2; have HO2 := Lib.hid hO2
      clear hc0 hc1 s1 s2 hcn hfn hct hcw hcm hT2 hO2 hw'
      gi_wp2_with fail
      gi_loopw [12] (fun iv wr => ∃ (i : Nat) (l' : List By), i ≤ mx ∧ iv = .int .i64 (i : Int) ∧ l'.length = mx ∧ OwnB wr (Z1.heap.size + 2) (.slice av mx cv) l' ∧ Tch (fun i => XB av i) W wr) (fun iv _ => mx - (intOf iv).toNat)
      case atStart => exact ⟨0, lx, Nat.zero_le _, rfl, HMX.out.symm, HO2.out, HT2.out⟩
      case round =>
      obtain ⟨i, l', hi, rfl, hl', ho', hT'⟩ := hrel
      have HO' := Lib.hid ho'; have HTn := Lib.hid hT'; have HL' := Lib.hid hl'
      clear ho' hT' hl'
      by_cases hlt : i < mx
      · have hmx9 : mx ≤ 9223372036854775807 := by have := own_max HO'.out; rw [HL'.out] at this; exact this
        obtain ⟨y, hy⟩ : ∃ y, l'[i]? = some y := ⟨l'[i]'(by rw [HL'.out]; exact hlt), List.getElem?_eq_getElem _⟩
        obtain ⟨gx, c3, e, _⟩ := HO'.out.here (by intro e; injection e with _ e _; omega)
        injection e with e _ _
        subst e
        obtain ⟨s1, s2⟩ := HO'.out.at_ hy
        have hyl := y.isLt
        have hput := HO'.out.put i (y + 1#8)
        have hyv : (((y + 1#8 : By)).toNat : Int) = ((y.toNat : Int) + 1) % 256 := by rw [BitVec.toNat_add]; simp
        rw [hyv] at hput
        have HP := Lib.hid hput
        clear hput hyv hy
        gi_wp2_with fail
        go_roundw
        case rel => exact ⟨i + 1, _, by omega, by go_num, by rw [List.length_set]; exact HL'.out, HP.out, HTn.out.setCell (.inl ⟨0, rfl⟩) _⟩
        case measure => simp [intOf]; omega
      obtain rfl : i = mx := by omega
      have hfar : ∀ i, XB av i → Z1.heap.size + 2 ≤ i := fun i ⟨off, e⟩ => (own_lt HOX.out i (by rw [e]; rfl)).1
      have hN : ¬ XB av Z.heap.size := fun e => by have := hfar _ e; have := HZN.out; omega
      have hn2 := HTn.out.boxed HN1.out hN
      have hB2 : Below Z.heap.size Z wr := HB.out.trans (HTn.out.below HB.out.size (fun i e => by have := hfar _ e; have := HZN.out; omega))
      have HVR := Lib.hid (HV0.out.below hB2)
      have HTR := Lib.hid (boxed_below HT.out hB2 HT.out.lt)
      have hcn := hn2.cell
      have hfn := hn2.frozen
      have hct := HTR.out.cell
      have hcm := HVR.out.bm.cell
      have hkl := HI2.out.1
      have hq1 : BT ≠ Z.heap.size := Nat.ne_of_lt HT.out.lt
      have hq2 : w.heap.size ≠ Z.heap.size := Nat.ne_of_lt HV0.out.bm.lt
      have hq3 : (k : Int) + 1 ≤ 9223372036854775807 := by have := HV0.out.it.own.bysP.2; have := parts_le l; have := HPL.out; omega
      have HN2 := Lib.hid (Boxed.set (.int .i64 ((k : Int) + 1)) hn2)
      have HB2 := Lib.hid hB2
      have HKP := Lib.hid (List.getElem?_eq_some_iff.1 HX.out).1
      have HTT := Lib.hid (((HTn.out).mono (S' := fun i => i = Z.heap.size ∨ XB av i) (fun i _ e => .inr e)).setCell (p := ⟨Z.heap.size, 0, none⟩) (.inl (.inl rfl)) (.int .i64 ((k : Int) + 1)))
      clear hn2 hB2 hfar hN HO' HTn HL' hkl
      by_cases h3 : many ≤ (k : Int) + 1
      · have h4 : (k : Int) + 1 = max 1 many := by
          rcases HI2.out.2 with h | h
          · subst h; simp at h3 ⊢; omega
          · omega
        have H4 := Lib.hid h4; clear h4
        gi_wp2_with fail
        refine ⟨by simpa using HTT.out, rfl, by simpa using H4.out, HKP.out, by simpa using HN2.out, HB2.out.setCell (Nat.le_refl _) _⟩
      · gi_wp2_with fail
        refine ⟨by simpa using HTT.out, by simpa using HN2.out, HB2.out.setCell (Nat.le_refl _) _, HKP.out, .inr ?_⟩
        simp; omega
    case' done =>
      intro D W hD hi hK
      obtain ⟨hn1, hb, -, hm⟩ := hi
      have HVW := Lib.hid (HV0.out.below hb)
      have HTW := Lib.hid (boxed_below HT.out hb HT.out.lt)
      have HK := Lib.hid hK
      have hfp := HVW.out.bod.1
      rw [← hfp] at hn1 hm
      have hcn := hn1.cell
      have hct := HTW.out.cell
      have hcw := HVW.out.bw.cell
      have hcm := HVW.out.bm.cell
      have HB := Lib.hid hb
      have HDZ := Lib.hid hD
      clear hb hK hn1 hD
      have hcs : (1 < many ∧ (fs.length : Int) ≤ many) ∨ (many ≤ 1 ∧ (fs.length : Int) ≤ 1) := by omega
      clear hm hfp
      rcases hcs with ⟨h1, h2⟩ | ⟨h1, h2⟩
      all_goals
        gi_wp2_with fail
        clear hcn hct hcw hcm h1 h2
    case' stop =>
      intro D c k W hD hk hi hK
      obtain ⟨rfl, hm, hkl, hn1, hb⟩ := hi
      have HVW := Lib.hid (HV0.out.below hb)
      have HTW := Lib.hid (boxed_below HT.out hb HT.out.lt)
      have HK := Lib.hid hK
      have hfp := HVW.out.bod.1
      rw [← hfp] at hkl
      have hcn := hn1.cell
      have hct := HTW.out.cell
      have hcw := HVW.out.bw.cell
      have hcm := HVW.out.bm.cell
      have HB := Lib.hid hb
      have HDZ := Lib.hid hD
      clear hb hK hn1 hD hk
      have hcs : (1 < many ∧ many < (fs.length : Int) ∧ (k : Int) = many) ∨ (1 < many ∧ (fs.length : Int) ≤ many ∧ (k : Int) = (fs.length : Int)) ∨ (many ≤ 1 ∧ 1 < (fs.length : Int) ∧ (k : Int) = 1) ∨ (many ≤ 1 ∧ (fs.length : Int) ≤ 1 ∧ (k : Int) = (fs.length : Int)) := by omega
      clear hm hkl hfp
      rcases hcs with ⟨h1, h2, e⟩ | ⟨h1, h2, e⟩ | ⟨h1, h2, e⟩ | ⟨h1, h2, e⟩
      all_goals
        rw [e] at hcn
        clear e
        gi_wp2_with fail
        clear hcn hct hcw hcm h1 h2

    all_goals
      have hDw : w.heap.size + 1 < D := by have h1 := HDZ.out; have h2 := HZN.out; have h3 := HV0.out.br.lt; omega
      have hDW : D < W.heap.size := (Array.getElem?_eq_some_iff.1 HK.out).1
      obtain ⟨BU, hBU⟩ : ∃ M, M = W.heap.size := ⟨_, rfl⟩
      have bT := Boxed.new W 3 (.int .i64 1)
      have hb2 := (Below.refl W.heap.size W).alloc (Nat.le_refl _) (.cells #[.int .i64 1] 3)
      have HV2 := Lib.hid (HVW.out.below hb2)
      have HD2 := Lib.hid ((hb2.block D hDW).trans HK.out)
      have HDw := Lib.hid hDw
      rw [← hBU] at bT ⊢
      clear hBU hb2 HVW HTW HK HB HT HV0 HZN HI hDw hDW HDZ hIB
      generalize W.alloc (.cells #[.int .i64 1] 3) = Y at bT HV2 HD2 ⊢
      have HT := Lib.hid bT
      clear bT
      rw [roundsIn_succ]
      have hc := HT.out.cell
      have hnf := fun W => run_eql_func_nil W 58 #[.pointer (some ⟨Bb, 0, none⟩)]
      gi_wp2_with fail
      clear hnf hc
      have bN := Boxed.new Y 3 (.int .i64 0)
      have hbN := (Below.refl Y.heap.size Y).alloc (Nat.le_refl _) (.cells #[.int .i64 0] 3)
      have HI := Lib.hid (HV2.out.below hbN).it
      have hzN : (Y.alloc (.cells #[.int .i64 0] 3)).heap.size = Y.heap.size + 1 := by simp
      generalize Y.alloc (.cells #[.int .i64 0] 3) = Z1 at bN hbN HI hzN ⊢
      have HZN := Lib.hid hzN
      clear hzN
      have hIB := HV2.out.it.box.lt
      refine range_gives2 (p := 31) (q := 32) (HI.out.gives (by omega)) rfl (enters_of Try.func58 (by kernel_rfl) rfl)
        (fun X hb => HI.out.below hb) (fun i hi => by rcases hi with rfl | hi; exact HI.out.box.lt; exact (HI.out.xb _ hi).2) (fun _ h => h.elim)
        (fun i => i = Y.heap.size) (fun i hi => by
          subst hi
          refine ⟨by have := HZN.out; omega, fun e => ?_⟩
          rcases e with e | e
          · omega
          · have := (HV2.out.it.xb _ e).2; omega)
        10 11
        (fun k X => Boxed X Y.heap.size 3 (.int .i64 (k : Int)) ∧ Below Y.heap.size Y X ∧ k ≤ (partsB l).length ∧ True)
        (fun c k X => False)
        (fun k X Y ht h => ⟨ht.boxed h.1 (fun e => by rcases e with e | e; exact e; (have := HZN.out; omega)), below_tch h.2.1 ht (by have := HZN.out; omega), h.2.2⟩)
        (fun c k X Y ht h => h)
        ⟨bN, hbN, Nat.zero_le _, trivial⟩ ?_ ?_ ?_ ?_
      · intro l1 v u X K hK
        simp only [List.setIfInBounds_toArray, List.set_cons_zero, List.set_cons_succ] at hK ⊢
        gi_wp2
        exact hK
      · intro l1 k d lx mx av cv W hmx hzW hI hx hown
        simp only [List.setIfInBounds_toArray, List.set_cons_zero, List.set_cons_succ]
        obtain ⟨hn1, hb, hI2⟩ := hI
        have HVW := Lib.hid (HV2.out.below hb)
        have HTW := Lib.hid (boxed_below HT.out hb HT.out.lt)
        have hcn := hn1.cell
        have hfn := hn1.frozen
        have hct := HTW.out.cell
        have hcw := HVW.out.bw.cell
        have hcm := HVW.out.bm.cell
        have hkp := (List.getElem?_eq_some_iff.1 hx).1
        have hfp := HVW.out.bod.1
        obtain ⟨f, hf⟩ : ∃ f, fs[k]? = some f := ⟨fs[k]'(by omega), List.getElem?_eq_getElem _⟩
        obtain ⟨e1, ab, cb, e2, hyb, -⟩ := HVW.out.bod.2 k f (d, lx) hf hx
        obtain ⟨a9, c9, e9, -, hat⟩ := HVW.out.row.at_
        obtain ⟨gu, e8, hc0, hc1⟩ := hat k f hf
        injection e9 with e9 _ _
        rw [← e9] at e8
        subst e8
        simp only at e1 e2 hyb
        rw [e1] at hc0
        rw [e2] at hc1
        rw [← hmx] at hc1 hyb
        have hyx := hown.bysP.1
        have s1 : ∀ n, (convert 22 9 (.slice av mx cv)).run Try.prog (W.drewN n) = .ok (.string (strOf lx)) (W.drewN n) := fun n => run_str (W.drewN n) av mx cv lx hyx
        have s2 : ∀ n, (convert 22 9 (.slice ab mx cb)).run Try.prog (W.drewN n) = .ok (.string (strOf lx)) (W.drewN n) := fun n => run_str (W.drewN n) ab mx cb lx hyb
        have q1 : decide (fs.length ≤ k) = false := by simp; omega
        have q2 : (k : Int) < (fs.length : Int) := by omega
        have HN1 := Lib.hid hn1; have HB := Lib.hid hb; have HI2 := Lib.hid hI2; have HOX := Lib.hid hown; have HX := Lib.hid hx; have HMX := Lib.hid hmx; have HFP := Lib.hid hfp
        clear hn1 hb hI2 hown hx hmx hfp hkp hf hat hyx hyb e1 e2 e9
        gi_wp2_with fail
        refine region_quiet_round rfl (by kernel_rfl) (by kernel_rfl) (by kernel_rfl) ?_
        repeat (gi_big_quiet_step (fail))
        refine wpQuietIn_nil ?_
        intro W2 hw'
        have hT2 : Tch (fun i => XB av i) W W2 := by obtain ⟨nq, rfl⟩ := hw'; exact ⟨rfl, rfl, rfl, Nat.le_refl _, fun _ _ _ => rfl⟩
        have hO2 : OwnB W2 (Z1.heap.size + 2) (.slice av mx cv) lx := by obtain ⟨nq, rfl⟩ := hw'; exact HOX.out
        have HT2 := Lib.hid hT2; have HO2 := Lib.hid hO2
        clear hc0 hc1 s1 s2 hcn hfn hct hcw hcm hT2 hO2 hw'
        gi_wp2_with fail
        gi_loopw [12] (fun iv wr => ∃ (i : Nat) (l' : List By), i ≤ mx ∧ iv = .int .i64 (i : Int) ∧ l'.length = mx ∧ OwnB wr (Z1.heap.size + 2) (.slice av mx cv) l' ∧ Tch (fun i => XB av i) W wr) (fun iv _ => mx - (intOf iv).toNat)
        case atStart => exact ⟨0, lx, Nat.zero_le _, rfl, HMX.out.symm, HO2.out, HT2.out⟩
        case round =>
        obtain ⟨i, l', hi, rfl, hl', ho', hT'⟩ := hrel
        have HO' := Lib.hid ho'; have HTn := Lib.hid hT'; have HL' := Lib.hid hl'
        clear ho' hT' hl'
        by_cases hlt : i < mx
        · have hmx9 : mx ≤ 9223372036854775807 := by have := own_max HO'.out; rw [HL'.out] at this; exact this
          obtain ⟨y, hy⟩ : ∃ y, l'[i]? = some y := ⟨l'[i]'(by rw [HL'.out]; exact hlt), List.getElem?_eq_getElem _⟩
          obtain ⟨gx, c3, e, _⟩ := HO'.out.here (by intro e; injection e with _ e _; omega)
          injection e with e _ _
          subst e
          obtain ⟨s1, s2⟩ := HO'.out.at_ hy
          have hyl := y.isLt
          have hput := HO'.out.put i (y + 1#8)
          have hyv : (((y + 1#8 : By)).toNat : Int) = ((y.toNat : Int) + 1) % 256 := by rw [BitVec.toNat_add]; simp
          rw [hyv] at hput
          have HP := Lib.hid hput
          clear hput hyv hy
          gi_wp2_with fail
          go_roundw
          case rel => exact ⟨i + 1, _, by omega, by go_num, by rw [List.length_set]; exact HL'.out, HP.out, HTn.out.setCell (.inl ⟨0, rfl⟩) _⟩
          case measure => simp [intOf]; omega
        obtain rfl : i = mx := by omega
        have hfar : ∀ i, XB av i → Z1.heap.size + 2 ≤ i := fun i ⟨off, e⟩ => (own_lt HOX.out i (by rw [e]; rfl)).1
        have hN : ¬ XB av Y.heap.size := fun e => by have := hfar _ e; have := HZN.out; omega
        have hn2 := HTn.out.boxed HN1.out hN
        have hB2 : Below Y.heap.size Y wr := HB.out.trans (HTn.out.below HB.out.size (fun i e => by have := hfar _ e; have := HZN.out; omega))
        have HVR := Lib.hid (HV2.out.below hB2)
        have HTR := Lib.hid (boxed_below HT.out hB2 HT.out.lt)
        have hcn := hn2.cell
        have hfn := hn2.frozen
        have hct := HTR.out.cell
        have hcm := HVR.out.bm.cell
        have hkl := HI2.out.1
        have hq1 : BU ≠ Y.heap.size := Nat.ne_of_lt HT.out.lt
        have hq2 : w.heap.size ≠ Y.heap.size := Nat.ne_of_lt HV2.out.bm.lt
        have hq3 : (k : Int) + 1 ≤ 9223372036854775807 := by have := HV2.out.it.own.bysP.2; have := parts_le l; have := HPL.out; omega
        have HN2 := Lib.hid (Boxed.set (.int .i64 ((k : Int) + 1)) hn2)
        have HB2 := Lib.hid hB2
        have HKP := Lib.hid (List.getElem?_eq_some_iff.1 HX.out).1
        have HTT := Lib.hid (((HTn.out).mono (S' := fun i => i = Y.heap.size ∨ XB av i) (fun i _ e => .inr e)).setCell (p := ⟨Y.heap.size, 0, none⟩) (.inl (.inl rfl)) (.int .i64 ((k : Int) + 1)))
        clear hn2 hB2 hfar hN HO' HTn HL' hkl
        gi_wp2_with fail
        exact ⟨by simpa using HTT.out, by simpa using HN2.out, HB2.out.setCell (Nat.le_refl _) _, HKP.out, trivial⟩
      · intro E W hE hi hK
        obtain ⟨hn1, hb, -⟩ := hi
        have HVW := Lib.hid (HV2.out.below hb)
        have HTW := Lib.hid (boxed_below HT.out hb HT.out.lt)
        have hDY : D < Y.heap.size := (Array.getElem?_eq_some_iff.1 HD2.out).1
        have HDW := Lib.hid ((hb.block D hDY).trans HD2.out)
        have HK := Lib.hid hK
        have HEw : Hid (D < E) := Lib.hid (by have := HZN.out; omega)
        have hfp := HVW.out.bod.1
        rw [← hfp] at hn1
        have hcn := hn1.cell
        have hct := HTW.out.cell
        have hcw := HVW.out.bw.cell
        clear hb hK hn1 hE hDY hfp
        gi_wp2_with fail
        clear hcn hct hcw
        have hb3 := (Below.refl W.heap.size W).alloc (Nat.le_refl _) (.cells #[.int .i64 2] 3)
        have hc : (W.alloc (.cells #[.int .i64 2] 3)).cell? ⟨W.heap.size, 0, none⟩ = some (.int .i64 2) := blk0 rfl
        have HV3 := Lib.hid (HVW.out.below hb3)
        have HD3 := Lib.hid ((hb3.block D ((Array.getElem?_eq_some_iff.1 HDW.out).1)).trans HDW.out)
        have HE3 := Lib.hid ((hb3.block E ((Array.getElem?_eq_some_iff.1 HK.out).1)).trans HK.out)
        clear hb3 HVW HTW HDW HK
        generalize W.alloc (.cells #[.int .i64 2] 3) = V at hc HV3 HD3 HE3 ⊢
        rw [roundsIn_succ]
        gi_wp2_with fail
        clear hc
        have s1 := run_str V am n cm l HV3.out.m.bysP.1
        have s2 := run_str V a n c l (HY.out.below HV3.out.bel)
        go_wp2_with fail
        refine (works_c _).mono ?_
        rintro e w' ⟨rfl, hb⟩
        have HVE := Lib.hid (HV3.out.below hb)
        have HDE := Lib.hid ((hb.block D ((Array.getElem?_eq_some_iff.1 HD3.out).1)).trans HD3.out)
        have HEE := Lib.hid ((hb.block E ((Array.getElem?_eq_some_iff.1 HE3.out).1)).trans HE3.out)
        clear hb s1 s2
        have hcr := HVE.out.br.cell
        have hfr := HVE.out.br.frozen
        go_wp2_with fail
        have hdw := HDw.out
        have hew := HEw.out
        have hF1 : (w'.setCell ⟨w.heap.size + 1, 0, none⟩ (.bool true)).heap[E]? = some (.deferred (some [])) := (Below.heap_setCell w' ⟨w.heap.size + 1, 0, none⟩ _ E (by simp; omega)).trans HEE.out
        have hF2 : ((w'.setCell ⟨w.heap.size + 1, 0, none⟩ (.bool true)).putObj E (.deferred none)).heap[D]? = some (.deferred (some [])) := (World.putObj_heap_other (by omega)).trans ((Below.heap_setCell w' ⟨w.heap.size + 1, 0, none⟩ _ D (by simp; omega)).trans HDE.out)
        have hR : (((w'.setCell ⟨w.heap.size + 1, 0, none⟩ (.bool true)).putObj E (.deferred none)).putObj D (.deferred none)).cell? ⟨w.heap.size + 1, 0, none⟩ = some (.bool true) := by
          have h1 := (Boxed.set (.bool true) HVE.out.br)
          have h2 : Boxed (((w'.setCell ⟨w.heap.size + 1, 0, none⟩ (.bool true)).putObj E (.deferred none)).putObj D (.deferred none)) (w.heap.size + 1) 4 (.bool true) := (World.putObj_heap_other (by omega)).trans ((World.putObj_heap_other (by omega)).trans h1)
          exact h2.cell
        have hB : Below w.heap.size w (((w'.setCell ⟨w.heap.size + 1, 0, none⟩ (.bool true)).putObj E (.deferred none)).putObj D (.deferred none)) := by
          have b1 := HVE.out.bel.setCell (p := ⟨w.heap.size + 1, 0, none⟩) (by simp) (.bool true)
          have b2 := b1.trans (belowK_b (w := w) (Nat.le_refl _) _ E _ (.deferred none) (by omega) hF1 rfl rfl)
          exact b2.trans (belowK_b (w := w) (Nat.le_refl _) _ D _ (.deferred none) (by omega) hF2 rfl rfl)
        refine ⟨by simp, .inl ⟨_, _, rfl, run_takeDeferred hF1, ?_⟩⟩
        refine ⟨by simp, .inl ⟨_, _, rfl, run_takeDeferred hF2, ?_⟩⟩
        generalize World.putObj _ D _ = V' at hR hB ⊢
        clear hF1 hF2
        exact ⟨.bool true, by simp [results, Try.results6, go_sem, hR], rfl, hB⟩
      · intro D c k W hD hp hi hK
        exact hi.elim

theorem stream_walk (a : Option Addr) (n c : Nat) (l : List By) (many : Int) (w : World) (hy : Bys w a n l ∧ n ≤ c) :
    Calls Try.prog 6 #[.slice a n c, .int .i64 many] w fun e w' => e = .returned (.bool true) ∧ Below w.heap.size w w' := callsIn_wide.1 (stream_in a n c l many w hy.1 hy.2)
end Go.Proofs.Ytnecoapbpicloaa
