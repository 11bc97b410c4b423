/- The walk of WireBent. -/
import Derived.Test.YtnecoapbpicloaaXv
import Derived.Deep.CutRange
namespace Go.Proofs.Ytnecoapbpicloaa
open Go.RowKit Go.Shelf
attribute [local go_sem] Oper.semAt_some
set_option linter.unusedSimpArgs false
set_option linter.unusedVariables false

set_option maxHeartbeats 8000000 in
set_option maxRecDepth 100000 in
theorem bent_in (a : Option Addr) (n c : Nat) (ss : List ByteArray) (at_ : Int) (to_ : By) (fewer : Int) (w : World) (hs : Strs w a n ss) (hmx : n ≤ maxLen) :
    CallsIn Fence.wide 5 Try.prog 7 #[.slice a n c, .int .i64 at_, .int .u8 (to_.toNat : Int), .int .i64 fewer] w fun e w' => e = .returned (.bool true) ∧ Below w.heap.size w w' := by
  have HS := Lib.hid hs; clear hs
  have hbx := Boxed.new w 4 (.bool false)
  have hbl := (Below.refl _ w).alloc (Nat.le_refl _) (.cells #[.bool false] 4)
  have hz2 : (w.alloc (.cells #[.bool false] 4)).heap.size = w.heap.size + 1 := by simp
  refine callsIn_of_wp_marks Try.func7 rfl trivial ?_ rfl
  simp only [Try.ntmps7, List.size_toArray, List.length_cons, List.length_nil, Nat.reduceAdd, Nat.reduceSub, Array.replicate_succ, Array.replicate_zero, List.push_toArray, List.append_toArray, List.nil_append, List.cons_append]
  refine wpIn_wide.2 ?_
  rcases Nat.lt_or_ge 8 n with hn | hn
  · have hnn : (8 : Int) < (n : Int) := by omega
    go_wp2_with fail
    generalize (World.alloc _ _) = w2 at hbx hbl hz2 ⊢
    have HBL := Lib.hid hbl; have HBX := Lib.hid hbx
    clear hbl hbx hz2
    refine (works_c _).mono ?_; rintro e w1 ⟨rfl, hb⟩
    have HB9 := Lib.hid (HBL.out.trans (hb.mono HBL.out.size))
    have HR9 := Lib.hid (boxed_below HBX.out hb HBX.out.lt)
    have hc9 := HR9.out.cell
    have hf9 := HR9.out.frozen
    clear hb
    go_wp2_with fail
    have hR : (w1.setCell ⟨w.heap.size, 0, none⟩ (.bool true)).cell? ⟨w.heap.size, 0, none⟩ = some (.bool true) := (Boxed.set (.bool true) HR9.out).cell
    have hB : Below w.heap.size w (w1.setCell ⟨w.heap.size, 0, none⟩ (.bool true)) := HB9.out.setCell (by simp) _
    generalize World.setCell _ _ _ = V' at hR hB ⊢
    clear hc9 hf9
    exact ⟨.bool true, by simp [results, Try.results7, go_sem, hR], rfl, hB⟩
  · have hnn : ¬ ((n : Int) > 8) := by omega
    go_wp2_with fail
    generalize (World.alloc _ _) = w2 at hbx hbl hz2 ⊢
    have HBL := Lib.hid hbl; have HBX := Lib.hid hbx
    have hwz : w.heap.size < w2.heap.size := by omega
    clear hbl hbx hz2
    go_loopw [9, 10] (fun bv iv wr => ∃ (k : Nat) (v : Value), k ≤ n ∧ iv = .int .i64 (k : Int) ∧ v = bv ∧ OwnB wr w2.heap.size v (jn (ss.take k)) ∧ Below w2.heap.size w2 wr ∧ (∀ (j : Nat) (s : ByteArray), ss[j]? = some s → j < k → s.size ≤ 100)) (fun _ iv _ => n - (intOf iv).toNat)
    case atStart => exact ⟨0, _, Nat.zero_le _, rfl, rfl, own_nil _ _, Below.refl _ _, fun j s _ h => by omega⟩
    case round =>
    obtain ⟨k, v, hk, rfl, rfl, hown, hb, hsz⟩ := hrel
    have HO := Lib.hid hown; have HB := Lib.hid hb; have HSZ := Lib.hid hsz
    have HBW := Lib.hid (HBL.out.trans (hb.mono HBL.out.size))
    have hzr := hb.size
    have HJL : Hid ((jn (ss.take k)).length ≤ 1000) := Lib.hid (by
      have h9 := jn_len (ss.take k) (fun j s hs => by
        have hj : j < k := by have := (List.getElem?_eq_some_iff.1 hs).1; rw [List.length_take] at this; omega
        exact hsz j s (by rw [List.getElem?_take_of_lt hj] at hs; exact hs) hj)
      rw [List.length_take] at h9
      have : min k ss.length ≤ 8 := by omega
      omega)
    clear hown hb hsz
    by_cases hlt : k < n
    · obtain ⟨s, hs⟩ : ∃ s, ss[k]? = some s := ⟨ss[k]'(by rw [HS.out.1]; exact hlt), List.getElem?_eq_getElem _⟩
      obtain ⟨ga, off, rfl, -⟩ := HS.out.2 k s hs
      have hcell := HS.out.at_ HBW.out hs
      have HSK := Lib.hid hs
      clear hs
      rcases Nat.lt_or_ge 100 s.size with h1 | h1
      · have q1 : (100 : Int) < (s.size : Int) := by omega
        have HBXr := Lib.hid (boxed_below HBX.out HB.out HBX.out.lt)
        go_wp2_with fail
        refine (works_c _).mono ?_; rintro e w1 ⟨rfl, hb⟩
        have HB9 := Lib.hid (HBW.out.trans (hb.mono HBW.out.size))
        have HR9 := Lib.hid (boxed_below HBXr.out hb HBXr.out.lt)
        have hc9 := HR9.out.cell
        have hf9 := HR9.out.frozen
        clear hb
        go_wp2_with fail
        have hR : (w1.setCell ⟨w.heap.size, 0, none⟩ (.bool true)).cell? ⟨w.heap.size, 0, none⟩ = some (.bool true) := (Boxed.set (.bool true) HR9.out).cell
        have hB : Below w.heap.size w (w1.setCell ⟨w.heap.size, 0, none⟩ (.bool true)) := HB9.out.setCell (by simp) _
        generalize World.setCell _ _ _ = V' at hR hB ⊢
        clear hc9 hf9
        exact ⟨.bool true, by simp [results, Try.results7, go_sem, hR], rfl, hB⟩
      · have q1 : ¬ (100 : Int) < (s.size : Int) := by omega
        go_wp2_with (refine wpl_conv_bytes rfl (.tmp 42) rfl s rfl ?_; intro c2 w3 hy3 hb3 hz3 hc3; have HY3 := Lib.hid hy3; have HB3 := Lib.hid hb3; clear hy3 hb3)
        refine (rframe_c _ s.size c2 (strB s) w3 HY3.out (by omega)).mono ?_
        rintro e w4 ⟨vf, rfl, hof, hb4⟩
        obtain ⟨mf, hmf⟩ : ∃ mf, mf = (frameB (strB s)).length := ⟨_, rfl⟩
        obtain ⟨af, cf, rfl, hcf, hyf⟩ := hof.bys
        rw [← hmf] at hcf hyf ⊢
        have HML : Hid (mf ≤ 113) := Lib.hid (by have h3 := frame_len (l := strB s) (by rw [strB_len]; omega); rw [strB_len] at h3; omega)
        have HO4 := Lib.hid ((HO.out.below HB3.out).below hb4)
        have HYF := Lib.hid hyf
        have HB4 := Lib.hid (HB.out.trans ((HB3.out.mono hzr).trans (hb4.mono (by have := HB3.out.size; omega))))
        have hz4 : w2.heap.size ≤ w4.heap.size := HB4.out.size
        clear hof hyf hb4 hmf hcell
        go_wp2_with (at_builtin; refine wpl_append_bysM rfl _ _ rfl w2.heap.size _ _ rfl HO4.out af mf cf (frameB (strB s)) rfl HYF.out ?c1 ?c2 ?_)
        case c1 => have := HJL.out; have := HML.out; omega
        case c2 => exact hz4
        intro v5 w5 ho5 ht5 hm5 _
        have HO5 : Hid (OwnB w5 w2.heap.size v5 (jn (ss.take (k + 1)))) := Lib.hid (by rw [jn_snoc HSK.out]; exact ho5)
        have HB5 := Lib.hid (HB4.out.trans (ht5.below hz4 (fun i e => (own_lt HO4.out i e).1)))
        clear ho5 ht5 hm5
        go_wp2_with fail
        go_roundw
        case rel => exact ⟨k + 1, v5, by omega, by go_num, rfl, HO5.out, HB5.out, fun j s' hs' hj => by
          rcases Nat.lt_or_ge j k with h | h
          · exact HSZ.out j s' hs' h
          · obtain rfl : j = k := by omega
            rw [HSK.out] at hs'
            injection hs' with hs'
            subst hs'
            exact h1⟩
        case measure => simp [intOf]; omega
    obtain rfl : k = n := by omega
    have hst : ss.take k = ss := List.take_of_length_le (by rw [HS.out.1]; exact Nat.le_refl _)
    rw [hst] at HO HJL
    obtain ⟨L, hL⟩ : ∃ L, L = jn ss := ⟨_, rfl⟩
    rw [← hL] at HO HJL
    obtain ⟨av, cv, rfl, hcv, hyv⟩ := HO.out.bys
    obtain ⟨nb, hnb⟩ : ∃ nb, nb = L.length := ⟨_, rfl⟩
    have HO1 : Hid (OwnB wr w2.heap.size (.slice av nb cv) L) := Lib.hid (by rw [hnb]; exact HO.out)
    have hcv2 : nb ≤ cv := by omega
    have HNB := Lib.hid hnb
    have hnb1 : nb ≤ 1000 := by have := HJL.out; omega
    have HBXr := Lib.hid (boxed_below HBX.out HB.out HBX.out.lt)
    rw [← hnb]
    clear hyv hcv HO hst hL hnb HSZ HB
    go_upto_region 10 with (fail)
    go_cut [53] from 21 to 143 (fun tv wx => wx = wr ∧ ∃ t : Bool, tv = .bool t ∧ (t = true ↔ (0 ≤ at_ ∧ at_ < (nb : Int))))
    case first =>
      by_cases h1 : 0 ≤ at_
      · by_cases h2 : at_ < (nb : Int)
        · have q1 : decide ((0 : Int) ≤ at_) = true := by simp; omega
          go_wp2_with fail
          all_goals (go_meet; case rel => exact ⟨rfl, _, rfl, by simp; omega⟩)
        · have q1 : decide ((0 : Int) ≤ at_) = true := by simp; omega
          go_wp2_with fail
          all_goals (go_meet; case rel => exact ⟨rfl, _, rfl, by simp; omega⟩)
      · have q1 : decide ((0 : Int) ≤ at_) = false := by simp; omega
        go_wp2_with fail
        all_goals (go_meet; case rel => exact ⟨rfl, _, rfl, by simp; omega⟩)
    case rest =>
    obtain ⟨rfl, t, rfl, ht⟩ := hcut
    go_upto_if 53 with (fail)
    go_cut [9] from 21 to 143 (fun bv wx => ∃ L2, bv = .slice av nb cv ∧ OwnB wx w2.heap.size (.slice av nb cv) L2 ∧ L2.length = nb ∧ Tch (fun i => w2.heap.size ≤ i) wc wx)
    case first =>
      by_cases hat : 0 ≤ at_ ∧ at_ < (nb : Int)
      · obtain ⟨ka, rfl⟩ : ∃ ka : Nat, at_ = (ka : Int) := ⟨at_.toNat, by omega⟩
        obtain ⟨x0, hx0⟩ : ∃ x, L[ka]? = some x := ⟨L[ka]'(by have := HNB.out; omega), List.getElem?_eq_getElem _⟩
        obtain ⟨gx, c3, e, _⟩ := HO1.out.here (by intro e; injection e with _ e _; omega)
        injection e with e e2 e3
        subst e; subst e3; clear e2
        obtain ⟨s1, s2⟩ := HO1.out.at_ hx0
        have hput := HO1.out.put ka to_
        have HT := Lib.hid ((Tch.refl (fun i => w2.heap.size ≤ i) wc).setCell (p := ⟨gx, ka, none⟩) (.inl HO1.out.base.1) (.int .u8 (to_.toNat : Int)))
        have HP := Lib.hid hput
        obtain rfl : t = true := ht.2 hat
        have q2 : (ka : Int) < (nb : Int) := hat.2
        clear hput hx0 hat ht
        go_wp2_with fail
        all_goals (go_meet; case rel => exact ⟨_, rfl, HP.out, by rw [List.length_set]; exact HNB.out.symm, HT.out⟩)
      · obtain rfl : t = false := by cases t; rfl; exact absurd (ht.1 rfl) hat
        go_wp2_with fail
        all_goals (go_meet; case rel => exact ⟨L, rfl, HO1.out, HNB.out.symm, Tch.refl _ _⟩)
    case rest =>
    obtain ⟨L2, rfl, hO2, hL2, hT2⟩ := hcut
    have HO2 := Lib.hid hO2; have HL2 := Lib.hid hL2
    have HB2 := Lib.hid (HBW.out.trans (hT2.below HBW.out.size (fun i e => by omega)))
    have HBX2 := Lib.hid (hT2.boxed HBXr.out (by have := HBX.out.lt; omega))
    have hzx := hT2.size
    clear hO2 hL2 hT2 HO1 HBXr HBW ht
    go_upto_region 12 with (fail)
    go_cut [65] from 21 to 143 (fun tv wx => wx = wc ∧ ∃ t : Bool, tv = .bool t ∧ (t = true ↔ (0 < fewer ∧ fewer ≤ (nb : Int))))
    case first =>
      by_cases h1 : 0 < fewer
      · by_cases h2 : fewer ≤ (nb : Int)
        · have q1 : decide ((0 : Int) < fewer) = true := by simp; omega
          go_wp2_with fail
          all_goals (go_meet; case rel => exact ⟨rfl, _, rfl, by simp; omega⟩)
        · have q1 : decide ((0 : Int) < fewer) = true := by simp; omega
          go_wp2_with fail
          all_goals (go_meet; case rel => exact ⟨rfl, _, rfl, by simp; omega⟩)
      · have q1 : decide ((0 : Int) < fewer) = false := by simp; omega
        go_wp2_with fail
        all_goals (go_meet; case rel => exact ⟨rfl, _, rfl, by simp; omega⟩)
    case rest =>
    obtain ⟨rfl, t, rfl, ht⟩ := hcut
    go_upto_if 65 with (fail)
    go_cut [9] from 21 to 143 (fun bv wy => wy = wc ∧ ∃ m L3, bv = .slice av m cv ∧ OwnB wc w2.heap.size (.slice av m cv) L3 ∧ L3.length = m ∧ m ≤ nb)
    case first =>
      by_cases hf : 0 < fewer ∧ fewer ≤ (nb : Int)
      · obtain ⟨kf, rfl⟩ : ∃ kf : Nat, fewer = (kf : Int) := ⟨fewer.toNat, by omega⟩
        obtain ⟨gx, c3, e, _⟩ := HO2.out.here (by intro e; injection e with _ e _; omega)
        injection e with e e2 e3
        subst e; subst e3; clear e2
        have hsub : (nb : Int) - (kf : Int) = ((nb - kf : Nat) : Int) := by omega
        have hw : IntKind.i64.wrap ((nb : Int) - (kf : Int)) = ((nb - kf : Nat) : Int) := by rw [hsub, IntKind.wrap_i64]; omega
        have k1 : ¬ cv < nb - kf := by omega
        have k3 : ¬ (cv : Int) < ((nb - kf : Nat) : Int) := by omega
        obtain rfl : t = true := ht.2 hf
        have q2 : (kf : Int) ≤ (nb : Int) := hf.2
        have HT := Lib.hid (HO2.out.take HL2.out (nb - kf) (by omega))
        have HTL : Hid ((L2.take (nb - kf)).length = nb - kf) := Lib.hid (by rw [List.length_take, HL2.out]; omega)
        clear hf hsub ht
        go_wp2_with fail
        all_goals (go_meet; case rel => exact ⟨rfl, nb - kf, _, by first | rfl | simp, HT.out, HTL.out, by omega⟩)
      · obtain rfl : t = false := by cases t; rfl; exact absurd (ht.1 rfl) hf
        go_wp2_with fail
        all_goals (go_meet; case rel => exact ⟨rfl, nb, L2, rfl, HO2.out, HL2.out, Nat.le_refl _⟩)
    case rest =>
    obtain ⟨rfl, m, l, rfl, hO3, hL3, hm⟩ := hcut
    have HO3 := Lib.hid hO3; have HL3 := Lib.hid hL3
    have hmc : m ≤ cv := by omega
    clear hO3 hL3 HO2 HL2
    go_wp2_with fail
    refine (rframes_c av m cv l _ HO3.out.bysP.1 (by omega) hmc).mono ?_
    rintro e w3 ⟨u, fs, rfl, hf⟩
    obtain ⟨au, cu, rfl, hcu, -⟩ := hf.row.at_
    have HF := Lib.hid hf
    have HR3 := Lib.hid (boxed_below HBX2.out hf.bel HBX2.out.lt)
    have HB3 := Lib.hid (HB2.out.trans (hf.bel.mono HB2.out.size))
    have HO4 := Lib.hid (HO3.out.below hf.bel)
    have hlo : w.heap.size ≤ wc.heap.size := HB2.out.size
    clear hf
    have hal := ((Below.refl w3.heap.size w3).alloc (Nat.le_refl _) (.cells #[.slice au fs.length cu] 67)).alloc (by simp) (.cells #[.int .i64 0] 3)
    have HA3 := Lib.hid hal
    have HW3 := Lib.hid ((Boxed.new w3 67 (.slice au fs.length cu)).alloc (.cells #[.int .i64 0] 3))
    have HN3 := Lib.hid (Boxed.new (w3.alloc (.cells #[.slice au fs.length cu] 67)) 3 (.int .i64 0))
    have hz5 : ((w3.alloc (.cells #[.slice au fs.length cu] 67)).alloc (.cells #[.int .i64 0] 3)).heap.size = w3.heap.size + 2 := by simp
    clear hal
    have hnf := fun W B => run_eql_func_nil W 58 #[.pointer (some ⟨B, 0, none⟩)]
    go_wp2_with fail
    generalize (World.alloc _ _) = w5 at HA3 HW3 HN3 hz5 ⊢
    refine (frames_c av m cv l _ (HO4.out.below HA3.out).bysP.1 (by omega)).mono ?_
    rintro e w6 ⟨A0, C0, rfl, hit, hb6⟩
    have HB6 := Lib.hid hb6
    clear hit hb6
    go_wp2_with fail
    refine (frames_c av m cv l _ ((HO4.out.below HA3.out).below HB6.out).bysP.1 (by omega)).mono ?_
    rintro e Z ⟨A, C, rfl, hit, hb7⟩
    clear hnf
    obtain ⟨N, hN⟩ : ∃ N, N = w3.heap.size + 1 := ⟨_, rfl⟩
    have HV : Hid (BSt w Z w.heap.size w3.heap.size w6.heap.size (.slice au fs.length cu) fs (.slice av m cv) A C m l) := Lib.hid (by
      have h36 : Below w3.heap.size w3 w6 := HA3.out.trans (HB6.out.mono (by omega))
      have h37 : Below w3.heap.size w3 Z := h36.trans (hb7.mono h36.size)
      have h57 : Below w5.heap.size w5 Z := HB6.out.trans (hb7.mono HB6.out.size)
      exact ⟨HB3.out.trans (h37.mono HB3.out.size), boxed_below HR3.out h37 HR3.out.lt, boxed_below HW3.out h57 HW3.out.lt, (ownF_low HF.out.row hlo).below h37, HF.out.bod.below h37, OwnB.below (w := w3) (own_low HO4.out (by omega)) h37, hit⟩)
    have HN0 : Hid (Boxed Z N 3 (.int .i64 0)) := Lib.hid (by
      have h57 : Below w5.heap.size w5 Z := HB6.out.trans (hb7.mono HB6.out.size)
      have := HN3.out
      rw [World.size_alloc, ← hN] at this
      exact boxed_below this h57 this.lt)
    have hwN : w.heap.size ≤ N := by have := HB3.out.size; omega
    have HML : Hid (m ≤ 1000) := Lib.hid (by omega)
    clear hit hb7 HB6 HA3 HW3 HN3 HF HR3 HB3 HO4 hz5 hlo HO3 HBX2
    rw [← hN]
    obtain ⟨B5, hB5⟩ : ∃ B, B = w3.heap.size := ⟨_, rfl⟩
    obtain ⟨Bb, hBb⟩ : ∃ B, B = w6.heap.size := ⟨_, rfl⟩
    rw [← hB5, ← hBb] at HV
    rw [← hBb, ← hB5]
    clear hB5 hBb hN
    go_wp2_with fail
    refine (wpIn_wide (n := 5)).1 ?_
    have hNZ := HN0.out.lt
    refine range_gives2 (p := 79) (q := 80) (HV.out.it.gives (by omega)) rfl (enters_of Try.func58 (by kernel_rfl) rfl)
      (fun X hb => HV.out.it.below hb) (fun i hi => by rcases hi with rfl | hi; exact HV.out.it.box.lt; exact (HV.out.it.xb _ hi).2) (fun _ h => h.elim)
      (fun i => i = N) (fun i hi => by
        subst hi
        refine ⟨hNZ, fun e => ?_⟩
        rcases e with e | ⟨off, e⟩
        · exact Boxed.ne HV.out.it.box HN0.out (by decide) e.symm
        · exact own_box HN0.out HV.out.it.own i (by rw [e]; rfl) rfl)
      13 14
      (fun k X => Boxed X N 3 (.int .i64 (k : Int)) ∧ Tch (fun i => i = N ∨ Z.heap.size ≤ i) Z X ∧ k ≤ (partsB l).length)
      (fun c k X => False)
      (fun k X Y ht h => ⟨ht.boxed h.1 (fun e => by rcases e with e | e; exact e; omega), h.2.1.trans ht (fun i _ e => by rcases e with e | e; exact e.elim; exact .inr e), h.2.2⟩)
      (fun c k X Y ht h => h)
      ⟨HN0.out, Tch.refl _ _, Nat.zero_le _⟩ ?assign ?body ?done ?stop
    case assign =>
      intro l1 v u X K hK
      simp only [List.setIfInBounds_toArray, List.set_cons_zero, List.set_cons_succ] at hK ⊢
      gi_wp2
      exact hK
    case body =>
      intro l1 k d lx mx av cv W hmx hzW hI hx hown
      simp only [List.setIfInBounds_toArray, List.set_cons_zero, List.set_cons_succ]
      obtain ⟨hn1, ht, hkl⟩ := hI
      have HVW := Lib.hid (HV.out.box HN0.out hwN ht)
      have hcn := hn1.cell
      have hfn := hn1.frozen
      have hcw := HVW.out.bw.cell
      have hkp := (List.getElem?_eq_some_iff.1 hx).1
      have hfp := HVW.out.bod.1
      obtain ⟨f, hf⟩ : ∃ f, fs[k]? = some f := ⟨fs[k]'(by omega), List.getElem?_eq_getElem _⟩
      obtain ⟨e1, ab, cb, e2, hyb, -⟩ := HVW.out.bod.2 k f (d, lx) hf hx
      obtain ⟨a9, c9, e9, -, hat⟩ := HVW.out.row.at_
      obtain ⟨gu, e8, hc0, hc1⟩ := hat k f hf
      injection e9 with e9 _ _
      rw [← e9] at e8
      subst e8
      simp only at e1 e2 hyb
      rw [e1] at hc0
      rw [e2] at hc1
      rw [← hmx] at hc1 hyb
      have hyx := hown.bysP.1
      have s1 : ∀ n, (convert 22 9 (.slice av mx cv)).run Try.prog (W.drewN n) = .ok (.string (strOf lx)) (W.drewN n) := fun n => run_str (W.drewN n) av mx cv lx hyx
      have s2 : ∀ n, (convert 22 9 (.slice ab mx cb)).run Try.prog (W.drewN n) = .ok (.string (strOf lx)) (W.drewN n) := fun n => run_str (W.drewN n) ab mx cb lx hyb
      have q1 : decide (fs.length ≤ k) = false := by simp; omega
      have q2 : (k : Int) < (fs.length : Int) := by omega
      have hq3 : (k : Int) + 1 ≤ 9223372036854775807 := by have := partsB_len l; have := HVW.out.m.bysP.2; have := HML.out; omega
      have HN1 := Lib.hid hn1; have HT1 := Lib.hid ht; have HKP := Lib.hid hkp
      clear hn1 ht hkl hown hx hmx hfp hkp hf hat hyx hyb e1 e2 e9
      gi_wp2_with fail
      refine region_quiet_round rfl (by kernel_rfl) (by kernel_rfl) (by kernel_rfl) ?_
      repeat (gi_big_quiet_step (fail))
      refine wpQuietIn_nil ?_
      intro W2 hw'
      have hT2 : Tch (fun i => i = N ∨ XB av i) W W2 := by obtain ⟨nq, rfl⟩ := hw'; exact ⟨rfl, rfl, rfl, Nat.le_refl _, fun _ _ _ => rfl⟩
      have hT3 : Tch (fun i => i = N ∨ Z.heap.size ≤ i) Z W2 := by obtain ⟨nq, rfl⟩ := hw'; exact ⟨HT1.out.os, HT1.out.tape, HT1.out.output, HT1.out.size, HT1.out.block⟩
      have hN2 : Boxed W2 N 3 (.int .i64 (k : Int)) := by obtain ⟨nq, rfl⟩ := hw'; exact HN1.out
      have HTa := Lib.hid (hT2.setCell (p := ⟨N, 0, none⟩) (.inl (.inl rfl)) (.int .i64 ((k : Int) + 1)))
      have HTb := Lib.hid (hT3.setCell (p := ⟨N, 0, none⟩) (.inl (.inl rfl)) (.int .i64 ((k : Int) + 1)))
      have HNb := Lib.hid (Boxed.set (.int .i64 ((k : Int) + 1)) hN2)
      have hcn := hN2.cell
      have hfn := hN2.frozen
      clear hc0 hc1 s1 s2 hcw hT2 hT3 hN2 hw'
      gi_wp2_with fail
      exact ⟨by simpa using HTa.out, by simpa using HNb.out, by simpa using HTb.out, HKP.out⟩
    case stop =>
      intro D c k W hD hp hi hK
      exact hi.elim
    case done =>
    intro D W hD hi hK
    obtain ⟨hn1, ht, -⟩ := hi
    have HVW := Lib.hid (HV.out.box HN0.out hwN ht)
    have HK := Lib.hid hK
    have hfp := HVW.out.bod.1
    rw [← hfp] at hn1
    have HN1 := Lib.hid hn1
    have hDw : w.heap.size < D := by have := HV.out.br.lt; omega
    clear hn1 ht hK hfp HN0 HV hD
    go_wp2_with fail
    refine (split_c av m cv l _ HVW.out.m.bysP.1 (by omega) hmc).mono ?_
    rintro e w4 ⟨⟨ax, cx, rfl, hox⟩, hb⟩
    obtain ⟨lx, hlx⟩ : ∃ lx, lx = (splitB l).1 := ⟨_, rfl⟩
    obtain ⟨k, hk⟩ : ∃ k, k = (splitB l).2.1 := ⟨_, rfl⟩
    obtain ⟨no, hno⟩ : ∃ no, no = (splitB l).2.2 := ⟨_, rfl⟩
    obtain ⟨mx, hmx⟩ : ∃ mx, mx = lx.length := ⟨_, rfl⟩
    rw [← hlx] at hox ⊢
    rw [← hmx] at hox ⊢
    rw [← hk, ← hno]
    have HLX := Lib.hid hlx; have HK9 := Lib.hid hk; have HNO := Lib.hid hno; have HMX := Lib.hid hmx
    have HOX := Lib.hid hox
    have HV4 := Lib.hid (HVW.out.below hb)
    have HN4 := Lib.hid (boxed_below HN1.out hb HN1.out.lt)
    have HD4 := Lib.hid ((hb.block D (Array.getElem?_eq_some_iff.1 HK.out).1).trans HK.out)
    clear hox hb hlx hk hno hmx HVW HN1 HK
    go_wp2_with fail
    refine (rsplit_c av m cv l _ HV4.out.m.bysP.1 (by omega) hmc).mono ?_
    rintro e w5 ⟨⟨aw, cw, rfl, how⟩, hb⟩
    rw [← HLX.out, ← HMX.out] at how ⊢
    rw [← HK9.out, ← HNO.out]
    have HV5 := Lib.hid (HV4.out.below hb)
    have HN5 := Lib.hid (boxed_below HN4.out hb HN4.out.lt)
    have HD5 := Lib.hid ((hb.block D (Array.getElem?_eq_some_iff.1 HD4.out).1).trans HD4.out)
    have s1 := run_str w5 ax mx cx lx (HOX.out.below hb).bysP.1
    have s2 := run_str w5 aw mx cw lx how.bysP.1
    have hcn := HN5.out.cell
    have hcw := HV5.out.bw.cell
    clear how hb HV4 HN4 HD4 HOX
    go_wp2_with fail
    refine (num_c _ _).mono ?_
    rintro e w' ⟨rfl, rfl⟩
    go_wp2_with fail
    refine (works_c _).mono ?_
    rintro e w' ⟨rfl, hb⟩
    have HVE := Lib.hid (HV5.out.below hb)
    have HDE := Lib.hid ((hb.block D ((Array.getElem?_eq_some_iff.1 HD5.out).1)).trans HD5.out)
    clear hb s1 s2 hcn hcw
    have hcr := HVE.out.br.cell
    have hfr := HVE.out.br.frozen
    go_wp2_with fail
    have hF2 : (w'.setCell ⟨w.heap.size, 0, none⟩ (.bool true)).heap[D]? = some (.deferred (some [])) := (Below.heap_setCell w' ⟨w.heap.size, 0, none⟩ _ D (by simp; omega)).trans HDE.out
    have hR : ((w'.setCell ⟨w.heap.size, 0, none⟩ (.bool true)).putObj D (.deferred none)).cell? ⟨w.heap.size, 0, none⟩ = some (.bool true) := by
      have h1 := (Boxed.set (.bool true) HVE.out.br)
      have h2 : Boxed ((w'.setCell ⟨w.heap.size, 0, none⟩ (.bool true)).putObj D (.deferred none)) w.heap.size 4 (.bool true) := (World.putObj_heap_other (by omega)).trans h1
      exact h2.cell
    have hB : Below w.heap.size w ((w'.setCell ⟨w.heap.size, 0, none⟩ (.bool true)).putObj D (.deferred none)) := by
      have b1 := HVE.out.bel.setCell (p := ⟨w.heap.size, 0, none⟩) (by simp) (.bool true)
      exact b1.trans (belowK_b (w := w) (Nat.le_refl _) _ D _ (.deferred none) (by omega) hF2 rfl rfl)
    refine ⟨by simp, .inl ⟨_, _, rfl, run_takeDeferred hF2, ?_⟩⟩
    generalize World.putObj _ D _ = V' at hR hB ⊢
    clear hF2
    exact ⟨.bool true, by simp [results, Try.results7, go_sem, hR], rfl, hB⟩
theorem bent_walk (a : Option Addr) (n c : Nat) (ss : List ByteArray) (at_ to_ fewer : Int) (w : World) (hs : Strs w a n ss ∧ n ≤ maxLen) (hw : (Lit.int .u8 to_).wf = true) :
    Calls Try.prog 7 #[.slice a n c, .int .i64 at_, .int .u8 to_, .int .i64 fewer] w fun e w' => e = .returned (.bool true) ∧ Below w.heap.size w w' := by
  obtain ⟨x, rfl⟩ := u8_bits hw
  exact callsIn_wide.1 (bent_in a n c ss at_ x fewer w hs.1 hs.2)
end Go.Proofs.Ytnecoapbpicloaa
