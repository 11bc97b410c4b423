/- Contracts: the inner iterator over frames. -/
import Derived.Test.YtnecoapbpicloaaXp
namespace Go.Proofs.Ytnecoapbpicloaa
open Go.RowKit Go.Shelf
attribute [local go_sem] Oper.semAt_some
set_option linter.unusedSimpArgs false
set_option linter.unusedVariables false
set_option maxRecDepth 100000

theorem slice_lowP (g off n c i : Nat) (hin : i ≤ n) (hnc : n ≤ c) :
    ∃ off' C, (∀ W, (Instr.sliceAt 22 (.slice (some ⟨g, off, none⟩) n c) (some (.int .i64 (i : Int))) none none).run Try.prog W = .ok (.slice (some ⟨g, off', none⟩) (n - i) C) W) ∧ n - i ≤ C ∧ ∀ W l, Bys W (some ⟨g, off, none⟩) n l → Bys W (some ⟨g, off', none⟩) (n - i) (l.drop i) := by
  have q1 : ¬ (n : Int) < (i : Int) := by omega
  have q2 : (i : Int) ≤ n := by omega
  by_cases hic : c = i
  · obtain rfl : n = i := by omega
    subst hic
    refine ⟨off, c - c, fun W => ?_, by omega, fun W l h => ?_⟩
    · go_simp
    · refine ⟨by simp [h.1], fun k d hk => ?_⟩
      have := (List.getElem?_eq_some_iff.1 hk).1
      simp [h.1] at this
  · refine ⟨off + i, c - i, fun W => ?_, by omega, fun W l h => ?_⟩
    · have hcc : c - i ≠ 0 := by omega
      go_simp
      try simp [add_plain]
    · refine ⟨by simp [h.1], fun k d hk => ?_⟩
      rw [List.getElem?_drop] at hk
      obtain ⟨g', off', e, hg, hc⟩ := h.2 _ d hk
      injection e with e
      injection e with e1 e2
      subst e1; subst e2
      exact ⟨g, off + i, rfl, hg, by rw [Nat.add_assoc]; exact hc⟩
/-- How many bytes the slice in a box has. -/
def boxLen (W : World) (B : Nat) : Nat := match W.cell? ⟨B, 0, none⟩ with | some (.slice _ n _) => n | _ => 0
theorem boxLen_of {W : World} {B : Nat} {A : Option Addr} {n C : Nat} (h : Boxed W B 22 (.slice A n C)) : boxLen W B = n := by unfold boxLen; rw [h.cell]
theorem Tch.boxed {S : Nat → Prop} {w w' : World} {B : Nat} {t : TypeId} {v : Value} (h : Tch S w w') (hb : Boxed w B t v) (hB : ¬ S B) : Boxed w' B t v := (h.block B hb.lt hB).trans hb
theorem boxed_below {w w' : World} {N B : Nat} {t : TypeId} {v : Value} (hb : Boxed w B t v) (h : Below N w w') (hB : B < N) : Boxed w' B t v := (h.block B hB).trans hb
/-- What the inner iterator keeps in its rounds. -/
structure SpSt (W wr : World) (Bs : Nat) (a : Option Addr) (m C : Nat) (A : Option Addr) (rest : List By) : Prop where
  box : Boxed wr Bs 22 (.slice A m C)
  bys : Bys wr A m rest
  cap : m ≤ C
  far : ∀ g off, A = some ⟨g, off, none⟩ → XB a g ∧ (0 < m → g < W.heap.size)
  size : W.heap.size ≤ wr.heap.size

set_option maxHeartbeats 4000000 in
theorem split1_gives (Bs : Nat) (a : Option Addr) (n c : Nat) (l : List By) (hn : n ≤ 1000000) (hc : n ≤ c) (hne : ¬ XB a Bs) :
    Gives 67 #[.pointer (some ⟨Bs, 0, none⟩)] (givesB l) (fun W => Boxed W Bs 22 (.slice a n c) ∧ Bys W a n l) (fun i => i = Bs ∨ XB a i) (fun i => i = Bs) := by
  intro m0 l0 J Jx U W hIt hU hJ hJx hY h0
  obtain ⟨hbox, hby⟩ := hIt
  have hBs : Bs < W.heap.size := hbox.lt
  have HST : Hid (SpSt W W Bs a n c a l) := Lib.hid ⟨hbox, hby, hc, fun g off e => ⟨⟨off, e⟩, fun hp => by obtain ⟨g', off', e', hg', _⟩ := hby.cells hp; rw [e] at e'; injection e' with e'; injection e' with e1; omega⟩, Nat.le_refl _⟩
  have HJ := Lib.hid hJ; have HJX := Lib.hid hJx; have HY := Lib.hid hY; have HU := Lib.hid hU; have H0 := Lib.hid h0
  clear hJ hJx hY hU h0 hbox hby
  refine callsIn_of_wp Try.func67 rfl trivial ?_ rfl
  simp only [Try.ntmps67, List.size_toArray, List.length_cons, List.length_nil, Nat.reduceAdd, Nat.reduceSub, Array.replicate_succ, Array.replicate_zero, List.push_toArray, List.append_toArray, List.nil_append, List.cons_append]
  gi_wp2_with fail
  gi_loopw [] (fun wr => ∃ (k m C : Nat) (A : Option Addr) (rest : List By) (pre : List (Nat × List By)), m ≤ n ∧ givesB l = pre ++ givesB rest ∧ pre.length = k ∧ SpSt W wr Bs a m C A rest ∧ J k wr) (fun wr => boxLen wr Bs)
  case atStart => exact ⟨0, n, c, a, l, [], Nat.le_refl _, rfl, rfl, HST.out, H0.out⟩
  case round =>
  obtain ⟨k, m, C, A, rest, pre, hm, hgv, rfl, hst, hj⟩ := hrel
  have HG := Lib.hid hgv; have HST := Lib.hid hst; have HJK := Lib.hid hj
  clear hgv hst hj
  have hcb := HST.out.box.cell
  have hcb2 := HST.out.box.frozen
  gi_wp2_with fail
  refine ⟨trivial, fun h => (by simp [Fence.wide] at h), (callsIn_wide.2 (split_c A m C rest wr HST.out.bys (by omega) HST.out.cap)).mono ?_⟩
  rintro e w2 ⟨⟨ax, cx, rfl, hox⟩, hb⟩
  have HD : Hid (rest.length = m) := Lib.hid HST.out.bys.1
  have HLEN := Lib.hid (boxLen_of HST.out.box)
  have hbd := splitB_bound rest
  rw [HD.out] at hbd
  obtain ⟨lx, hlx⟩ : ∃ lx, lx = (splitB rest).1 := ⟨_, rfl⟩
  obtain ⟨d, hd⟩ : ∃ d, d = (splitB rest).2.1 := ⟨_, rfl⟩
  obtain ⟨no, hno⟩ : ∃ no, no = (splitB rest).2.2 := ⟨_, rfl⟩
  obtain ⟨mx, hmx⟩ : ∃ mx, mx = lx.length := ⟨_, rfl⟩
  rw [← hlx] at hox hbd ⊢
  rw [← hmx] at hox ⊢
  rw [← hd, ← hno] at hbd
  rw [← hd, ← hno]
  obtain ⟨hb1, hb2, hb3⟩ := hbd
  have HLX := Lib.hid hlx; have HK := Lib.hid hd; have HNO := Lib.hid hno; have HMX := Lib.hid hmx
  have HOX := Lib.hid (own_low hox HST.out.size : OwnB w2 W.heap.size (.slice ax mx cx) lx)
  have hz := HST.out.size
  have hz2 := hb.size
  have HST2 : Hid (SpSt W w2 Bs a m C A rest) := Lib.hid ⟨boxed_below HST.out.box hb HST.out.box.lt, HST.out.bys.below hb, HST.out.cap, HST.out.far, by omega⟩
  have HJ2 : Hid (J pre.length w2) := Lib.hid (HJ.out _ _ _ (Tch.bel (S := U) (hb.mono hz)) HJK.out)
  have HAX : Hid (∀ g, XB ax g → wr.heap.size ≤ g) := Lib.hid (fun g ⟨off, e⟩ => (own_lt hox g (by rw [e]; rfl)).1)
  clear hox hb hlx hd hno hmx HST hb2 HJK hcb hcb2 hb3
  by_cases h0 : no = 0
  · have HE : Hid ((givesB l)[pre.length]? = some (d, lx)) := Lib.hid (by
      rw [HG.out, List.getElem?_append_right (Nat.le_refl _), Nat.sub_self, HK.out, HLX.out]
      by_cases hd0 : (splitB rest).2.1 = 0
      · rw [givesB_stop (by rw [← HNO.out]; exact h0) hd0]; rfl
      · rw [givesB_more (by rw [← HNO.out]; exact h0) hd0]; rfl)
    have q0 : (no != 0) = false := by simp [h0]
    have hcy : ∃ fn tmps assign body, (Instr.yield l0 #[.int .i64 (d : Int), .slice ax mx cx]).run Try.prog w2 = .ok (.round l0 fn tmps assign body) w2 ∧ RoundIn Fence.wide (m0 - 1) Try.prog l0 fn tmps assign body w2 fun e W' =>
        (e = .returned (.bool true) ∧ J (pre.length + 1) W' ∧ Tch (fun i => U i ∨ XB ax i) w2 W') ∨ (e = .returned (.bool false) ∧ Jx (pre.length + 1) W' ∧ Tch (fun i => U i ∨ XB ax i) w2 W') := by
      rw [HMX.out] at HOX ⊢
      exact HY.out pre.length (d, lx) ax cx w2 HST2.out.size HJ2.out HE.out HOX.out (m0 - 1)
    obtain ⟨fn, tmps, assign, body, hy, hR⟩ := hcy
    have HR := Lib.hid hR; clear hR
    gi_wp2_with fail
    refine ⟨fun h => (by simp [Fence.wide] at h), HR.out.mono ?_⟩
    clear hy
    rintro e w3 (⟨rfl, hJ3, ht3⟩ | ⟨rfl, hJ3, -⟩)
    · have HJ3 := Lib.hid hJ3
      have HT3 := Lib.hid ht3
      have hBU : ¬ (U Bs ∨ XB ax Bs) := by
        rintro (e | e)
        · exact (HU.out _ e).2 (.inl rfl)
        · have := HAX.out _ e; omega
      have hbox3 := HT3.out.boxed HST2.out.box hBU
      have hby3 := Lib.hid (HT3.out.bys HST2.out.bys (fun g off e hm e2 => by
        obtain ⟨h1, h2⟩ := HST2.out.far g off e
        rcases e2 with e2 | e2
        · exact (HU.out _ e2).2 (.inr h1)
        · have := HAX.out _ e2; have := h2 hm; omega))
      have hz3 := HT3.out.size
      clear hJ3 ht3 hBU HR
      by_cases hd0 : d = 0
      · have HF : Hid ((givesB l).length = pre.length + 1) := Lib.hid (by rw [HG.out, givesB_stop (by rw [← HNO.out]; exact h0) (by rw [← HK.out]; exact hd0)]; simp)
        have q1 : ((d : Int) == 0) = true := by simp [hd0]
        clear hbox3 h0 hb1 hd0
        gi_wp2_with fail
        refine bodyPost_ret (results_none rfl _ _ _) rfl ?_
        exact ⟨⟨_, rfl⟩, .inl (by rw [HF.out]; exact HJ3.out)⟩
      · have q1 : ((d : Int) == 0) = false := by simp; omega
        obtain ⟨g, off, rfl, hg, -⟩ := HST2.out.bys.cells (by omega)
        obtain ⟨off', C', hrun, hC', hA'⟩ := slice_lowP g off m C d hb1 HST2.out.cap
        have HN : Hid (SpSt W (w3.setCell ⟨Bs, 0, none⟩ (.slice (some ⟨g, off', none⟩) (m - d) C')) Bs a (m - d) C' (some ⟨g, off', none⟩) (rest.drop d)) := Lib.hid (by
          have hgB : g ≠ Bs := fun e => hne (by have := (HST2.out.far g off rfl).1; rwa [e] at this)
          refine ⟨Boxed.set _ hbox3, ?_, hC', fun g2 off2 e => ?_, by simp; omega⟩
          · have hS := (Tch.refl (fun i => i = Bs) w3).setCell (p := ⟨Bs, 0, none⟩) (.inl rfl) (.slice (some ⟨g, off', none⟩) (m - d) C')
            exact hS.bys (hA' _ _ hby3.out) (fun g2 off2 e _ e2 => by injection e with e; injection e with e1 _; omega)
          · injection e with e
            injection e with e1 _
            subst e1
            obtain ⟨h1, h2⟩ := HST2.out.far g off rfl
            exact ⟨h1, fun h => h2 (by omega)⟩)
        have HJ4 : Hid (J (pre.length + 1) (w3.setCell ⟨Bs, 0, none⟩ (.slice (some ⟨g, off', none⟩) (m - d) C'))) := Lib.hid (HJ.out _ _ _ ((Tch.refl _ w3).setCell (p := ⟨Bs, 0, none⟩) (.inl (.inl rfl)) _) HJ3.out)
        have hc3 := hbox3.cell
        have hf3 := hbox3.frozen
        clear hbox3 hA' hg
        gi_wp2_with fail
        go_roundw
        case rel => exact ⟨pre.length + 1, m - d, C', _, rest.drop d, pre ++ [(d, lx)], by omega, by rw [HG.out, givesB_more (by rw [← HNO.out]; exact h0) (by rw [← HK.out]; exact hd0), ← HK.out, ← HLX.out]; simp, by simp, HN.out, HJ4.out⟩
        case measure => rw [boxLen_of HN.out.box, HLEN.out]; omega
    · have HJ3 := Lib.hid hJ3
      have HF : Hid (pre.length + 1 ≤ (givesB l).length) := Lib.hid (List.getElem?_eq_some_iff.1 HE.out).1
      clear hJ3 HR
      gi_wp2_with fail
      refine bodyPost_ret (results_none rfl _ _ _) rfl ?_
      exact ⟨⟨_, rfl⟩, .inr ⟨_, HF.out, HJ3.out⟩⟩
  · have q0 : (no != 0) = true := by simpa using h0
    have HE : Hid (givesB rest = []) := Lib.hid (givesB_err (by rw [← HNO.out]; exact h0))
    gi_wp2_with fail
    refine ⟨fun _ h => (by cases h), ?_⟩
    gi_wp2_with fail
    refine bodyPost_ret (results_none rfl _ _ _) rfl ?_
    exact ⟨⟨_, rfl⟩, .inl (by rw [HG.out, HE.out, List.append_nil]; exact HJ2.out)⟩
end Go.Proofs.Ytnecoapbpicloaa
