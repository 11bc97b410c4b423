/- Contracts: the iterator over frames. -/
import Derived.Test.YtnecoapbpicloaaXq
namespace Go.Proofs.Ytnecoapbpicloaa
open Go.RowKit Go.Shelf
attribute [local go_sem] Oper.semAt_some
set_option linter.unusedSimpArgs false
set_option linter.unusedVariables false
set_option maxRecDepth 100000

theorem split_f (a : Option Addr) (n c : Nat) (w : World) :
    Calls Try.prog 59 #[.slice a n c] w fun e w' => e = .returned (.func (.func 67) #[] #[.pointer (some ⟨w.heap.size, 0, none⟩)]) ∧ w' = w.alloc (.cells #[.slice a n c] 22) := by
  have hmf : ∀ (fn : Fn) (first cap : Array Value) (w : World), (Instr.makeFunc fn first cap).run Try.prog w = .ok (.func fn first cap) w := fun _ _ _ _ => rfl
  go_enter Try.func59, Try.ntmps59
  go_wp2_with fail
  go_ret
  exact ⟨rfl, rfl⟩

/-- What the outer iterator keeps in its rounds. -/
structure FrSt (W wr : World) (J : Nat → World → Prop) (Yb Ba l0 : Nat) (ps : List (Nat × List By)) (gs : List (Nat × List By)) (k : Nat) : Prop where
  yb : Boxed wr Yb 107 (.func (.yield l0) #[] #[])
  ab : Boxed wr Ba 3 (.int .i64 (atB gs k : Int))
  j : J k wr
  le : k ≤ ps.length
  size : W.heap.size ≤ wr.heap.size

set_option maxHeartbeats 4000000 in
theorem frames1_gives (Bb : Nat) (a : Option Addr) (n c : Nat) (l : List By) (hn : n ≤ 1000000) (hc : n ≤ c) (hne : ¬ XB a Bb) :
    Gives 58 #[.pointer (some ⟨Bb, 0, none⟩)] (partsB l) (fun W => Boxed W Bb 22 (.slice a n c) ∧ Bys W a n l ∧ ∀ g, XB a g → g < W.heap.size) (fun i => i = Bb ∨ XB a i) (fun _ => False) := by
  intro m0 l0 J Jx U W hIt hU hJ hJx hY h0
  obtain ⟨hbox, hby, hxb⟩ := hIt
  have HBX := Lib.hid hbox; have HBY := Lib.hid hby; have HXB := Lib.hid hxb
  have HJ := Lib.hid hJ; have HJX := Lib.hid hJx; have HY := Lib.hid hY; have HU := Lib.hid hU; have H0 := Lib.hid h0
  have hcb := hbox.cell
  have hnil : a = none → n = 0 := by
    intro e
    rcases Nat.eq_zero_or_pos n with h | h
    · exact h
    · obtain ⟨g, off, e', _⟩ := hby.cells h; rw [e] at e'; cases e'
  clear hJ hJx hY hU h0 hbox hby hxb
  refine callsIn_of_wp_marks Try.func58 rfl trivial ?_ rfl
  simp only [Try.ntmps58, List.size_toArray, List.length_cons, List.length_nil, Nat.reduceAdd, Nat.reduceSub, Array.replicate_succ, Array.replicate_zero, List.push_toArray, List.append_toArray, List.nil_append, List.cons_append]
  gi_wp2_with fail
  refine wpIn_wide.2 (wp_scope_straight ((wpIn_wide (n := m0)).1 ?_))
  gi_wp2_with fail
  refine wpIn_label ?_
  have hcb2 : ((W.alloc (.cells #[.func (.yield l0) #[] #[]] 107)).alloc (.cells #[.int .i64 0] 3)).cell? ⟨Bb, 0, none⟩ = some (.slice a n c) := cell_al (cell_al hcb _) _
  gi_wp2_with fail
  refine ⟨trivial, fun h => (by simp [Fence.wide] at h), (callsIn_wide.2 (split_f a n c _)).mono ?_⟩
  rintro e w3 ⟨rfl, rfl⟩
  clear hcb hcb2
  gi_wp2_with fail
  have hyb := ((Boxed.new W 107 (.func (.yield l0) #[] #[])).alloc (.cells #[.int .i64 0] 3)).alloc (.cells #[.slice a n c] 22)
  have hab := (Boxed.new (W.alloc (.cells #[.func (.yield l0) #[] #[]] 107)) 3 (.int .i64 0)).alloc (.cells #[.slice a n c] 22)
  have hsb := Boxed.new ((W.alloc (.cells #[.func (.yield l0) #[] #[]] 107)).alloc (.cells #[.int .i64 0] 3)) 22 (.slice a n c)
  have hbl : Below W.heap.size W (((W.alloc (.cells #[.func (.yield l0) #[] #[]] 107)).alloc (.cells #[.int .i64 0] 3)).alloc (.cells #[.slice a n c] 22)) := (((Below.refl _ W).alloc (Nat.le_refl _) _).alloc (by simp) _).alloc (by simp; omega) _
  have hz3 : (((W.alloc (.cells #[.func (.yield l0) #[] #[]] 107)).alloc (.cells #[.int .i64 0] 3)).alloc (.cells #[.slice a n c] 22)).heap.size = W.heap.size + 3 := by simp
  simp only [World.size_alloc] at hab hsb
  generalize ((W.alloc (.cells #[.func (.yield l0) #[] #[]] 107)).alloc (.cells #[.int .i64 0] 3)).alloc (.cells #[.slice a n c] 22) = w3 at hyb hab hsb hbl hz3 ⊢
  obtain ⟨Yb, hYb⟩ : ∃ Yb, Yb = W.heap.size := ⟨_, rfl⟩
  rw [← hYb] at hyb hab hsb hz3 ⊢
  obtain ⟨Ba, hBa⟩ : ∃ Ba, Ba = Yb + 1 := ⟨_, rfl⟩
  rw [← hBa] at hab hsb ⊢
  obtain ⟨Bs, hBs⟩ : ∃ Bs, Bs = Ba + 1 := ⟨_, rfl⟩
  rw [← hBs] at hsb ⊢
  have HFS : Hid (FrSt W w3 J Yb Ba l0 (partsB l) (givesB l) 0) := Lib.hid ⟨hyb, hab, HJ.out _ _ _ (Tch.bel (S := U) hbl) H0.out, Nat.zero_le _, by omega⟩
  have HBL := Lib.hid hbl; have HSB := Lib.hid hsb
  have HBs : ¬ XB a Bs := fun e => by have := HXB.out _ e; omega
  have hn1 : W.heap.size ≤ Yb := by omega
  have hn2 : Yb < Ba := by omega
  have hn3 : Ba < Bs := by omega
  have hn4 : Bs < w3.heap.size := by omega
  clear hyb hab hbl hsb H0 hYb hBa hBs hz3
  refine range_gives (p := 8) (q := 9) (split1_gives Bs a n c l hn hc HBs) rfl (enters_of Try.func67 (by kernel_rfl) rfl)
    (fun X hb => ⟨boxed_below HSB.out hb HSB.out.lt, HBY.out.below (HBL.out.trans (hb.mono HBL.out.size))⟩)
    (fun i hi => by rcases hi with rfl | hi; omega; (have := HXB.out _ hi; omega)) (fun i hi => by omega)
    (fun i => U i ∨ i = Ba) (fun i hi => by
      rcases hi with hi | rfl
      · have := HU.out _ hi
        refine ⟨by omega, fun e => ?_⟩
        rcases e with rfl | e
        · omega
        · exact this.2 (.inr e)
      · refine ⟨by omega, fun e => ?_⟩
        rcases e with e | e
        · omega
        · have := HXB.out _ e; omega)
    (fun k X => FrSt W X J Yb Ba l0 (partsB l) (givesB l) k)
    (fun c k X => c = .exit 0 ∧ (J (partsB l).length X ∨ ∃ k, k ≤ (partsB l).length ∧ Jx k X))
    (fun k X Y ht h => ⟨ht.boxed h.yb (by omega), ht.boxed h.ab (by omega), HJ.out _ _ _ (ht.mono (fun i _ e => .inr (by omega))) h.j, h.le, by have := h.size; have := ht.size; omega⟩)
    (fun c k X Y ht h => ⟨h.1, by
      rcases h.2 with h | ⟨j, hj, h⟩
      · exact .inl (HJ.out _ _ _ (ht.mono (fun i _ e => .inr (by omega))) h)
      · exact .inr ⟨j, hj, HJX.out _ _ _ (ht.mono (fun i _ e => .inr (by omega))) h⟩⟩)
    HFS.out
    (fun v u => { tmps := #[.func (.yield l0) #[] #[], .pointer (some ⟨Bb, 0, none⟩), .pointer (some ⟨Yb, 0, none⟩), .pointer (some ⟨Ba, 0, none⟩), v, u, .slice a n c, .func (.func 67) #[] #[.pointer (some ⟨Bs, 0, none⟩)], v, u, undef, undef, undef, undef, undef, undef, undef, undef, undef, undef, undef, undef], defers := [] })
    ?assign ?body ?done ?stop
  case assign =>
    intro l1 v u X K hK
    simp only [List.setIfInBounds_toArray, List.set_cons_zero, List.set_cons_succ] at hK ⊢
    gi_wp2
    exact hK
  case body =>
    intro l1 k x av cv X hzX hI hx hown
    obtain ⟨d, lx⟩ := x
    obtain ⟨mx, hmx⟩ : ∃ mx, mx = lx.length := ⟨_, rfl⟩
    simp only at hown ⊢
    rw [← hmx] at hown ⊢
    obtain ⟨atk, hatk⟩ : ∃ atk, atk = atB (givesB l) k := ⟨_, rfl⟩
    have HAT : Hid (atB (givesB l) (k + 1) = atk + d) := Lib.hid (by rw [hatk]; exact atB_succ hx)
    have hle := atB_le l (k + 1)
    rw [HAT.out, HBY.out.1] at hle
    have HI := Lib.hid hI
    have hca := hI.ab.cell
    have hfa := hI.ab.frozen
    have hcy := hI.yb.cell
    rw [← hatk] at hca
    have HMX := Lib.hid hmx; have HOWN := Lib.hid hown; have HATK := Lib.hid hatk; have HX := Lib.hid hx
    clear hI hown hmx hatk hx
    have hw1 : IntKind.i64.wrap ((atk : Int) + (d : Int)) = (atk : Int) + (d : Int) := by rw [IntKind.wrap_i64]; omega
    have hTc : ∀ v, Tch (fun i => U i ∨ i = Ba) X (X.setCell ⟨Ba, 0, none⟩ v) := fun v => (Tch.refl (fun i => U i ∨ i = Ba) X).setCell (p := ⟨Ba, 0, none⟩) (.inl (.inr rfl)) v
    have hJc : ∀ v, J k (X.setCell ⟨Ba, 0, none⟩ v) := fun v => HJ.out k _ _ ((Tch.refl _ X).setCell (p := ⟨Ba, 0, none⟩) (.inl (.inr (by simp; omega))) v) HI.out.j
    have hYc : ∀ v, (X.setCell ⟨Ba, 0, none⟩ v).cell? ⟨Yb, 0, none⟩ = some (.func (.yield l0) #[] #[]) := fun v => ((World.cell?_of_block (a := ⟨Yb, 0, none⟩) ((hTc v).block Yb HI.out.yb.lt (fun e => by rcases e with e | e; (have := HU.out _ e); omega; omega))).trans hcy)
    have HTC := Lib.hid hTc; have HJC := Lib.hid hJc
    clear hTc hJc
    by_cases hd : d = 0
    · have q1 : ((d : Int) == 0) = true := by simp [hd]
      have HPE : Hid ((partsB l).length = k) := Lib.hid (parts_end HX.out hd)
      clear hYc
      gi_wp2_with fail
      refine ⟨fun _ h => (by cases h), ?_⟩
      gi_wp2_with fail
      exact ⟨(HTC.out _).mono (fun i _ e => .inl e), rfl, .inl (by rw [HPE.out]; exact HJC.out _)⟩
    · have q1 : ((d : Int) == 0) = false := by simp; omega
      have HPA : Hid ((partsB l)[k]? = some (atk + d, lx)) := Lib.hid (by rw [← HAT.out]; exact parts_at HX.out hd)
      have hzX' : W.heap.size ≤ X.heap.size := by omega
      have hcyv : ∃ fn tmps assign body, (Instr.yield l0 #[.int .i64 ((atk : Int) + (d : Int)), .slice av mx cv]).run Try.prog (X.setCell ⟨Ba, 0, none⟩ (.int .i64 ((atk : Int) + (d : Int)))) = .ok (.round l0 fn tmps assign body) (X.setCell ⟨Ba, 0, none⟩ (.int .i64 ((atk : Int) + (d : Int)))) ∧ RoundIn Fence.wide (m0 - 1 - 1 - 1) Try.prog l0 fn tmps assign body (X.setCell ⟨Ba, 0, none⟩ (.int .i64 ((atk : Int) + (d : Int)))) fun e W' =>
          (e = .returned (.bool true) ∧ J (k + 1) W' ∧ Tch (fun i => U i ∨ XB av i) (X.setCell ⟨Ba, 0, none⟩ (.int .i64 ((atk : Int) + (d : Int)))) W') ∨ (e = .returned (.bool false) ∧ Jx (k + 1) W' ∧ Tch (fun i => U i ∨ XB av i) (X.setCell ⟨Ba, 0, none⟩ (.int .i64 ((atk : Int) + (d : Int)))) W') := by
        have ho2 : OwnB (X.setCell ⟨Ba, 0, none⟩ (.int .i64 ((atk : Int) + (d : Int)))) W.heap.size (.slice av mx cv) lx := own_low ((HTC.out _).own HOWN.out (fun i e e2 => by
          have := (own_lt HOWN.out i e).1
          rcases e2 with e2 | e2
          · have := HU.out _ e2; omega
          · omega)) (by omega)
        have h9 := HY.out k (atk + d, lx) av cv (X.setCell ⟨Ba, 0, none⟩ (.int .i64 ((atk : Int) + (d : Int)))) (by simp; omega) (HJC.out _) HPA.out (by rw [HMX.out] at ho2; exact ho2) (m0 - 1 - 1 - 1)
        simp only [← HMX.out] at h9
        rw [show ((atk + d : Nat) : Int) = (atk : Int) + (d : Int) from by omega] at h9
        exact h9
      obtain ⟨fn, tmps, assign, body, hy, hR⟩ := hcyv
      have HR := Lib.hid hR; clear hR
      have hYv := hYc (.int .i64 ((atk : Int) + (d : Int)))
      have hAv := (HI.out.ab.set (.int .i64 ((atk : Int) + (d : Int)))).cell
      have HYX := Lib.hid ((HTC.out (.int .i64 ((atk : Int) + (d : Int)))).boxed HI.out.yb (fun e => by rcases e with e | e; (have := HU.out _ e); omega; omega))
      have HAX := Lib.hid (HI.out.ab.set (.int .i64 ((atk : Int) + (d : Int))))
      have HFAR : Hid (∀ i, XB av i → w3.heap.size + 2 ≤ i) := Lib.hid (fun i ⟨off, e⟩ => (own_lt HOWN.out i (by rw [e]; rfl)).1)
      have HKL : Hid (k + 1 ≤ (partsB l).length) := Lib.hid (List.getElem?_eq_some_iff.1 HPA.out).1
      clear hYc
      gi_wp2_with fail
      refine ⟨fun h => (by simp [Fence.wide] at h), RoundIn.mono (F := Fence.wide.inRound l1) HR.out ?_⟩
      clear hy hYv hAv
      rintro e X3 (⟨rfl, hJ3, ht3⟩ | ⟨rfl, hJ3, ht3⟩)
      · have HJ3 := Lib.hid hJ3; have HT3 := Lib.hid ht3
        have HTT := Lib.hid (((HTC.out (.int .i64 ((atk : Int) + (d : Int)))).mono (S' := fun i => (U i ∨ i = Ba) ∨ XB av i) (fun i _ e => .inl e)).trans HT3.out (fun i _ e => by rcases e with e | e; exact .inl (.inl e); exact .inr e))
        clear hJ3 ht3 HR
        gi_wp2_with fail
        refine ⟨HTT.out, HT3.out.boxed HYX.out ?_, ?_, HJ3.out, HKL.out, ?_⟩
        · rintro (e | e)
          · have := HU.out _ e; omega
          · have := HFAR.out _ e; omega
        · rw [HAT.out]
          rw [show ((atk + d : Nat) : Int) = (atk : Int) + (d : Int) from by omega]
          refine HT3.out.boxed HAX.out ?_
          rintro (e | e)
          · have := HU.out _ e; omega
          · have := HFAR.out _ e; omega
        · have := HT3.out.size; simp at this; omega
      · have HJ3 := Lib.hid hJ3
        have HTT := Lib.hid (((HTC.out (.int .i64 ((atk : Int) + (d : Int)))).mono (S' := fun i => (U i ∨ i = Ba) ∨ XB av i) (fun i _ e => .inl e)).trans ht3 (fun i _ e => by rcases e with e | e; exact .inl (.inl e); exact .inr e))
        clear hJ3 ht3 HR
        gi_wp2_with fail
        exact ⟨HTT.out, rfl, .inr ⟨_, HKL.out, HJ3.out⟩⟩
  case done =>
    intro D X hD hI hK
    have hle : (partsB l).length = (givesB l).length := by have := hI.le; have := parts_le l; omega
    have hj := hI.j
    rw [← hle] at hj
    have HJ9 := Lib.hid (HJ.out _ _ _ ((Tch.refl _ X).putObj (r := D) (.inl (.inr (by omega))) (.deferred none)) hj); have HK := Lib.hid hK
    clear hI hj hK hle
    gi_wp2_with fail
    rw [Exit.noGoto_normal]
    gi_wp2_with fail
    refine ⟨by simp, .inl ⟨_, _, rfl, run_takeDeferred HK.out, ?_⟩⟩
    exact ⟨_, results_none rfl _ _ _, ⟨_, rfl⟩, .inl HJ9.out⟩
  case stop =>
    rintro D c k X hD hk ⟨rfl, hx⟩ hK
    have HX := Lib.hid hx; have HK := Lib.hid hK
    have hT := (Tch.refl (fun i => False ∨ W.heap.size ≤ i) X).putObj (r := D) (.inl (.inr (by omega))) (.deferred none)
    have HT := Lib.hid hT
    clear hx hK hT
    gi_wp2_with fail
    rw [Exit.noGoto_normal]
    gi_wp2_with fail
    refine ⟨by simp, .inl ⟨_, _, rfl, run_takeDeferred HK.out, ?_⟩⟩
    refine ⟨_, results_none rfl _ _ _, ⟨_, rfl⟩, ?_⟩
    rcases HX.out with h | ⟨j, hj, h⟩
    · exact .inl (HJ.out _ _ _ HT.out h)
    · exact .inr ⟨j, hj, HJX.out _ _ _ HT.out h⟩
end Go.Proofs.Ytnecoapbpicloaa
