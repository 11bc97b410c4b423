/- The walk of SuspectPlays: a choir that may be. -/
import Derived.Test.YtgajbaipkhopkaaXl
namespace Go.Proofs.Ytgajbaipkhopkaa
open Go.RowKit
set_option linter.unusedSimpArgs false
set_option linter.unusedVariables false

theorem all_readyH_yes {P : Program} {ops : Array Oper} {Q : Exit → Act → World → Prop} {md : Region.Mode} {S : World → Prop} {fuel : Nat} {listed : Array Bool} {a : Act} {w : World} {i : Nat} {o : Oper} {rs : List Nat} (ho : ops[i]? = some o)
    (hw : Region.wanted o (yielded ops a.tmps) = true)
    (h : ∀ K' : Act → World → Prop, Shut (∀ a w, S w → (S w → wpAnyH P md ops Q S fuel (listed.setIfInBounds i true) a w) → K' a w) → Oper.wp P o a w K' Q)
    (hs : AllReadyH P md ops Q S fuel listed a w rs) : AllReadyH P md ops Q S fuel listed a w (i :: rs) :=
  AllReadyH.cons ho (fun K' hK => by rw [if_pos hw]; exact h K' hK) hs
theorem wpl_load_blk_g {P : Program} {ops : Array Oper} {rest : List Oper} {o : Oper} {a : Act} {w : World} {Q : Exit → Act → World → Prop} (ty : TypeId) (x : Operand) (ho : o.op = .load ty x)
    (g : Nat) (hw : Region.wanted o (yielded ops a.tmps) = true) (hx : a.eval x = .pointer (some ⟨g, 0, none⟩)) (t : TypeId) (cs : Array Value) (d : TypeDesc) (hg : Blk w g t cs)
    (hu : P.underlying ty = some d) (hd : (match d with | .struct _ | .array _ _ => true | _ => false) = true) (hi : (P.info? ty).map (·.size) = some cs.size)
    (h : wpList P ops Q rest (a.put o.dst (.agg cs)) w) : wpList P ops Q (o :: rest) a w :=
  BigFrame.wpList_want hw fun _ hK => wp_load_blk ty x ho g hx t cs d hg hu hd hi (hK _ _ h)
theorem cells_at {w W : World} (hb : Below w.heap.size w W) {ga off n k : Nat} {xs : List Ac} {x : Ac} (h : Acts w (some ⟨ga, off, none⟩) n xs) (hx : xs[k]? = some x) :
    W.cell? ⟨ga, off + k * 3, none⟩ = some (.bool x.hear) ∧ W.cell? ⟨ga, off + k * 3 + 1, none⟩ = some (.int .i64 x.place) ∧ W.cell? ⟨ga, off + k * 3 + 2, none⟩ = some (.int .i64 x.n) := by
  obtain ⟨g, o, e, hg, c0, c1, c2⟩ := h.2 k x hx
  injection e with e; injection e with e1 e2 _; subst e1; subst e2
  exact ⟨(hb.cell (p := ⟨ga, _, none⟩) hg).trans c0, (hb.cell (p := ⟨ga, _, none⟩) hg).trans c1, (hb.cell (p := ⟨ga, _, none⟩) hg).trans c2⟩

set_option maxHeartbeats 8000000 in
set_option maxRecDepth 100000 in
theorem plays_ok (c self wait : Int) (a : Option Addr) (n cap : Nat) (xs : List Ac) (w : World) (hn : n ≤ 50) (h : newOk c self wait = true) (ha : Acts w a n xs) :
    Calls Try.prog 6 #[.int .i64 c, .int .i64 self, .int .i64 wait, .slice a n cap] w fun e w' => e = .returned (.bool true) ∧ Below w.heap.size w w' := by
  have H := Lib.hid h; clear h
  have HA0 := Lib.hid ha; clear ha
  have HG := Lib.hid (good_new H.out)
  have hnn : ¬ ((n : Int) > 50) := by omega
  go_enter Try.func6, Try.ntmps6
  go_wp2_with fail
  refine (new_ok c self wait _ H.out).mono ?_
  rintro e w1 ⟨b, rfl, hbb, hW, hb⟩
  have HB1 := Lib.hid hb
  have HW1 := Lib.hid hW
  clear hb hW
  go_wp2_with fail
  refine (rnew_ok c self wait _ H.out).mono ?_
  rintro e w2 ⟨⟨cs, rfl, hc⟩, hb⟩
  have HC := Lib.hid hc
  have HW2 := Lib.hid (HW1.out.below hb HW1.out.lt)
  have HB2 := Lib.hid (HB1.out.trans (hb.mono HB1.out.size))
  clear hb hc HB1 HW1
  obtain ⟨s0, hs0⟩ : ∃ s, s = St.new c self wait c.toNat := ⟨_, rfl⟩
  rw [← hs0] at HG HC HW2
  clear hs0
  have hpi : (n : Int) % 2 = 1 ∨ (n : Int) % 2 = 0 := by omega
  rcases hpi with hp | hp
  · have hp' : ((n : Int) % 2 == 1) = true := by rw [hp]; rfl
    go_wp2_with (refine wpl_store_blk rfl 35 _ _ rfl w2.heap.size 35 _ cs rfl rfl (Blk.new w2 35 _) (by rw [HC.out.size]; rfl) HC.out.info HC.out.one ?_; intro w4 hB4 hO4 hz4)
    have hPw : PL w w4 b w2.heap.size s0 cs none := ⟨(HW2.out.below ((Below.refl w2.heap.size w2).alloc (Nat.le_refl _) _) HW2.out.lt).far2 hO4 (Nat.ne_of_lt HW2.out.lt), hB4, HB2.out.trans (((Below.refl w2.heap.size w2).alloc (Nat.le_refl _) _).trans (hO4.below (B := w2.heap.size) (by simp) (Nat.le_refl _)) |>.mono HB2.out.size), .inl rfl, hbb, HB2.out.size, Nat.ne_of_lt HW2.out.lt, fun g e => by cases e⟩
    have hz : w4.heap.size = w2.heap.size + 1 := by rw [hz4]; simp
    have hb2 := HW2.out.lt
    clear hB4 hO4 hz4
    have HNo := zero_none w4
    rw [hz] at HNo
    have HP5 : Hid (PL w (w4.alloc (.cells Z35 58)) b w2.heap.size s0 cs (some ⟨w2.heap.size + 1, 0, none⟩)) := Lib.hid (by
      have h1 := hPw.below ((Below.refl w4.heap.size w4).alloc (Nat.le_refl _) (.cells Z35 58))
      exact ⟨h1.isw, h1.blk, h1.bel, HNo, h1.bb, h1.gg, h1.ne, fun g e => by injection e with e; injection e with e; omega⟩)
    unfold Z35 at HP5
    clear HNo hPw
    generalize (w4.alloc _) = w5 at HP5 ⊢
    generalize hGd : w2.heap.size = G at HP5 ⊢
    refine (tick_nil _ 1 _ HP5.out.no).mono ?_; rintro e w' ⟨rfl, rfl⟩
    go_wp2_with fail
    refine (hear_nil _ 0 _ HP5.out.no).mono ?_; rintro e w' ⟨rfl, rfl⟩
    go_wp2_with fail
    refine (num_any _ _).mono ?_; rintro e w' ⟨rfl, rfl⟩
    go_wp2_with fail
    refine (num_any _ _).mono ?_; rintro e w' ⟨rfl, rfl⟩
    go_wp2_with fail
    refine (susp_none _ 0 _ HP5.out.no).mono ?_; rintro e w' ⟨rfl, rfl⟩
    go_wp2_with fail
    refine (all_any _ [] _ (goes_none HP5.out.no)).mono ?_; rintro e w6 ⟨a6, d6, rfl, -, hb⟩
    have HP6 := Lib.hid (HP5.out.below hb)
    clear hb
    rw [show (sus ([] : List Wd) ([] : List Wd).length).length = 0 from rfl]
    go_wp2_with fail
    refine (foremost_any _ [] _ (goes_none HP6.out.no)).mono ?_; rintro e w7 ⟨rfl, hb⟩
    have HP7 := Lib.hid (HP6.out.below hb)
    clear hb
    rw [show ((fmo (sus ([] : List Wd) ([] : List Wd).length) : Nat) : Int) = 0 from rfl]
    go_wp2_with fail
    refine (now_none _ _ HP7.out.no).mono ?_; rintro e w' ⟨rfl, rfl⟩
    go_wp2_with fail
    refine (state_none _ _ HP7.out.no).mono ?_; rintro e w' ⟨rfl, rfl⟩
    go_wp2_with fail
    refine (copy_none _ _ HP7.out.no).mono ?_; rintro e w' ⟨rfl, rfl⟩
    go_wp2_with fail
    refine (same_nones _ none _ HP7.out.no (.inl rfl)).mono ?_; rintro e w' ⟨rfl, rfl⟩
    go_wp2_with fail
    go_loopw [18] (fun i wr => ∃ (k : Nat) (cs' : Array Value), k ≤ n ∧ i = .int .i64 k ∧ PL w wr b G (after s0 xs k) cs' (some ⟨G + 1, 0, none⟩) ∧ RC cs' (after s0 xs k)) (fun i _ => n - (intOf i).toNat)
    case atStart => exact ⟨0, cs, Nat.zero_le _, rfl, HP7.out, HC.out⟩
    case round =>
      obtain ⟨k, cs', hk, rfl, hP, hC'⟩ := hrel
      have HPL := Lib.hid hP; have HC' := Lib.hid hC'
      clear hP hC'
      by_cases hlt : k < n
      · have hlt' : (k : Int) < (n : Int) := by omega
        have j0 : (0 : Int) ≤ (k : Int) := by omega
        obtain ⟨x, hx⟩ : ∃ x, xs[k]? = some x := ⟨xs[k]'(by rw [HA0.out.1]; exact hlt), List.getElem?_eq_getElem _⟩
        obtain ⟨ga, off, rfl, -⟩ := HA0.out.2 k x hx
        have hx0 := Lib.hid hx
        have HE := Lib.hid (after_succ (s := s0) hx)
        have HGK := Lib.hid (good_after HG.out xs k)
        have HGK' := Lib.hid (good_act HGK.out x)
        clear hx
        go_wp2_with fail
        have HPL := Lib.hid (HPL.out.below ((Below.refl _ _).drew))
        have hS0 : (fun W => Blk W G 35 cs' ∧ W.cell? ⟨ga, off + k * 3, none⟩ = some (.bool x.hear) ∧ W.cell? ⟨ga, off + k * 3 + 1, none⟩ = some (.int .i64 x.place) ∧ W.cell? ⟨ga, off + k * 3 + 2, none⟩ = some (.int .i64 x.n)) wr.drew := ⟨HPL.out.blk, cells_at HPL.out.bel HA0.out hx0.out⟩
        refine wp_region_held_drew (S := (fun W => Blk W G 35 cs' ∧ W.cell? ⟨ga, off + k * 3, none⟩ = some (.bool x.hear) ∧ W.cell? ⟨ga, off + k * 3 + 1, none⟩ = some (.int .i64 x.place) ∧ W.cell? ⟨ga, off + k * 3 + 2, none⟩ = some (.int .i64 x.n))) (by kernel_rfl) hS0 ?_
        intro hS0'
        generalize wr.drew = wA at HPL hS0' ⊢
        clear hS0
        refine wpAnyH_take (i := 0) (v := .pointer (some ⟨b, 0, none⟩)) rfl (by kernel_rfl) (by kernel_rfl) (by kernel_rfl) (fun _ _ _ h => h) (Or.inl ⟨by kernel_rfl, fun w hSw => ?_⟩) hS0' ?_
        · go_simp
        try simp only [Act.put, List.setIfInBounds_toArray, List.set_cons_zero, List.set_cons_succ]
        refine wpAnyH_take (i := 1) (v := .agg cs') rfl (by kernel_rfl) (by kernel_rfl) (by kernel_rfl) (fun _ _ _ h => h) ?_ hS0' ?_
        · exact yieldsIf_load_blk (by kernel_rfl) 35 (.tmp 11) (by kernel_rfl) G (by kernel_rfl) 35 cs' _ (fun _ h => h.1) Try.underlying35 rfl HC'.out.info
        try simp only [Act.put, List.setIfInBounds_toArray, List.set_cons_zero, List.set_cons_succ]
        refine wpAnyH_take (i := 2) (v := .slice (some ⟨ga, off, none⟩) n cap) rfl (by kernel_rfl) (by kernel_rfl) (by kernel_rfl) (fun _ _ _ h => h) (Or.inl ⟨by kernel_rfl, fun w hSw => ?_⟩) hS0' ?_
        · go_simp
        try simp only [Act.put, List.setIfInBounds_toArray, List.set_cons_zero, List.set_cons_succ]
        refine wpAnyH_take (i := 3) (v := .int .i64 (k : Int)) rfl (by kernel_rfl) (by kernel_rfl) (by kernel_rfl) (fun _ _ _ h => h) (Or.inl ⟨by kernel_rfl, fun w hSw => ?_⟩) hS0' ?_
        · go_simp
        try simp only [Act.put, List.setIfInBounds_toArray, List.set_cons_zero, List.set_cons_succ]
        refine wpAnyH_take (i := 4) (v := .pointer (some ⟨ga, off + k * 3, none⟩)) rfl (by kernel_rfl) (by kernel_rfl) (by kernel_rfl) (fun _ _ _ h => h) (Or.inl ⟨by kernel_rfl, fun w hSw => ?_⟩) hS0' ?_
        · go_simp
        try simp only [Act.put, List.setIfInBounds_toArray, List.set_cons_zero, List.set_cons_succ]
        refine wpAnyH_take (i := 5) (v := .agg #[.bool x.hear, .int .i64 x.place, .int .i64 x.n]) rfl (by kernel_rfl) (by kernel_rfl) (by kernel_rfl) (fun _ _ _ h => h) (Or.inl ⟨by kernel_rfl, fun w hSw => ?_⟩) hS0' ?_
        · obtain ⟨-, q0, q1, q2⟩ := hSw
          go_simp
        try simp only [Act.put, List.setIfInBounds_toArray, List.set_cons_zero, List.set_cons_succ]
        refine wpAnyH_ready (rs := [6, 10]) (by kernel_rfl) (by simp) ?_
        refine AllReadyH.cons (by rfl) ?_ ?_
        · intro K hK
          go_simp
          refine (act_c b _ cs' x _ HPL.out.isw HGK.out.fair HC'.out).mono ?_
          rintro e wB ⟨⟨cs'', rfl, hc2⟩, hW2, hO2⟩
          have HC2 := Lib.hid hc2
          have HPM := Lib.hid (HPL.out.act hW2 hO2)
          try (have HZ2 := Lib.hid (hO2.blk HZ1.out hp2.symm))
          clear hc2 hW2 hO2
          refine hK.out _ _ ⟨HPM.out.blk, cells_at HPM.out.bel HA0.out hx0.out⟩ (fun hS1 => ?_)
          clear hK K
          refine wpAnyH_take (i := 7) (v := .tuple #[.agg cs'', .bool true]) rfl (by kernel_rfl) (by kernel_rfl) (by kernel_rfl) (fun _ _ _ h => h) (Or.inl ⟨by kernel_rfl, fun w hSw => ?_⟩) hS1 ?_
          · go_simp
          try simp only [Act.put, List.setIfInBounds_toArray, List.set_cons_zero, List.set_cons_succ]
          refine wpAnyH_take (i := 8) (v := .agg cs'') rfl (by kernel_rfl) (by kernel_rfl) (by kernel_rfl) (fun _ _ _ h => h) (Or.inl ⟨by kernel_rfl, fun w hSw => ?_⟩) hS1 ?_
          · go_simp
          try simp only [Act.put, List.setIfInBounds_toArray, List.set_cons_zero, List.set_cons_succ]
          refine wpAnyH_take (i := 9) (v := .bool true) rfl (by kernel_rfl) (by kernel_rfl) (by kernel_rfl) (fun _ _ _ h => h) (Or.inl ⟨by kernel_rfl, fun w hSw => ?_⟩) hS1 ?_
          · go_simp
          try simp only [Act.put, List.setIfInBounds_toArray, List.set_cons_zero, List.set_cons_succ]
          refine wpAnyH_ready (rs := [10]) (by kernel_rfl) (by simp) ?_
          refine AllReadyH.cons (by rfl) ?_ AllReadyH.nil
          intro K hK
          go_simp
          have hal := HPM.out.cell
          unfold Z35 at hal
          generalize wB.heap.size = p19 at hal ⊢
          generalize (World.alloc _ _) = wn at hal ⊢
          obtain ⟨hp0, hz1, hp1, hp2, hp3, hp4, -⟩ := hal
          have HPM := Lib.hid hp0
          have HZ2 := Lib.hid hz1
          clear hp0 hz1
          refine hK.out _ _ ⟨HPM.out.blk, cells_at HPM.out.bel HA0.out hx0.out⟩ (fun hS2 => ?_)
          clear hK K
          refine wpAnyH_ready (rs := [11]) (by kernel_rfl) (by simp) ?_
          refine all_readyH_yes (by rfl) (by kernel_rfl) ?_ AllReadyH.nil
          intro K hK
          with_reducible refine wp_store_blk 35 (.tmp 19) (.tmp 126) ?_ p19 35 _ cs'' ?_ ?_ HZ2.out ?_ HC2.out.info HC2.out.one ?_
          · kernel_rfl
          · kernel_rfl
          · kernel_rfl
          · rw [HC2.out.size]; kernel_rfl
          intro w6 hB6 hO6 hz6
          try simp only [Act.put, List.setIfInBounds_toArray, List.set_cons_zero, List.set_cons_succ]
          have HPN := Lib.hid (HPM.out.side hO6 hp1 hp2 hp3 hp4)
          have HB6 := Lib.hid hB6
          clear hB6 hO6 hz6
          refine hK.out _ _ ⟨HPN.out.blk, cells_at HPN.out.bel HA0.out hx0.out⟩ (fun hS6 => ?_)
          clear hK K
          refine wpAnyH_ready (rs := [12]) (by kernel_rfl) (by simp) ?_
          refine AllReadyH.cons (by rfl) ?_ AllReadyH.nil
          intro K hK
          go_simp
          refine hK.out _ _ hS6 (fun hS7 => ?_)
          clear hK K
          refine wpAnyH_done (by kernel_rfl) ?_ _
          go_wp2_with (first | (refine wpl_load_blk rfl 35 _ rfl p19 rfl 35 cs'' _ HB6.out Try.underlying35 rfl HC2.out.info ?_) | (refine wpl_store_blk rfl 35 _ _ rfl G 35 _ cs'' rfl rfl HPN.out.blk (by rw [HC2.out.size, HC'.out.size]) HC2.out.info HC2.out.one ?_; intro w7 hB7 hO7 hz7; have HPO := Lib.hid (HPN.out.put hB7 hO7); clear hB7 hO7 hz7) | (refine wpl_load_blk_g 35 _ rfl G rfl rfl 35 cs'' _ HPO.out.blk Try.underlying35 rfl HC2.out.info ?_))
          refine (is_good b _ cs'' _ HPO.out.isw HGK'.out HC2.out).mono ?_
          rintro e w8 ⟨rfl, hb⟩
          have HPP := Lib.hid (HPO.out.below hb)
          clear hb
          go_wp2_with fail
          go_roundw
          case rel => exact ⟨k + 1, cs'', by omega, by go_num, HE.out ▸ HPP.out, HE.out ▸ HC2.out⟩
          case measure => simp [intOf]; omega
        refine AllReadyH.cons (by rfl) ?_ AllReadyH.nil
        intro K hK
        go_simp
        have hal := HPL.out.cell
        unfold Z35 at hal
        generalize wA.heap.size = p19 at hal ⊢
        generalize (World.alloc _ _) = wn at hal ⊢
        obtain ⟨hp0, hz1, hp1, hp2, hp3, hp4, -⟩ := hal
        have HPL := Lib.hid hp0
        have HZ1 := Lib.hid hz1
        clear hp0 hz1
        refine hK.out _ _ ⟨HPL.out.blk, cells_at HPL.out.bel HA0.out hx0.out⟩ (fun hS1 => ?_)
        clear hK K
        refine wpAnyH_ready (rs := [6]) (by kernel_rfl) (by simp) ?_
        refine AllReadyH.cons (by rfl) ?_ AllReadyH.nil
        intro K hK
        go_simp
        refine (act_c b _ cs' x _ HPL.out.isw HGK.out.fair HC'.out).mono ?_
        rintro e wB ⟨⟨cs'', rfl, hc2⟩, hW2, hO2⟩
        have HC2 := Lib.hid hc2
        have HPM := Lib.hid (HPL.out.act hW2 hO2)
        try (have HZ2 := Lib.hid (hO2.blk HZ1.out hp2.symm))
        clear hc2 hW2 hO2
        refine hK.out _ _ ⟨HPM.out.blk, cells_at HPM.out.bel HA0.out hx0.out⟩ (fun hS2 => ?_)
        clear hK K
        refine wpAnyH_take (i := 7) (v := .tuple #[.agg cs'', .bool true]) rfl (by kernel_rfl) (by kernel_rfl) (by kernel_rfl) (fun _ _ _ h => h) (Or.inl ⟨by kernel_rfl, fun w hSw => ?_⟩) hS2 ?_
        · go_simp
        try simp only [Act.put, List.setIfInBounds_toArray, List.set_cons_zero, List.set_cons_succ]
        refine wpAnyH_take (i := 8) (v := .agg cs'') rfl (by kernel_rfl) (by kernel_rfl) (by kernel_rfl) (fun _ _ _ h => h) (Or.inl ⟨by kernel_rfl, fun w hSw => ?_⟩) hS2 ?_
        · go_simp
        try simp only [Act.put, List.setIfInBounds_toArray, List.set_cons_zero, List.set_cons_succ]
        refine wpAnyH_take (i := 9) (v := .bool true) rfl (by kernel_rfl) (by kernel_rfl) (by kernel_rfl) (fun _ _ _ h => h) (Or.inl ⟨by kernel_rfl, fun w hSw => ?_⟩) hS2 ?_
        · go_simp
        try simp only [Act.put, List.setIfInBounds_toArray, List.set_cons_zero, List.set_cons_succ]
        refine wpAnyH_ready (rs := [11]) (by kernel_rfl) (by simp) ?_
        refine all_readyH_yes (by rfl) (by kernel_rfl) ?_ AllReadyH.nil
        intro K hK
        with_reducible refine wp_store_blk 35 (.tmp 19) (.tmp 126) ?_ p19 35 _ cs'' ?_ ?_ HZ2.out ?_ HC2.out.info HC2.out.one ?_
        · kernel_rfl
        · kernel_rfl
        · kernel_rfl
        · rw [HC2.out.size]; kernel_rfl
        intro w6 hB6 hO6 hz6
        try simp only [Act.put, List.setIfInBounds_toArray, List.set_cons_zero, List.set_cons_succ]
        have HPN := Lib.hid (HPM.out.side hO6 hp1 hp2 hp3 hp4)
        have HB6 := Lib.hid hB6
        clear hB6 hO6 hz6
        refine hK.out _ _ ⟨HPN.out.blk, cells_at HPN.out.bel HA0.out hx0.out⟩ (fun hS6 => ?_)
        clear hK K
        refine wpAnyH_ready (rs := [12]) (by kernel_rfl) (by simp) ?_
        refine AllReadyH.cons (by rfl) ?_ AllReadyH.nil
        intro K hK
        go_simp
        refine hK.out _ _ hS6 (fun hS7 => ?_)
        clear hK K
        refine wpAnyH_done (by kernel_rfl) ?_ _
        go_wp2_with (first | (refine wpl_load_blk rfl 35 _ rfl p19 rfl 35 cs'' _ HB6.out Try.underlying35 rfl HC2.out.info ?_) | (refine wpl_store_blk rfl 35 _ _ rfl G 35 _ cs'' rfl rfl HPN.out.blk (by rw [HC2.out.size, HC'.out.size]) HC2.out.info HC2.out.one ?_; intro w7 hB7 hO7 hz7; have HPO := Lib.hid (HPN.out.put hB7 hO7); clear hB7 hO7 hz7) | (refine wpl_load_blk_g 35 _ rfl G rfl rfl 35 cs'' _ HPO.out.blk Try.underlying35 rfl HC2.out.info ?_))
        refine (is_good b _ cs'' _ HPO.out.isw HGK'.out HC2.out).mono ?_
        rintro e w8 ⟨rfl, hb⟩
        have HPP := Lib.hid (HPO.out.below hb)
        clear hb
        go_wp2_with fail
        go_roundw
        case rel => exact ⟨k + 1, cs'', by omega, by go_num, HE.out ▸ HPP.out, HE.out ▸ HC2.out⟩
        case measure => simp [intOf]; omega
      · obtain rfl : k = n := by omega
        go_wp2_with fail
        refine (num_any _ _).mono ?_; rintro e w' ⟨rfl, rfl⟩
        go_wp2_with (refine wpl_load_blk_g 35 _ rfl G rfl rfl 35 cs' _ HPL.out.blk Try.underlying35 rfl HC'.out.info ?_)
        refine (is_good b _ cs' _ HPL.out.isw (good_after HG.out xs _) HC'.out).mono ?_
        rintro e w8 ⟨rfl, hb⟩
        have HPP := Lib.hid (HPL.out.below hb)
        clear hb
        go_wp2_with fail
        refine (same_right b _ _ _ HPP.out.no HPP.out.isw (good_after HG.out xs _).fair.sane).mono ?_; rintro e w' ⟨rfl, rfl⟩
        go_wp2_with fail
        refine (same_left b _ _ _ HPP.out.no HPP.out.isw (good_after HG.out xs _).fair.sane).mono ?_; rintro e w' ⟨rfl, rfl⟩
        go_wp2_with fail
        refine (works_any _).mono ?_; rintro e w9 ⟨rfl, hb⟩
        have HB9 := Lib.hid (HPP.out.bel.trans (hb.mono HPP.out.bel.size))
        clear hb
        go_wp2_with fail
        go_ret
        exact ⟨rfl, HB9.out⟩
  · have hp' : ((n : Int) % 2 == 1) = false := by rw [hp]; rfl
    go_wp2_with (refine wpl_store_blk rfl 35 _ _ rfl w2.heap.size 35 _ cs rfl rfl (Blk.new w2 35 _) (by rw [HC.out.size]; rfl) HC.out.info HC.out.one ?_; intro w4 hB4 hO4 hz4)
    have hPw : PL w w4 b w2.heap.size s0 cs none := ⟨(HW2.out.below ((Below.refl w2.heap.size w2).alloc (Nat.le_refl _) _) HW2.out.lt).far2 hO4 (Nat.ne_of_lt HW2.out.lt), hB4, HB2.out.trans (((Below.refl w2.heap.size w2).alloc (Nat.le_refl _) _).trans (hO4.below (B := w2.heap.size) (by simp) (Nat.le_refl _)) |>.mono HB2.out.size), .inl rfl, hbb, HB2.out.size, Nat.ne_of_lt HW2.out.lt, fun g e => by cases e⟩
    have hz : w4.heap.size = w2.heap.size + 1 := by rw [hz4]; simp
    have hb2 := HW2.out.lt
    clear hB4 hO4 hz4
    have HP5 := Lib.hid hPw
    clear hPw
    generalize hGd : w2.heap.size = G at HP5 ⊢
    refine (tick_nil _ 1 _ HP5.out.no).mono ?_; rintro e w' ⟨rfl, rfl⟩
    go_wp2_with fail
    refine (hear_nil _ 0 _ HP5.out.no).mono ?_; rintro e w' ⟨rfl, rfl⟩
    go_wp2_with fail
    refine (num_any _ _).mono ?_; rintro e w' ⟨rfl, rfl⟩
    go_wp2_with fail
    refine (num_any _ _).mono ?_; rintro e w' ⟨rfl, rfl⟩
    go_wp2_with fail
    refine (susp_none _ 0 _ HP5.out.no).mono ?_; rintro e w' ⟨rfl, rfl⟩
    go_wp2_with fail
    refine (all_any _ [] _ (goes_none HP5.out.no)).mono ?_; rintro e w6 ⟨a6, d6, rfl, -, hb⟩
    have HP6 := Lib.hid (HP5.out.below hb)
    clear hb
    rw [show (sus ([] : List Wd) ([] : List Wd).length).length = 0 from rfl]
    go_wp2_with fail
    refine (foremost_any _ [] _ (goes_none HP6.out.no)).mono ?_; rintro e w7 ⟨rfl, hb⟩
    have HP7 := Lib.hid (HP6.out.below hb)
    clear hb
    rw [show ((fmo (sus ([] : List Wd) ([] : List Wd).length) : Nat) : Int) = 0 from rfl]
    go_wp2_with fail
    refine (now_none _ _ HP7.out.no).mono ?_; rintro e w' ⟨rfl, rfl⟩
    go_wp2_with fail
    refine (state_none _ _ HP7.out.no).mono ?_; rintro e w' ⟨rfl, rfl⟩
    go_wp2_with fail
    refine (copy_none _ _ HP7.out.no).mono ?_; rintro e w' ⟨rfl, rfl⟩
    go_wp2_with fail
    refine (same_nones _ none _ HP7.out.no (.inl rfl)).mono ?_; rintro e w' ⟨rfl, rfl⟩
    go_wp2_with fail
    go_loopw [18] (fun i wr => ∃ (k : Nat) (cs' : Array Value), k ≤ n ∧ i = .int .i64 k ∧ PL w wr b G (after s0 xs k) cs' none ∧ RC cs' (after s0 xs k)) (fun i _ => n - (intOf i).toNat)
    case atStart => exact ⟨0, cs, Nat.zero_le _, rfl, HP7.out, HC.out⟩
    case round =>
      obtain ⟨k, cs', hk, rfl, hP, hC'⟩ := hrel
      have HPL := Lib.hid hP; have HC' := Lib.hid hC'
      clear hP hC'
      by_cases hlt : k < n
      · have hlt' : (k : Int) < (n : Int) := by omega
        have j0 : (0 : Int) ≤ (k : Int) := by omega
        obtain ⟨x, hx⟩ : ∃ x, xs[k]? = some x := ⟨xs[k]'(by rw [HA0.out.1]; exact hlt), List.getElem?_eq_getElem _⟩
        obtain ⟨ga, off, rfl, -⟩ := HA0.out.2 k x hx
        have hx0 := Lib.hid hx
        have HE := Lib.hid (after_succ (s := s0) hx)
        have HGK := Lib.hid (good_after HG.out xs k)
        have HGK' := Lib.hid (good_act HGK.out x)
        clear hx
        go_wp2_with fail
        have HPL := Lib.hid (HPL.out.below ((Below.refl _ _).drew))
        have hS0 : (fun W => Blk W G 35 cs' ∧ W.cell? ⟨ga, off + k * 3, none⟩ = some (.bool x.hear) ∧ W.cell? ⟨ga, off + k * 3 + 1, none⟩ = some (.int .i64 x.place) ∧ W.cell? ⟨ga, off + k * 3 + 2, none⟩ = some (.int .i64 x.n)) wr.drew := ⟨HPL.out.blk, cells_at HPL.out.bel HA0.out hx0.out⟩
        refine wp_region_held_drew (S := (fun W => Blk W G 35 cs' ∧ W.cell? ⟨ga, off + k * 3, none⟩ = some (.bool x.hear) ∧ W.cell? ⟨ga, off + k * 3 + 1, none⟩ = some (.int .i64 x.place) ∧ W.cell? ⟨ga, off + k * 3 + 2, none⟩ = some (.int .i64 x.n))) (by kernel_rfl) hS0 ?_
        intro hS0'
        generalize wr.drew = wA at HPL hS0' ⊢
        clear hS0
        refine wpAnyH_take (i := 0) (v := .pointer (some ⟨b, 0, none⟩)) rfl (by kernel_rfl) (by kernel_rfl) (by kernel_rfl) (fun _ _ _ h => h) (Or.inl ⟨by kernel_rfl, fun w hSw => ?_⟩) hS0' ?_
        · go_simp
        try simp only [Act.put, List.setIfInBounds_toArray, List.set_cons_zero, List.set_cons_succ]
        refine wpAnyH_take (i := 1) (v := .agg cs') rfl (by kernel_rfl) (by kernel_rfl) (by kernel_rfl) (fun _ _ _ h => h) ?_ hS0' ?_
        · exact yieldsIf_load_blk (by kernel_rfl) 35 (.tmp 11) (by kernel_rfl) G (by kernel_rfl) 35 cs' _ (fun _ h => h.1) Try.underlying35 rfl HC'.out.info
        try simp only [Act.put, List.setIfInBounds_toArray, List.set_cons_zero, List.set_cons_succ]
        refine wpAnyH_take (i := 2) (v := .slice (some ⟨ga, off, none⟩) n cap) rfl (by kernel_rfl) (by kernel_rfl) (by kernel_rfl) (fun _ _ _ h => h) (Or.inl ⟨by kernel_rfl, fun w hSw => ?_⟩) hS0' ?_
        · go_simp
        try simp only [Act.put, List.setIfInBounds_toArray, List.set_cons_zero, List.set_cons_succ]
        refine wpAnyH_take (i := 3) (v := .int .i64 (k : Int)) rfl (by kernel_rfl) (by kernel_rfl) (by kernel_rfl) (fun _ _ _ h => h) (Or.inl ⟨by kernel_rfl, fun w hSw => ?_⟩) hS0' ?_
        · go_simp
        try simp only [Act.put, List.setIfInBounds_toArray, List.set_cons_zero, List.set_cons_succ]
        refine wpAnyH_take (i := 4) (v := .pointer (some ⟨ga, off + k * 3, none⟩)) rfl (by kernel_rfl) (by kernel_rfl) (by kernel_rfl) (fun _ _ _ h => h) (Or.inl ⟨by kernel_rfl, fun w hSw => ?_⟩) hS0' ?_
        · go_simp
        try simp only [Act.put, List.setIfInBounds_toArray, List.set_cons_zero, List.set_cons_succ]
        refine wpAnyH_take (i := 5) (v := .agg #[.bool x.hear, .int .i64 x.place, .int .i64 x.n]) rfl (by kernel_rfl) (by kernel_rfl) (by kernel_rfl) (fun _ _ _ h => h) (Or.inl ⟨by kernel_rfl, fun w hSw => ?_⟩) hS0' ?_
        · obtain ⟨-, q0, q1, q2⟩ := hSw
          go_simp
        try simp only [Act.put, List.setIfInBounds_toArray, List.set_cons_zero, List.set_cons_succ]
        refine wpAnyH_ready (rs := [6, 10]) (by kernel_rfl) (by simp) ?_
        refine AllReadyH.cons (by rfl) ?_ ?_
        · intro K hK
          go_simp
          refine (act_c b _ cs' x _ HPL.out.isw HGK.out.fair HC'.out).mono ?_
          rintro e wB ⟨⟨cs'', rfl, hc2⟩, hW2, hO2⟩
          have HC2 := Lib.hid hc2
          have HPM := Lib.hid (HPL.out.act hW2 hO2)
          try (have HZ2 := Lib.hid (hO2.blk HZ1.out hp2.symm))
          clear hc2 hW2 hO2
          refine hK.out _ _ ⟨HPM.out.blk, cells_at HPM.out.bel HA0.out hx0.out⟩ (fun hS1 => ?_)
          clear hK K
          refine wpAnyH_take (i := 7) (v := .tuple #[.agg cs'', .bool true]) rfl (by kernel_rfl) (by kernel_rfl) (by kernel_rfl) (fun _ _ _ h => h) (Or.inl ⟨by kernel_rfl, fun w hSw => ?_⟩) hS1 ?_
          · go_simp
          try simp only [Act.put, List.setIfInBounds_toArray, List.set_cons_zero, List.set_cons_succ]
          refine wpAnyH_take (i := 8) (v := .agg cs'') rfl (by kernel_rfl) (by kernel_rfl) (by kernel_rfl) (fun _ _ _ h => h) (Or.inl ⟨by kernel_rfl, fun w hSw => ?_⟩) hS1 ?_
          · go_simp
          try simp only [Act.put, List.setIfInBounds_toArray, List.set_cons_zero, List.set_cons_succ]
          refine wpAnyH_take (i := 9) (v := .bool true) rfl (by kernel_rfl) (by kernel_rfl) (by kernel_rfl) (fun _ _ _ h => h) (Or.inl ⟨by kernel_rfl, fun w hSw => ?_⟩) hS1 ?_
          · go_simp
          try simp only [Act.put, List.setIfInBounds_toArray, List.set_cons_zero, List.set_cons_succ]
          refine wpAnyH_ready (rs := [10]) (by kernel_rfl) (by simp) ?_
          refine AllReadyH.cons (by rfl) ?_ AllReadyH.nil
          intro K hK
          go_simp
          have hal := HPM.out.cell
          unfold Z35 at hal
          generalize wB.heap.size = p19 at hal ⊢
          generalize (World.alloc _ _) = wn at hal ⊢
          obtain ⟨hp0, hz1, hp1, hp2, hp3, hp4, -⟩ := hal
          have HPM := Lib.hid hp0
          have HZ2 := Lib.hid hz1
          clear hp0 hz1
          refine hK.out _ _ ⟨HPM.out.blk, cells_at HPM.out.bel HA0.out hx0.out⟩ (fun hS2 => ?_)
          clear hK K
          refine wpAnyH_ready (rs := [11]) (by kernel_rfl) (by simp) ?_
          refine all_readyH_yes (by rfl) (by kernel_rfl) ?_ AllReadyH.nil
          intro K hK
          with_reducible refine wp_store_blk 35 (.tmp 19) (.tmp 126) ?_ p19 35 _ cs'' ?_ ?_ HZ2.out ?_ HC2.out.info HC2.out.one ?_
          · kernel_rfl
          · kernel_rfl
          · kernel_rfl
          · rw [HC2.out.size]; kernel_rfl
          intro w6 hB6 hO6 hz6
          try simp only [Act.put, List.setIfInBounds_toArray, List.set_cons_zero, List.set_cons_succ]
          have HPN := Lib.hid (HPM.out.side hO6 hp1 hp2 hp3 hp4)
          have HB6 := Lib.hid hB6
          clear hB6 hO6 hz6
          refine hK.out _ _ ⟨HPN.out.blk, cells_at HPN.out.bel HA0.out hx0.out⟩ (fun hS6 => ?_)
          clear hK K
          refine wpAnyH_ready (rs := [12]) (by kernel_rfl) (by simp) ?_
          refine AllReadyH.cons (by rfl) ?_ AllReadyH.nil
          intro K hK
          go_simp
          refine hK.out _ _ hS6 (fun hS7 => ?_)
          clear hK K
          refine wpAnyH_done (by kernel_rfl) ?_ _
          go_wp2_with (first | (refine wpl_load_blk rfl 35 _ rfl p19 rfl 35 cs'' _ HB6.out Try.underlying35 rfl HC2.out.info ?_) | (refine wpl_store_blk rfl 35 _ _ rfl G 35 _ cs'' rfl rfl HPN.out.blk (by rw [HC2.out.size, HC'.out.size]) HC2.out.info HC2.out.one ?_; intro w7 hB7 hO7 hz7; have HPO := Lib.hid (HPN.out.put hB7 hO7); clear hB7 hO7 hz7) | (refine wpl_load_blk_g 35 _ rfl G rfl rfl 35 cs'' _ HPO.out.blk Try.underlying35 rfl HC2.out.info ?_))
          refine (is_good b _ cs'' _ HPO.out.isw HGK'.out HC2.out).mono ?_
          rintro e w8 ⟨rfl, hb⟩
          have HPP := Lib.hid (HPO.out.below hb)
          clear hb
          go_wp2_with fail
          go_roundw
          case rel => exact ⟨k + 1, cs'', by omega, by go_num, HE.out ▸ HPP.out, HE.out ▸ HC2.out⟩
          case measure => simp [intOf]; omega
        refine AllReadyH.cons (by rfl) ?_ AllReadyH.nil
        intro K hK
        go_simp
        have hal := HPL.out.cell
        unfold Z35 at hal
        generalize wA.heap.size = p19 at hal ⊢
        generalize (World.alloc _ _) = wn at hal ⊢
        obtain ⟨hp0, hz1, hp1, hp2, hp3, hp4, -⟩ := hal
        have HPL := Lib.hid hp0
        have HZ1 := Lib.hid hz1
        clear hp0 hz1
        refine hK.out _ _ ⟨HPL.out.blk, cells_at HPL.out.bel HA0.out hx0.out⟩ (fun hS1 => ?_)
        clear hK K
        refine wpAnyH_ready (rs := [6]) (by kernel_rfl) (by simp) ?_
        refine AllReadyH.cons (by rfl) ?_ AllReadyH.nil
        intro K hK
        go_simp
        refine (act_c b _ cs' x _ HPL.out.isw HGK.out.fair HC'.out).mono ?_
        rintro e wB ⟨⟨cs'', rfl, hc2⟩, hW2, hO2⟩
        have HC2 := Lib.hid hc2
        have HPM := Lib.hid (HPL.out.act hW2 hO2)
        try (have HZ2 := Lib.hid (hO2.blk HZ1.out hp2.symm))
        clear hc2 hW2 hO2
        refine hK.out _ _ ⟨HPM.out.blk, cells_at HPM.out.bel HA0.out hx0.out⟩ (fun hS2 => ?_)
        clear hK K
        refine wpAnyH_take (i := 7) (v := .tuple #[.agg cs'', .bool true]) rfl (by kernel_rfl) (by kernel_rfl) (by kernel_rfl) (fun _ _ _ h => h) (Or.inl ⟨by kernel_rfl, fun w hSw => ?_⟩) hS2 ?_
        · go_simp
        try simp only [Act.put, List.setIfInBounds_toArray, List.set_cons_zero, List.set_cons_succ]
        refine wpAnyH_take (i := 8) (v := .agg cs'') rfl (by kernel_rfl) (by kernel_rfl) (by kernel_rfl) (fun _ _ _ h => h) (Or.inl ⟨by kernel_rfl, fun w hSw => ?_⟩) hS2 ?_
        · go_simp
        try simp only [Act.put, List.setIfInBounds_toArray, List.set_cons_zero, List.set_cons_succ]
        refine wpAnyH_take (i := 9) (v := .bool true) rfl (by kernel_rfl) (by kernel_rfl) (by kernel_rfl) (fun _ _ _ h => h) (Or.inl ⟨by kernel_rfl, fun w hSw => ?_⟩) hS2 ?_
        · go_simp
        try simp only [Act.put, List.setIfInBounds_toArray, List.set_cons_zero, List.set_cons_succ]
        refine wpAnyH_ready (rs := [11]) (by kernel_rfl) (by simp) ?_
        refine all_readyH_yes (by rfl) (by kernel_rfl) ?_ AllReadyH.nil
        intro K hK
        with_reducible refine wp_store_blk 35 (.tmp 19) (.tmp 126) ?_ p19 35 _ cs'' ?_ ?_ HZ2.out ?_ HC2.out.info HC2.out.one ?_
        · kernel_rfl
        · kernel_rfl
        · kernel_rfl
        · rw [HC2.out.size]; kernel_rfl
        intro w6 hB6 hO6 hz6
        try simp only [Act.put, List.setIfInBounds_toArray, List.set_cons_zero, List.set_cons_succ]
        have HPN := Lib.hid (HPM.out.side hO6 hp1 hp2 hp3 hp4)
        have HB6 := Lib.hid hB6
        clear hB6 hO6 hz6
        refine hK.out _ _ ⟨HPN.out.blk, cells_at HPN.out.bel HA0.out hx0.out⟩ (fun hS6 => ?_)
        clear hK K
        refine wpAnyH_ready (rs := [12]) (by kernel_rfl) (by simp) ?_
        refine AllReadyH.cons (by rfl) ?_ AllReadyH.nil
        intro K hK
        go_simp
        refine hK.out _ _ hS6 (fun hS7 => ?_)
        clear hK K
        refine wpAnyH_done (by kernel_rfl) ?_ _
        go_wp2_with (first | (refine wpl_load_blk rfl 35 _ rfl p19 rfl 35 cs'' _ HB6.out Try.underlying35 rfl HC2.out.info ?_) | (refine wpl_store_blk rfl 35 _ _ rfl G 35 _ cs'' rfl rfl HPN.out.blk (by rw [HC2.out.size, HC'.out.size]) HC2.out.info HC2.out.one ?_; intro w7 hB7 hO7 hz7; have HPO := Lib.hid (HPN.out.put hB7 hO7); clear hB7 hO7 hz7) | (refine wpl_load_blk_g 35 _ rfl G rfl rfl 35 cs'' _ HPO.out.blk Try.underlying35 rfl HC2.out.info ?_))
        refine (is_good b _ cs'' _ HPO.out.isw HGK'.out HC2.out).mono ?_
        rintro e w8 ⟨rfl, hb⟩
        have HPP := Lib.hid (HPO.out.below hb)
        clear hb
        go_wp2_with fail
        go_roundw
        case rel => exact ⟨k + 1, cs'', by omega, by go_num, HE.out ▸ HPP.out, HE.out ▸ HC2.out⟩
        case measure => simp [intOf]; omega
      · obtain rfl : k = n := by omega
        go_wp2_with fail
        refine (num_any _ _).mono ?_; rintro e w' ⟨rfl, rfl⟩
        go_wp2_with (refine wpl_load_blk_g 35 _ rfl G rfl rfl 35 cs' _ HPL.out.blk Try.underlying35 rfl HC'.out.info ?_)
        refine (is_good b _ cs' _ HPL.out.isw (good_after HG.out xs _) HC'.out).mono ?_
        rintro e w8 ⟨rfl, hb⟩
        have HPP := Lib.hid (HPL.out.below hb)
        clear hb
        go_wp2_with fail
        refine (same_right b _ _ _ HPP.out.no HPP.out.isw (good_after HG.out xs _).fair.sane).mono ?_; rintro e w' ⟨rfl, rfl⟩
        go_wp2_with fail
        refine (same_left b _ _ _ HPP.out.no HPP.out.isw (good_after HG.out xs _).fair.sane).mono ?_; rintro e w' ⟨rfl, rfl⟩
        go_wp2_with fail
        refine (works_any _).mono ?_; rintro e w9 ⟨rfl, hb⟩
        have HB9 := Lib.hid (HPP.out.bel.trans (hb.mono HPP.out.bel.size))
        clear hb
        go_wp2_with fail
        go_ret
        exact ⟨rfl, HB9.out⟩
end Go.Proofs.Ytgajbaipkhopkaa
