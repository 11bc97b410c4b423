/- The walk of SuspectLeaves. -/
import Derived.Test.YtgajbaipkhopkaaXs
namespace Go.Proofs.Ytgajbaipkhopkaa
open Go.RowKit Go.Shelf
attribute [local go_sem] Oper.semAt_some
set_option linter.unusedSimpArgs false
set_option linter.unusedVariables false

set_option maxHeartbeats 8000000 in
set_option maxRecDepth 100000 in
theorem leaves_in (a : Option Addr) (n cap : Nat) (xs : List Ac) (many : Int) (x : Ac) (w : World) (ha : Acts w a n xs) :
    CallsIn Fence.wide 5 Try.prog 3 #[.slice a n cap, .int .i64 many, x.val] w fun e w' => e = .returned (.bool true) ∧ Below w.heap.size w w' := by
  have HA0 := Lib.hid ha; clear ha
  have hst := LP.start (w := w) many x
  have HG0 := Lib.hid (good_new new945)
  refine callsIn_of_wp_marks Try.func3 rfl trivial ?_ rfl
  simp only [Try.ntmps3, List.size_toArray, List.length_cons, List.length_nil, Nat.reduceAdd, Nat.reduceSub, Array.replicate_succ, Array.replicate_zero, List.push_toArray, List.append_toArray, List.nil_append, List.cons_append]
  refine wpIn_wide.2 ?_
  refine wp_mono (Q := NoPan (bodyPostM Fence.wide 5 Try.prog Try.f3 _)) ?_ (fun _ _ _ h => h.2)
  rcases Nat.lt_or_ge 30 n with hn | hn
  · have hnn : (30 : Int) < (n : Int) := by omega
    unfold Ac.cells at hst
    unfold Ac.val
    go_wp2_with fail
    generalize (World.alloc _ _) = w2 at hst ⊢
    have HST := Lib.hid hst
    clear hst
    refine (works_any _).mono ?_; rintro e w1 ⟨rfl, hb⟩
    have HB1 := Lib.hid (HST.out.2.2.2.1.trans (hb.mono HST.out.2.2.2.1.size))
    have HR1 := Lib.hid (Boxed.below HST.out.2.2.1 hb HST.out.2.2.1.lt)
    have hc := HR1.out.cell
    have hf := HR1.out.frozen
    clear hb
    go_wp2_with fail
    have hR : (w1.setCell ⟨w.heap.size + 1 + 1, 0, none⟩ (.bool true)).cell? ⟨w.heap.size + 1 + 1, 0, none⟩ = some (.bool true) := (Boxed.set (.bool true) HR1.out).cell
    have hB : Below w.heap.size w (w1.setCell ⟨w.heap.size + 1 + 1, 0, none⟩ (.bool true)) := HB1.out.setCell (by simp; omega) _
    generalize World.setCell _ _ _ = V' at hR hB ⊢
    clear hc hf
    refine NoPan.mk ?_
    exact ⟨.bool true, by simp [results, Try.results3, go_sem, hR], rfl, hB⟩
  · have hnn : ¬ ((n : Int) > 30) := by omega
    unfold Ac.cells at hst
    unfold Ac.val
    go_wp2_with fail
    generalize (World.alloc _ _) = w2 at hst ⊢
    have HST := Lib.hid hst
    clear hst
    refine (new_ok 9 4 5 _ new945).mono ?_
    rintro e w3 ⟨b, rfl, hbb, hW, hb⟩
    have HW3 := Lib.hid hW
    have HM3 := Lib.hid (Boxed.below HST.out.1 hb HST.out.1.lt)
    have HX3 := Lib.hid (HST.out.2.1.below hb HST.out.2.1.lt)
    have HR3 := Lib.hid (Boxed.below HST.out.2.2.1 hb HST.out.2.2.1.lt)
    have HB3 := Lib.hid (HST.out.2.2.2.1.trans (hb.mono HST.out.2.2.2.1.size))
    have hb0 : w.heap.size + 2 < b := by have := HST.out.2.2.2.2; omega
    clear hW hb hbb HST
    go_wp2_with fail
    refine (rnew_ok 9 4 5 _ new945).mono ?_
    rintro e w4 ⟨⟨cs, rfl, hc⟩, hb⟩
    have HC := Lib.hid hc
    have HW4 := Lib.hid (HW3.out.below hb HW3.out.lt)
    have HM4 := Lib.hid (Boxed.below HM3.out hb HM3.out.lt)
    have HX4 := Lib.hid (HX3.out.below hb HX3.out.lt)
    have HR4 := Lib.hid (Boxed.below HR3.out hb HR3.out.lt)
    have HB4 := Lib.hid (HB3.out.trans (hb.mono HB3.out.size))
    clear hc hb HW3 HM3 HX3 HR3 HB3
    obtain ⟨s0, hs0⟩ : ∃ s, s = St.new 9 4 5 (9 : Int).toNat := ⟨_, rfl⟩
    have e5 : St.new 9 4 5 (9 : Int).toNat = s0 := hs0.symm
    rw [e5] at HG0
    have HG := HG0
    have HW4' : Hid (IsW w4 b s0) := Lib.hid (by rw [← e5]; exact HW4.out)
    have HC' : Hid (RC cs s0) := Lib.hid (by rw [← e5]; exact HC.out)
    clear HG0 HW4 HC e5 hs0
    have HW4 := HW4'; have HC := HC'
    clear HW4' HC'
    go_wp2_with (refine wpl_store_blk rfl 35 _ _ rfl w4.heap.size 35 _ cs rfl rfl (Blk.new w4 35 _) (by rw [HC.out.size]; rfl) HC.out.info HC.out.one ?_; intro w5 hB5 hO5 hz5)
    have hb45 := ((Below.refl w4.heap.size w4).alloc (Nat.le_refl _) _).trans (hO5.below (B := w4.heap.size) (by simp) (Nat.le_refl _))
    have HP5 : Hid (LP w w5 b w4.heap.size s0 cs many x) := Lib.hid ⟨HW4.out.below hb45 HW4.out.lt, hB5, HB4.out.trans (hb45.mono HB4.out.size), Boxed.below HM4.out hb45 HM4.out.lt, HX4.out.below hb45 HX4.out.lt, Boxed.below HR4.out hb45 HR4.out.lt, hb0, HW4.out.lt⟩
    clear hB5 hO5 hz5 hb45 HW4 HM4 HX4 HR4 HB4
    generalize w4.heap.size = G at HP5 ⊢
    go_loopw [11] (fun i wr => ∃ (k : Nat) (cs' : Array Value), k ≤ n ∧ i = .int .i64 k ∧ LP w wr b G (after s0 xs k) cs' many x ∧ RC cs' (after s0 xs k)) (fun i _ => n - (intOf i).toNat)
    case atStart => exact ⟨0, cs, Nat.zero_le _, rfl, HP5.out, HC.out⟩
    case round =>
    obtain ⟨k, cs', hk, rfl, hP, hC'⟩ := hrel
    have HP := Lib.hid hP; have HC' := Lib.hid hC'
    clear hP hC'
    have HGK := Lib.hid (good_after HG.out xs k)
    by_cases hlt : k < n
    · have hlt' : (k : Int) < (n : Int) := by omega
      have j0 : (0 : Int) ≤ (k : Int) := by omega
      obtain ⟨z, hz⟩ : ∃ x, xs[k]? = some x := ⟨xs[k]'(by rw [HA0.out.1]; exact hlt), List.getElem?_eq_getElem _⟩
      obtain ⟨ga, off, rfl, -⟩ := HA0.out.2 k z hz
      have HE := Lib.hid (after_succ (s := s0) hz)
      have hq := cells_at HP.out.bel HA0.out hz
      clear hz
      go_wp2_with fail
      have HP := Lib.hid (HP.out.below ((Below.refl _ _).drew))
      refine wp_region_any (by kernel_rfl) ?_
      change wpAny _ _ _ _ _ _ _ (World.drew _)
      have hq' : wr.drew.cell? ⟨ga, off + k * 3, none⟩ = some (.bool z.hear) ∧ wr.drew.cell? ⟨ga, off + k * 3 + 1, none⟩ = some (.int .i64 z.place) ∧ wr.drew.cell? ⟨ga, off + k * 3 + 2, none⟩ = some (.int .i64 z.n) := hq
      clear hq
      generalize wr.drew = wA at HP hq' ⊢
      obtain ⟨q0, q1, q2⟩ := hq'
      refine wpAny_take (i := 0) (v := .pointer (some ⟨b, 0, none⟩)) rfl (by kernel_rfl) (by kernel_rfl) (by kernel_rfl) (fun _ _ _ h => NoPan.no h) (Or.inl ⟨by kernel_rfl, fun w => ?_⟩) ?_
      · go_simp
      try simp only [Act.put, List.getElem_toArray, List.getElem_cons_succ, List.getElem_cons_zero, List.setIfInBounds_toArray, List.set_cons_zero, List.set_cons_succ]
      refine wpAny_take (i := 2) (v := .slice (some ⟨ga, off, none⟩) n cap) rfl (by kernel_rfl) (by kernel_rfl) (by kernel_rfl) (fun _ _ _ h => NoPan.no h) (Or.inl ⟨by kernel_rfl, fun w => ?_⟩) ?_
      · go_simp
      try simp only [Act.put, List.getElem_toArray, List.getElem_cons_succ, List.getElem_cons_zero, List.setIfInBounds_toArray, List.set_cons_zero, List.set_cons_succ]
      refine wpAny_take (i := 3) (v := .int .i64 (k : Int)) rfl (by kernel_rfl) (by kernel_rfl) (by kernel_rfl) (fun _ _ _ h => NoPan.no h) (Or.inl ⟨by kernel_rfl, fun w => ?_⟩) ?_
      · go_simp
      try simp only [Act.put, List.getElem_toArray, List.getElem_cons_succ, List.getElem_cons_zero, List.setIfInBounds_toArray, List.set_cons_zero, List.set_cons_succ]
      refine wpAny_take (i := 4) (v := .pointer (some ⟨ga, off + k * 3, none⟩)) rfl (by kernel_rfl) (by kernel_rfl) (by kernel_rfl) (fun _ _ _ h => NoPan.no h) (Or.inl ⟨by kernel_rfl, fun w => ?_⟩) ?_
      · go_simp
      try simp only [Act.put, List.getElem_toArray, List.getElem_cons_succ, List.getElem_cons_zero, List.setIfInBounds_toArray, List.set_cons_zero, List.set_cons_succ]
      refine wpAny_ready (rs := [1, 5]) (by kernel_rfl) (by simp) ?_
      refine all_ready_yes (by rfl) (by kernel_rfl) ?_ ?_
      · intro K hK
        with_reducible refine wp_load_blk 35 (.tmp 9) ?_ G ?_ 35 cs' _ HP.out.blk Try.underlying35 ?_ HC'.out.info ?_
        · kernel_rfl
        · kernel_rfl
        · kernel_rfl
        simp only [Act.put, List.getElem_toArray, List.getElem_cons_succ, List.getElem_cons_zero, List.setIfInBounds_toArray, List.set_cons_zero, List.set_cons_succ]
        refine hK _ _ ?_
        clear hK K
        refine wpAny_ready (rs := [5]) (by kernel_rfl) (by simp) ?_
        refine AllReady.cons (by rfl) ?_ AllReady.nil
        intro K hK
        go_simp
        refine hK _ _ ?_
        clear hK K
        refine wpAny_ready (rs := [6]) (by kernel_rfl) (by simp) ?_
        refine AllReady.cons (by rfl) ?_ AllReady.nil
        intro K hK
        go_simp
        refine (act_c b _ cs' z _ HP.out.isw HGK.out.fair HC'.out).mono ?_
        rintro e wB ⟨⟨cs'', rfl, hc2⟩, hW2, hO2⟩
        have HC2 := Lib.hid hc2
        have HPM := Lib.hid (HP.out.act hW2 hO2)
        clear hc2 hW2 hO2
        refine hK _ _ ?_
        clear hK K
        refine wpAny_take (i := 7) (v := .tuple #[.agg cs'', .bool true]) rfl (by kernel_rfl) (by kernel_rfl) (by kernel_rfl) (fun _ _ _ h => NoPan.no h) (Or.inl ⟨by kernel_rfl, fun w => ?_⟩) ?_
        · go_simp
        try simp only [Act.put, List.getElem_toArray, List.getElem_cons_succ, List.getElem_cons_zero, List.setIfInBounds_toArray, List.set_cons_zero, List.set_cons_succ]
        refine wpAny_take (i := 8) (v := .agg cs'') rfl (by kernel_rfl) (by kernel_rfl) (by kernel_rfl) (fun _ _ _ h => NoPan.no h) (Or.inl ⟨by kernel_rfl, fun w => ?_⟩) ?_
        · go_simp
        try simp only [Act.put, List.getElem_toArray, List.getElem_cons_succ, List.getElem_cons_zero, List.setIfInBounds_toArray, List.set_cons_zero, List.set_cons_succ]
        refine wpAny_take (i := 9) (v := .bool true) rfl (by kernel_rfl) (by kernel_rfl) (by kernel_rfl) (fun _ _ _ h => NoPan.no h) (Or.inl ⟨by kernel_rfl, fun w => ?_⟩) ?_
        · go_simp
        try simp only [Act.put, List.getElem_toArray, List.getElem_cons_succ, List.getElem_cons_zero, List.setIfInBounds_toArray, List.set_cons_zero, List.set_cons_succ]
        refine wpAny_ready (rs := [10]) (by kernel_rfl) (by simp) ?_
        refine all_ready_yes (by rfl) (by kernel_rfl) ?_ AllReady.nil
        intro K hK
        with_reducible refine wp_store_blk 35 (.tmp 9) (.tmp 45) ?_ G 35 _ cs'' ?_ ?_ HPM.out.blk ?_ HC2.out.info HC2.out.one ?_
        · kernel_rfl
        · kernel_rfl
        · kernel_rfl
        · rw [HC2.out.size, HC'.out.size]
        intro w6 hB6 hO6 hz6
        have HPN := Lib.hid (HPM.out.put hB6 hO6)
        clear hB6 hO6 hz6
        simp only [Act.put, List.getElem_toArray, List.getElem_cons_succ, List.getElem_cons_zero, List.setIfInBounds_toArray, List.set_cons_zero, List.set_cons_succ]
        refine hK _ _ ?_
        clear hK K
        refine wpAny_done (by kernel_rfl) ?_ _
        go_wp2_with fail
        go_roundw
        case rel => exact ⟨k + 1, cs'', by omega, by go_num, HE.out ▸ HPN.out, HE.out ▸ HC2.out⟩
        case measure => simp [intOf]; omega
      refine AllReady.cons (by rfl) ?_ AllReady.nil
      intro K hK
      go_simp
      refine hK _ _ ?_
      clear hK K
      refine wpAny_ready (rs := [1]) (by kernel_rfl) (by simp) ?_
      refine all_ready_yes (by rfl) (by kernel_rfl) ?_ AllReady.nil
      intro K hK
      with_reducible refine wp_load_blk 35 (.tmp 9) ?_ G ?_ 35 cs' _ HP.out.blk Try.underlying35 ?_ HC'.out.info ?_
      · kernel_rfl
      · kernel_rfl
      · kernel_rfl
      simp only [Act.put, List.getElem_toArray, List.getElem_cons_succ, List.getElem_cons_zero, List.setIfInBounds_toArray, List.set_cons_zero, List.set_cons_succ]
      refine hK _ _ ?_
      clear hK K
      refine wpAny_ready (rs := [6]) (by kernel_rfl) (by simp) ?_
      refine AllReady.cons (by rfl) ?_ AllReady.nil
      intro K hK
      go_simp
      refine (act_c b _ cs' z _ HP.out.isw HGK.out.fair HC'.out).mono ?_
      rintro e wB ⟨⟨cs'', rfl, hc2⟩, hW2, hO2⟩
      have HC2 := Lib.hid hc2
      have HPM := Lib.hid (HP.out.act hW2 hO2)
      clear hc2 hW2 hO2
      refine hK _ _ ?_
      clear hK K
      refine wpAny_take (i := 7) (v := .tuple #[.agg cs'', .bool true]) rfl (by kernel_rfl) (by kernel_rfl) (by kernel_rfl) (fun _ _ _ h => NoPan.no h) (Or.inl ⟨by kernel_rfl, fun w => ?_⟩) ?_
      · go_simp
      try simp only [Act.put, List.getElem_toArray, List.getElem_cons_succ, List.getElem_cons_zero, List.setIfInBounds_toArray, List.set_cons_zero, List.set_cons_succ]
      refine wpAny_take (i := 8) (v := .agg cs'') rfl (by kernel_rfl) (by kernel_rfl) (by kernel_rfl) (fun _ _ _ h => NoPan.no h) (Or.inl ⟨by kernel_rfl, fun w => ?_⟩) ?_
      · go_simp
      try simp only [Act.put, List.getElem_toArray, List.getElem_cons_succ, List.getElem_cons_zero, List.setIfInBounds_toArray, List.set_cons_zero, List.set_cons_succ]
      refine wpAny_take (i := 9) (v := .bool true) rfl (by kernel_rfl) (by kernel_rfl) (by kernel_rfl) (fun _ _ _ h => NoPan.no h) (Or.inl ⟨by kernel_rfl, fun w => ?_⟩) ?_
      · go_simp
      try simp only [Act.put, List.getElem_toArray, List.getElem_cons_succ, List.getElem_cons_zero, List.setIfInBounds_toArray, List.set_cons_zero, List.set_cons_succ]
      refine wpAny_ready (rs := [10]) (by kernel_rfl) (by simp) ?_
      refine all_ready_yes (by rfl) (by kernel_rfl) ?_ AllReady.nil
      intro K hK
      with_reducible refine wp_store_blk 35 (.tmp 9) (.tmp 45) ?_ G 35 _ cs'' ?_ ?_ HPM.out.blk ?_ HC2.out.info HC2.out.one ?_
      · kernel_rfl
      · kernel_rfl
      · kernel_rfl
      · rw [HC2.out.size, HC'.out.size]
      intro w6 hB6 hO6 hz6
      have HPN := Lib.hid (HPM.out.put hB6 hO6)
      clear hB6 hO6 hz6
      simp only [Act.put, List.getElem_toArray, List.getElem_cons_succ, List.getElem_cons_zero, List.setIfInBounds_toArray, List.set_cons_zero, List.set_cons_succ]
      refine hK _ _ ?_
      clear hK K
      refine wpAny_done (by kernel_rfl) ?_ _
      go_wp2_with fail
      go_roundw
      case rel => exact ⟨k + 1, cs'', by omega, by go_num, HE.out ▸ HPN.out, HE.out ▸ HC2.out⟩
      case measure => simp [intOf]; omega
    obtain rfl : k = n := by omega
    obtain ⟨sk, hsk⟩ : ∃ s, s = after s0 xs k := ⟨_, rfl⟩
    rw [← hsk] at HGK HP HC'
    clear hsk
    go_wp2_with (refine wpl_load_blk rfl 35 _ rfl G rfl 35 cs' _ HP.out.blk Try.underlying35 rfl HC'.out.info ?_)
    refine (rsus_c cs' sk _ HC'.out HGK.out.fair.sane).mono ?_
    rintro e w6 ⟨⟨vl, rfl, hl⟩, hb⟩
    have hL9 : (sus sk.list sk.list.length).length ≤ 9 := by
      have h1 := sus_len sk.list sk.list.length
      have h2 := list_len sk
      have h3 := HGK.out.fair.sane.c2
      omega
    obtain ⟨L, hLe⟩ : ∃ L, L = sus sk.list sk.list.length := ⟨_, rfl⟩
    rw [← hLe] at hl hL9
    have HLe := Lib.hid hLe; clear hLe
    obtain ⟨al, cl, rfl, hna⟩ := nats_of hl
    have HP6 := Lib.hid (HP.out.below hb)
    have HN6 := Lib.hid hna
    have hb6 : b < wr.heap.size := HP.out.isw.lt
    clear hl hb hna
    go_wp2_with fail
    have hb7 := (Below.refl w6.heap.size w6).alloc (Nat.le_refl _) (.cells #[.slice al L.length cl] 40)
    have HP7 := Lib.hid (HP6.out.below hb7)
    have HN7 := Lib.hid (HN6.out.below hb7)
    have HL7 := Lib.hid (Boxed.new w6 40 (.slice al L.length cl))
    have hBLb : w6.heap.size ≠ b := Nat.ne_of_gt HP6.out.isw.lt
    obtain ⟨BL, hBL⟩ : ∃ BL, BL = w6.heap.size := ⟨_, rfl⟩
    rw [← hBL] at HL7 hBLb
    rw [← hBL]
    clear hb7 hBL
    generalize w6.alloc (.cells #[.slice al L.length cl] 40) = w7 at HP7 HN7 HL7 ⊢
    refine (suspects_any b sk _ HP7.out.isw HGK.out.fair.sane).mono ?_
    rintro e w8 ⟨Bs, g, rfl, hIt, hBs, hgs, hb⟩
    have HP8 := Lib.hid (HP7.out.below hb)
    have HN8 := Lib.hid (HN7.out.below hb)
    have HL8 := Lib.hid (Boxed.below HL7.out hb HL7.out.lt)
    have HI8 := Lib.hid hIt
    have hbL : b < w7.heap.size := HP7.out.isw.lt
    clear hb hIt
    obtain ⟨y0, y1, y2⟩ := HP8.out.cx
    go_wp2_with (refine wpl_load_blk rfl 35 _ rfl G rfl 35 cs' _ HP8.out.blk Try.underlying35 rfl HC'.out.info ?_)
    have hbI := HI8.out.1
    have hgI := HI8.out.2.1
    have hb8 : b < w8.heap.size := HP8.out.isw.lt
    refine (act_c b _ cs' x _ HP8.out.isw HGK.out.fair HC'.out).mono ?_
    rintro e w9 ⟨⟨csy, rfl, hcy⟩, hW9, hO9⟩
    clear y0 y1 y2
    have HCY := Lib.hid hcy
    have HP9 := Lib.hid (HP8.out.act hW9 hO9)
    have HN9 := Lib.hid (HN8.out.only hO9 hb6)
    have HL9 := Lib.hid (Boxed.only HL8.out hO9 hBLb)
    have HI9 := Lib.hid (HI8.out.kept hO9.size (hO9.block Bs hbI (fun e => by injection e; omega)) (hO9.block g hgI (fun e => by injection e; omega)))
    clear hcy hW9 hO9 HP8 HN8 HL8 HI8 hbI hgI hb8
    go_wp2_with (refine wpl_store_blk rfl 35 _ _ rfl w9.heap.size 35 _ csy rfl rfl (Blk.new w9 35 _) (by rw [HCY.out.size]; rfl) HCY.out.info HCY.out.one ?_; intro w10 hB10 hO10 hz10; have hb10 := ((Below.refl w9.heap.size w9).alloc (Nat.le_refl _) _).trans (hO10.below (B := w9.heap.size) (by simp) (Nat.le_refl _)); have HP10 := Lib.hid (HP9.out.below hb10); have HN10 := Lib.hid (HN9.out.below hb10); have HL10 := Lib.hid (Boxed.below HL9.out hb10 HL9.out.lt); have HI10 := Lib.hid (HI9.out.below hb10); clear hb10 hB10 hO10 hz10)
    have HV := Lib.hid (⟨HP10.out.bel, HP10.out.bm, HP10.out.br, HL10.out, HN10.out, HI10.out⟩ : LV w w10 BL Bs g wr.heap.size al cl L sk.list many)
    clear HP10 HN10 HL10 HI10 HP9 HN9 HL9 HI9 HP7 HN7 HL7 HCY HP6 HN6 hbL hb6 hBLb HP HC' hBs hgs
    obtain ⟨G2, hG2⟩ : ∃ G2, G2 = w9.heap.size := ⟨_, rfl⟩
    rw [← hG2]
    clear hG2
    obtain ⟨BT, hBT⟩ : ∃ M, M = w10.heap.size := ⟨_, rfl⟩
    have bT := Boxed.new w10 3 (.int .i64 0)
    have hb10 := (Below.refl w10.heap.size w10).alloc (Nat.le_refl _) (.cells #[.int .i64 0] 3)
    have HV0 := Lib.hid (HV.out.below hb10)
    rw [← hBT] at bT ⊢
    clear hBT hb10 HV
    generalize w10.alloc (.cells #[.int .i64 0] 3) = Z at bT HV0 ⊢
    have HT := Lib.hid bT
    clear bT
    refine (wpIn_wide (n := 5)).1 ?_
    refine wpIn_loop_rounds 3 ?_
    rw [roundsIn_succ]
    have hc := HT.out.cell
    have hnf := fun W => run_eql_func_nil W 34 #[.pointer (some ⟨Bs, 0, none⟩)]
    gi_wp2_with fail
    clear hnf hc
    have bN := Boxed.new Z 3 (.int .i64 0)
    have hbN := (Below.refl Z.heap.size Z).alloc (Nat.le_refl _) (.cells #[.int .i64 0] 3)
    have HI := Lib.hid (HV0.out.below hbN).it
    have hzN : (Z.alloc (.cells #[.int .i64 0] 3)).heap.size = Z.heap.size + 1 := by simp
    generalize Z.alloc (.cells #[.int .i64 0] 3) = Z1 at bN hbN HI hzN ⊢
    have HZN := Lib.hid hzN
    have hgZ : g < Z.heap.size := HV0.out.it.2.1
    clear hzN
    refine range_sus (.tmp 64) 65 18 Bs g sk.list rfl HI.out
      (fun pre W => Boxed W Z.heap.size 3 (.int .i64 (pre.length : Int)) ∧ Below Z.heap.size Z W ∧ pre <+: L ∧ (pre = [] ∨ (pre.length : Int) < many))
      (fun c pre W => (c = .ret ∧ ¬ pre <+: L) ∨ (c = .exit 4 ∧ (pre <+: L ∧ (pre.length : Int) = max 1 many) ∧ Boxed W Z.heap.size 3 (.int .i64 (pre.length : Int)) ∧ Below Z.heap.size Z W))
      ?hI ?hIx ⟨bN, hbN, List.nil_prefix, .inl rfl⟩ ?assign ?body ?done ?stop
    case hI =>
      exact OwnFrom.and (Own.from (boxed_own Z.heap.size 3 (fun pre : List Nat => .int .i64 (pre.length : Int))) _) (OwnFrom.and (ownFrom_below (Nat.le_refl _) (by have := HZN.out; omega)) (fun _ _ _ _ hs _ _ => hs))
    case hIx =>
      intro c s W W' row hs hg hr
      rcases hs with hs | ⟨h1, h2, h3, h4⟩
      · exact .inl hs
      · exact .inr ⟨h1, h2, (Own.from (boxed_own Z.heap.size 3 (fun pre : List Nat => .int .i64 (pre.length : Int))) _) s W W' row h3 hg hr, (ownFrom_below (β := List Nat) (Nat.le_refl _) (by have := HZN.out; omega)) s W W' row h4 hg hr⟩
    case assign =>
      intro l x W K hK
      simp only [List.setIfInBounds_toArray, List.set_cons_zero, List.set_cons_succ] at hK ⊢
      gi_wp2
      exact hK
    case body =>
      rintro l pre p W ⟨hn, hb, hpre, hm⟩ hlt
      simp only [List.setIfInBounds_toArray, List.set_cons_zero, List.set_cons_succ]
      have HVW := Lib.hid (HV0.out.below hb)
      have HTW := Lib.hid (Boxed.below HT.out hb HT.out.lt)
      have hcn := hn.cell
      have hfn := hn.frozen
      have hct := HTW.out.cell
      have hcl := HVW.out.bl.cell
      have hcm := HVW.out.bm.cell
      have hcr := HVW.out.br.cell
      have hfr := HVW.out.br.frozen
      have HN := Lib.hid hn
      have HB := Lib.hid hb
      have HPRE := Lib.hid hpre
      have HM := Lib.hid hm
      have hl1 : pre.length ≤ L.length := hpre.length_le
      clear hn hb hpre hm
      by_cases h1 : pre.length < L.length
      · obtain ⟨y, hy⟩ : ∃ y, L[pre.length]? = some y := ⟨L[pre.length], List.getElem?_eq_getElem h1⟩
        obtain ⟨gl, rfl, _, _, hcy⟩ := HVW.out.na _ _ hy
        by_cases h2 : p = y
        · subst h2
          have q1 : decide (L.length ≤ pre.length) = false := by simp; omega
          have q2 : BT ≠ Z.heap.size := Nat.ne_of_lt HT.out.lt
          have q3 : w.heap.size ≠ Z.heap.size := Nat.ne_of_lt HV0.out.bm.lt
          have q4 : (pre.length : Int) + 1 ≤ 9223372036854775807 := by omega
          have HY := Lib.hid hy; clear hy
          have HN2 := Lib.hid (Boxed.set (.int .i64 ((pre.length : Int) + 1)) HN.out)
          by_cases h3 : many ≤ (pre.length : Int) + 1
          · have h4 : (pre.length : Int) + 1 = max 1 many := by
              rcases HM.out with h | h
              · subst h; simp at h3 ⊢; omega
              · omega
            have H4 := Lib.hid h4; clear h4
            gi_wp2
            refine ⟨(KeepsOthers.setCell _ _ _).from _, .inr ⟨rfl, ⟨(pre_next HPRE.out).2 HY.out, ?_⟩, ?_, HB.out.setCell (Nat.le_refl _) _⟩⟩
            · simpa using H4.out
            · simpa using HN2.out
          · gi_wp2
            refine ⟨(KeepsOthers.setCell _ _ _).from _, Hold.set _ (Nat.ne_of_lt hgZ) _, ?_, HB.out.setCell (Nat.le_refl _) _, (pre_next HPRE.out).2 HY.out, .inr ?_⟩
            · simpa using HN2.out
            · simp; omega
        · have HY := Lib.hid hy; clear hy
          have q1 : decide (L.length ≤ pre.length) = false := by simp; omega
          have q2 : ((p : Int) != (y : Int)) = true := by simp; omega
          gi_wp2
          exact ⟨(KeepsOthers.setCell _ _ _).from _, .inl ⟨rfl, fun h => h2 (by have := (pre_next HPRE.out).1 h; rw [HY.out] at this; injection this with this; exact this.symm)⟩⟩
      · have q1 : decide (L.length ≤ pre.length) = true := by simp; omega
        gi_wp2
        exact ⟨(KeepsOthers.setCell _ _ _).from _, .inl ⟨rfl, fun h => h1 (by have := h.length_le; simp at this; omega)⟩⟩
    case' done =>
      intro D W hD hi hK
      rw [← HLe.out] at hi
      obtain ⟨hn, hb, -, hm⟩ := hi
      have HVW := Lib.hid (HV0.out.below hb)
      have HTW := Lib.hid (Boxed.below HT.out hb HT.out.lt)
      have HK := Lib.hid hK
      have hcn := hn.cell
      have hct := HTW.out.cell
      have hcl := HVW.out.bl.cell
      have hcm := HVW.out.bm.cell
      have HB := Lib.hid hb
      have HDZ := Lib.hid hD
      clear hb hK hn hD
      have hcs : (1 < many ∧ (L.length : Int) ≤ many) ∨ (many ≤ 1 ∧ (L.length : Int) ≤ 1) := by
        rcases hm with h | h
        · subst h; simp; omega
        · omega
      clear hm
      rcases hcs with ⟨h1, h2⟩ | ⟨h1, h2⟩
      all_goals
        gi_wp2_with fail
        clear hcn hct hcl hcm h1 h2
    case' stop =>
      intro D c pre W hD hp hi hK
      rw [← HLe.out] at hp
      obtain ⟨-, hx⟩ | ⟨rfl, ⟨hpre, hm⟩, hn, hb⟩ := hi
      case' inl => exact absurd hp hx
      case' inr =>
        have hpl := hp.length_le
        have HVW := Lib.hid (HV0.out.below hb)
        have HTW := Lib.hid (Boxed.below HT.out hb HT.out.lt)
        have HK := Lib.hid hK
        have hcn := hn.cell
        have hct := HTW.out.cell
        have hcl := HVW.out.bl.cell
        have hcm := HVW.out.bm.cell
        have HB := Lib.hid hb
        have HDZ := Lib.hid hD
        clear hb hK hn hD hpre hp
        have hcs : (1 < many ∧ many < (L.length : Int) ∧ (pre.length : Int) = many) ∨ (1 < many ∧ (L.length : Int) ≤ many ∧ (pre.length : Int) = (L.length : Int)) ∨ (many ≤ 1 ∧ 1 < (L.length : Int) ∧ (pre.length : Int) = 1) ∨ (many ≤ 1 ∧ (L.length : Int) ≤ 1 ∧ (pre.length : Int) = (L.length : Int)) := by omega
        clear hm hpl
        rcases hcs with ⟨h1, h2, e⟩ | ⟨h1, h2, e⟩ | ⟨h1, h2, e⟩ | ⟨h1, h2, e⟩
        all_goals
          rw [e] at hcn
          clear e
          gi_wp2_with fail
          clear hcn hct hcl hcm h1 h2
    all_goals
      have hDw : w.heap.size + 2 < D := by have h1 := HDZ.out; have h2 := HZN.out; have h3 := HV0.out.br.lt; omega
      have hDW : D < W.heap.size := (Array.getElem?_eq_some_iff.1 HK.out).1
      obtain ⟨BU, hBU⟩ : ∃ M, M = W.heap.size := ⟨_, rfl⟩
      have bT := Boxed.new W 3 (.int .i64 1)
      have hb2 := (Below.refl W.heap.size W).alloc (Nat.le_refl _) (.cells #[.int .i64 1] 3)
      have HV2 := Lib.hid (HVW.out.below hb2)
      have HD2 := Lib.hid ((hb2.block D hDW).trans HK.out)
      have HDw := Lib.hid hDw
      rw [← hBU] at bT ⊢
      clear hBU hb2 HVW HTW HK HB HT HV0 HZN HI hgZ hDw hDW HDZ
      generalize W.alloc (.cells #[.int .i64 1] 3) = Y at bT HV2 HD2 ⊢
      have HT := Lib.hid bT
      clear bT
      rw [roundsIn_succ]
      have hc := HT.out.cell
      have hnf := fun W => run_eql_func_nil W 34 #[.pointer (some ⟨Bs, 0, none⟩)]
      gi_wp2_with fail
      clear hnf hc
      have bN := Boxed.new Y 3 (.int .i64 0)
      have hbN := (Below.refl Y.heap.size Y).alloc (Nat.le_refl _) (.cells #[.int .i64 0] 3)
      have HI := Lib.hid (HV2.out.below hbN).it
      have hzN : (Y.alloc (.cells #[.int .i64 0] 3)).heap.size = Y.heap.size + 1 := by simp
      generalize Y.alloc (.cells #[.int .i64 0] 3) = Y1 at bN hbN HI hzN ⊢
      have HZN := Lib.hid hzN
      have hgZ : g < Y.heap.size := HV2.out.it.2.1
      clear hzN
      refine range_sus (.tmp 64) 65 18 Bs g sk.list rfl HI.out
        (fun pre W => Boxed W Y.heap.size 3 (.int .i64 (pre.length : Int)) ∧ Below Y.heap.size Y W ∧ pre <+: L)
        (fun c pre W => c = .ret ∧ ¬ pre <+: L)
        ?_ ?_ ⟨bN, hbN, List.nil_prefix⟩ ?_ ?_ ?_ ?_
      · exact OwnFrom.and (Own.from (boxed_own Y.heap.size 3 (fun pre : List Nat => .int .i64 (pre.length : Int))) _) (OwnFrom.and (ownFrom_below (Nat.le_refl _) (by have := HZN.out; omega)) (fun _ _ _ _ hs _ _ => hs))
      · exact fun c s W W' row hs hg hr => hs
      · intro l x W K hK
        simp only [List.setIfInBounds_toArray, List.set_cons_zero, List.set_cons_succ] at hK ⊢
        gi_wp2
        exact hK
      · rintro l pre p W ⟨hn, hb, hpre⟩ hlt
        simp only [List.setIfInBounds_toArray, List.set_cons_zero, List.set_cons_succ]
        have HVW := Lib.hid (HV2.out.below hb)
        have HTW := Lib.hid (Boxed.below HT.out hb HT.out.lt)
        have hcn := hn.cell
        have hfn := hn.frozen
        have hct := HTW.out.cell
        have hcl := HVW.out.bl.cell
        have hcm := HVW.out.bm.cell
        have hcr := HVW.out.br.cell
        have hfr := HVW.out.br.frozen
        have HN := Lib.hid hn
        have HB := Lib.hid hb
        have HPRE := Lib.hid hpre
        have hl1 : pre.length ≤ L.length := hpre.length_le
        clear hn hb hpre
        by_cases h1 : pre.length < L.length
        · obtain ⟨y, hy⟩ : ∃ y, L[pre.length]? = some y := ⟨L[pre.length], List.getElem?_eq_getElem h1⟩
          obtain ⟨gl, rfl, _, _, hcy⟩ := HVW.out.na _ _ hy
          by_cases h2 : p = y
          · subst h2
            have q1 : decide (L.length ≤ pre.length) = false := by simp; omega
            have q2 : BU ≠ Y.heap.size := Nat.ne_of_lt HT.out.lt
            have q3 : w.heap.size ≠ Y.heap.size := Nat.ne_of_lt HV2.out.bm.lt
            have q4 : (pre.length : Int) + 1 ≤ 9223372036854775807 := by omega
            have HY := Lib.hid hy; clear hy
            have HN2 := Lib.hid (Boxed.set (.int .i64 ((pre.length : Int) + 1)) HN.out)
            gi_wp2
            refine ⟨(KeepsOthers.setCell _ _ _).from _, Hold.set _ (Nat.ne_of_lt hgZ) _, ?_, HB.out.setCell (Nat.le_refl _) _, (pre_next HPRE.out).2 HY.out⟩
            simpa using HN2.out
          · have HY := Lib.hid hy; clear hy
            have q1 : decide (L.length ≤ pre.length) = false := by simp; omega
            have q2 : ((p : Int) != (y : Int)) = true := by simp; omega
            gi_wp2
            exact ⟨(KeepsOthers.setCell _ _ _).from _, rfl, fun h => h2 (by have := (pre_next HPRE.out).1 h; rw [HY.out] at this; injection this with this; exact this.symm)⟩
        · have q1 : decide (L.length ≤ pre.length) = true := by simp; omega
          gi_wp2
          exact ⟨(KeepsOthers.setCell _ _ _).from _, rfl, fun h => h1 (by have := h.length_le; simp at this; omega)⟩
      · intro E W hE hi hK
        rw [← HLe.out] at hi
        obtain ⟨hn, hb, -⟩ := hi
        have HVW := Lib.hid (HV2.out.below hb)
        have HTW := Lib.hid (Boxed.below HT.out hb HT.out.lt)
        have hDY : D < Y.heap.size := (Array.getElem?_eq_some_iff.1 HD2.out).1
        have HDW := Lib.hid ((hb.block D hDY).trans HD2.out)
        have HK := Lib.hid hK
        have HEw : Hid (D < E) := Lib.hid (by have := HZN.out; omega)
        have hcn := hn.cell
        have hct := HTW.out.cell
        have hcl := HVW.out.bl.cell
        have hcm := HVW.out.bm.cell
        clear hb hK hn hE hDY
        gi_wp2_with fail
        clear hcn hct hcl hcm
        have hb3 := (Below.refl W.heap.size W).alloc (Nat.le_refl _) (.cells #[.int .i64 2] 3)
        have hc : (W.alloc (.cells #[.int .i64 2] 3)).cell? ⟨W.heap.size, 0, none⟩ = some (.int .i64 2) := blk0 rfl
        have HV3 := Lib.hid (HVW.out.below hb3)
        have HD3 := Lib.hid ((hb3.block D ((Array.getElem?_eq_some_iff.1 HDW.out).1)).trans HDW.out)
        have HE3 := Lib.hid ((hb3.block E ((Array.getElem?_eq_some_iff.1 HK.out).1)).trans HK.out)
        clear hb3 HVW HTW HDW HK
        generalize W.alloc (.cells #[.int .i64 2] 3) = V at hc HV3 HD3 HE3 ⊢
        rw [roundsIn_succ]
        gi_wp2_with fail
        clear hc
        go_wp2_with fail
        refine (num_any _ _).mono ?_
        rintro e w' ⟨rfl, rfl⟩
        go_wp2_with fail
        refine (works_any _).mono ?_
        rintro e w' ⟨rfl, hb⟩
        have HVE := Lib.hid (HV3.out.below hb)
        have HDE := Lib.hid ((hb.block D ((Array.getElem?_eq_some_iff.1 HD3.out).1)).trans HD3.out)
        have HEE := Lib.hid ((hb.block E ((Array.getElem?_eq_some_iff.1 HE3.out).1)).trans HE3.out)
        clear hb
        have hcr := HVE.out.br.cell
        have hfr := HVE.out.br.frozen
        go_wp2_with fail
        refine NoPan.mk ?_
        have hdw := HDw.out
        have hew := HEw.out
        have hF1 : (w'.setCell ⟨w.heap.size + 1 + 1, 0, none⟩ (.bool true)).heap[E]? = some (.deferred (some [])) := (Below.heap_setCell w' ⟨w.heap.size + 1 + 1, 0, none⟩ _ E (by simp; omega)).trans HEE.out
        have hF2 : ((w'.setCell ⟨w.heap.size + 1 + 1, 0, none⟩ (.bool true)).putObj E (.deferred none)).heap[D]? = some (.deferred (some [])) := (World.putObj_heap_other (by omega)).trans ((Below.heap_setCell w' ⟨w.heap.size + 1 + 1, 0, none⟩ _ D (by simp; omega)).trans HDE.out)
        have hR : (((w'.setCell ⟨w.heap.size + 1 + 1, 0, none⟩ (.bool true)).putObj E (.deferred none)).putObj D (.deferred none)).cell? ⟨w.heap.size + 1 + 1, 0, none⟩ = some (.bool true) := by
          have h1 := (Boxed.set (.bool true) HVE.out.br)
          have h2 : Boxed (((w'.setCell ⟨w.heap.size + 2, 0, none⟩ (.bool true)).putObj E (.deferred none)).putObj D (.deferred none)) (w.heap.size + 2) 4 (.bool true) := (World.putObj_heap_other (by omega)).trans ((World.putObj_heap_other (by omega)).trans h1)
          exact h2.cell
        have hB : Below w.heap.size w (((w'.setCell ⟨w.heap.size + 1 + 1, 0, none⟩ (.bool true)).putObj E (.deferred none)).putObj D (.deferred none)) := by
          have b1 := HVE.out.bel.setCell (p := ⟨w.heap.size + 1 + 1, 0, none⟩) (by simp; omega) (.bool true)
          have b2 := b1.trans (belowK_b (w := w) (Nat.le_refl _) _ E _ (.deferred none) (by omega) hF1 rfl rfl)
          exact b2.trans (belowK_b (w := w) (Nat.le_refl _) _ D _ (.deferred none) (by omega) hF2 rfl rfl)
        refine ⟨by simp, .inl ⟨_, _, rfl, run_takeDeferred hF1, ?_⟩⟩
        refine ⟨by simp, .inl ⟨_, _, rfl, run_takeDeferred hF2, ?_⟩⟩
        generalize World.putObj _ D _ = V' at hR hB ⊢
        clear hF1 hF2
        exact ⟨.bool true, by simp [results, Try.results3, go_sem, hR], rfl, hB⟩
      · intro D c pre W hD hp hi hK
        rw [← HLe.out] at hp
        exact absurd hp hi.2
theorem leaves_walk (a : Option Addr) (n cap : Nat) (xs : List Ac) (many : Int) (x : Ac) (w : World) (ha : Acts w a n xs) :
    Calls Try.prog 3 #[.slice a n cap, .int .i64 many, x.val] w fun e w' => e = .returned (.bool true) ∧ Below w.heap.size w w' := callsIn_wide.1 (leaves_in a n cap xs many x w ha)
end Go.Proofs.Ytgajbaipkhopkaa
