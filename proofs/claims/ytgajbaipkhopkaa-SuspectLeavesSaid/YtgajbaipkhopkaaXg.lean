/- A call by both. -/
import Derived.Test.YtgajbaipkhopkaaXf
namespace Go.Proofs.Ytgajbaipkhopkaa
open Go.RowKit
set_option linter.unusedSimpArgs false
set_option linter.unusedVariables false

theorem all_ready_yes {P : Program} {ops : Array Oper} {Q : Exit → Act → World → Prop} {md : Region.Mode} {fuel : Nat} {listed : Array Bool} {a : Act} {w : World} {i : Nat} {o : Oper} {rs : List Nat} (ho : ops[i]? = some o)
    (hw : Region.wanted o (yielded ops a.tmps) = true)
    (h : ∀ K' : Act → World → Prop, (∀ a w, wpAny P md ops Q fuel (listed.setIfInBounds i true) a w → K' a w) → Oper.wp P o a w K' Q)
    (hs : AllReady P md ops Q fuel listed a w rs) : AllReady P md ops Q fuel listed a w (i :: rs) :=
  AllReady.cons ho (fun K' hK => by rw [if_pos hw]; exact h K' hK) hs
theorem IsW.far2 {w w' : World} {b g : Nat} {s : St} (h : IsW w b s) (hO : Only g w w') (hne : b ≠ g) : IsW w' b s := by obtain ⟨cs, h1, hc⟩ := h; exact ⟨cs, hO.blk h1 hne, hc⟩
theorem Only.trans2 {a w w' : World} {b g : Nat} (h : Only b a w) (hO : Only g w w') (hg : a.heap.size ≤ g) : Only b a w' :=
  h.grown hO (fun k e => .inr (by injection e with e; omega))
set_option maxHeartbeats 2000000 in
theorem act_hear (b : Nat) (s : St) (cs : Array Value) (p n : Int) (w : World) (hW : IsW w b s) (hs : Fair s) (h : RC cs s) :
    Calls Try.prog 11 #[.pointer (some ⟨b, 0, none⟩), .agg cs, .agg #[.bool true, .int .i64 p, .int .i64 n]] w fun e w' => (∃ cs', e = .returned (.tuple #[.agg cs', .bool true]) ∧ RC cs' (hearS s p)) ∧ IsW w' b (hearS s p) ∧ Only b w w' := by
  have hB := (((Below.refl w.heap.size w).alloc (Nat.le_refl _) (.cells cs 35)).alloc (by simp) (.cells #[.bool true, .int .i64 p, .int .i64 n] 24)).alloc (by simp; omega) (.cells Z35 35)
  have hX : Blk (((w.alloc (.cells cs 35)).alloc (.cells #[.bool true, .int .i64 p, .int .i64 n] 24)).alloc (.cells Z35 35)) (w.heap.size + 1) 24 #[.bool true, .int .i64 p, .int .i64 n] := (Blk.new2 w _ 24 _).alloc _
  have hZ : Blk (((w.alloc (.cells cs 35)).alloc (.cells #[.bool true, .int .i64 p, .int .i64 n] 24)).alloc (.cells Z35 35)) (w.heap.size + 1 + 1) 35 Z35 := by
    have := Blk.new2 (w.alloc (.cells cs 35)) (.cells #[.bool true, .int .i64 p, .int .i64 n] 24) 35 Z35
    rwa [World.size_alloc] at this
  have HW := Lib.hid (hW.below hB hW.lt); have HR := Lib.hid h
  have hblt := hW.lt
  have HSZ := Lib.hid hB.size
  clear hW h
  unfold Z35 at hX hZ hB HW HSZ
  go_enter Try.func11, Try.ntmps11
  go_wp2_with (first | (refine wpl_load_blk rfl 35 _ rfl w.heap.size rfl 35 cs _ (((Blk.new w 35 cs).alloc _).alloc _) Try.underlying35 rfl HR.out.info ?_))
  generalize ((w.alloc (.cells cs 35)).alloc (.cells #[.bool true, .int .i64 p, .int .i64 n] 24)).alloc _ = w2 at hX hZ hB HW HSZ ⊢
  have HX := Lib.hid hX; have HZ := Lib.hid hZ; have HB := Lib.hid hB
  clear hX hZ hB
  refine (rhear_any cs s p _ HR.out hs).mono ?_
  rintro e w3 ⟨⟨cs', rfl, hr⟩, hb⟩
  have HR3 := Lib.hid hr
  have HW3 := Lib.hid (HW.out.below hb (by have := HSZ.out; omega))
  have HX3 := Lib.hid (HX.out.below hb HX.out.lt)
  have HZ3 := Lib.hid (HZ.out.below hb HZ.out.lt)
  have HB3 := Lib.hid (HB.out.trans (hb.mono HB.out.size))
  clear hr hb HW HX HZ HB HSZ
  go_wp2_with (refine wpl_store_blk rfl 35 _ _ rfl w3.heap.size 35 _ cs' rfl rfl (Blk.new w3 35 _) (by rw [HR3.out.size]; rfl) HR3.out.info HR3.out.one ?_; intro w4 hB4 hO4 hz4; have x4 : w4.cell? ⟨w.heap.size + 1, 1, none⟩ = some (.int .i64 p) := (hO4.blk (HX3.out.alloc _) (Nat.ne_of_lt HX3.out.lt)).cell (i := 1) rfl)
  have hbz := hO4.below (B := w3.heap.size) (by simp) (Nat.le_refl _)
  have hb34 := ((Below.refl w3.heap.size w3).alloc (Nat.le_refl _) _).trans hbz
  have HB4 := Lib.hid hB4
  have HW4 := Lib.hid (HW3.out.below hb34 HW3.out.lt)
  have HZ4 := Lib.hid (HZ3.out.below hb34 HZ3.out.lt)
  have HBB := Lib.hid (HB3.out.trans (hb34.mono HB3.out.size))
  have hlt3 : w.heap.size + 1 + 1 < w3.heap.size := HZ3.out.lt
  clear hB4 hO4 hz4 hbz hb34 x4 HW3 HX3 HZ3 HB3
  refine (hear_any b s p _ HW4.out hs).mono ?_
  rintro e w5 ⟨rfl, hW5, hO5⟩
  have HW5 := Lib.hid hW5
  have HB5 := Lib.hid (hO5.blk HB4.out (by omega))
  have HZ5 := Lib.hid (hO5.blk HZ4.out (by omega))
  have HO5 := Lib.hid (((Only.of_below HBB.out b)).trans hO5)
  clear hW5 hO5 HB4 HZ4 HBB HW4
  obtain ⟨u, hu⟩ : ∃ u, u = hearB s p := ⟨_, rfl⟩
  obtain ⟨en, hen⟩ : ∃ u, u = hearE s p := ⟨_, rfl⟩
  rw [← hu, ← hen]
  clear hu hen
  go_wp2_with fail
  refine wp_region_any (by kernel_rfl) ?_
  change wpAny _ _ _ _ _ _ _ (World.drew _)
  have HWA := Lib.hid HW5.out.drew
  have HBA := Lib.hid HB5.out.drew
  have HZA := Lib.hid HZ5.out.drew
  have HOA := Lib.hid HO5.out.drew
  clear HW5 HB5 HZ5 HO5
  generalize w5.drew = wA at HWA HBA HZA HOA ⊢
  refine wpAny_take (i := 1) (v := .bool u) rfl (by kernel_rfl) (by kernel_rfl) (by kernel_rfl) (fun _ _ _ h => h) (Or.inl ⟨by kernel_rfl, fun w => ?_⟩) ?_
  · go_simp
  try simp only [Act.put, List.setIfInBounds_toArray, List.set_cons_zero, List.set_cons_succ]
  refine wpAny_take (i := 2) (v := .bool u) rfl (by kernel_rfl) (by kernel_rfl) (by kernel_rfl) (fun _ _ _ h => h) (Or.inl ⟨by kernel_rfl, fun w => ?_⟩) ?_
  · go_simp
  try simp only [Act.put, List.setIfInBounds_toArray, List.set_cons_zero, List.set_cons_succ]
  refine wpAny_take (i := 3) (v := .bool true) rfl (by kernel_rfl) (by kernel_rfl) (by kernel_rfl) (fun _ _ _ h => h) (Or.inl ⟨by kernel_rfl, fun w => ?_⟩) ?_
  · go_simp
  try simp only [Act.put, List.setIfInBounds_toArray, List.set_cons_zero, List.set_cons_succ]
  refine wpAny_take (i := 4) (v := .bool true) rfl (by kernel_rfl) (by kernel_rfl) (by kernel_rfl) (fun _ _ _ h => h) (Or.inl ⟨by kernel_rfl, fun w => ?_⟩) ?_
  · go_simp
  try simp only [Act.put, List.setIfInBounds_toArray, List.set_cons_zero, List.set_cons_succ]
  refine wpAny_take (i := 5) (v := .int .i64 en) rfl (by kernel_rfl) (by kernel_rfl) (by kernel_rfl) (fun _ _ _ h => h) (Or.inl ⟨by kernel_rfl, fun w => ?_⟩) ?_
  · go_simp
  try simp only [Act.put, List.setIfInBounds_toArray, List.set_cons_zero, List.set_cons_succ]
  refine wpAny_take (i := 7) (v := .int .i64 en) rfl (by kernel_rfl) (by kernel_rfl) (by kernel_rfl) (fun _ _ _ h => h) (Or.inl ⟨by kernel_rfl, fun w => ?_⟩) ?_
  · go_simp
  try simp only [Act.put, List.setIfInBounds_toArray, List.set_cons_zero, List.set_cons_succ]
  refine wpAny_ready (rs := [0, 6]) (by kernel_rfl) (by simp) ?_
  refine all_ready_yes (by rfl) (by kernel_rfl) ?_ ?_
  · intro K hK
    with_reducible refine wp_load_blk 35 (.tmp 8) ?_ w3.heap.size ?_ 35 cs' _ HBA.out Try.underlying35 ?_ HR3.out.info ?_
    · kernel_rfl
    · kernel_rfl
    · kernel_rfl
    simp only [Act.put, List.setIfInBounds_toArray, List.set_cons_zero, List.set_cons_succ]
    refine hK _ _ ?_
    clear hK K
    refine wpAny_ready (rs := [6]) (by kernel_rfl) (by simp) ?_
    refine AllReady.cons (by rfl) ?_ AllReady.nil
    intro K hK
    go_simp
    refine (num_any _ _).mono ?_
    rintro e w' ⟨rfl, rfl⟩
    refine hK _ _ ?_
    clear hK K
    refine wpAny_take (i := 8) (v := .bool true) rfl (by kernel_rfl) (by kernel_rfl) (by kernel_rfl) (fun _ _ _ h => h) (Or.inl ⟨by kernel_rfl, fun w => ?_⟩) ?_
    · go_simp
    try simp only [Act.put, List.setIfInBounds_toArray, List.set_cons_zero, List.set_cons_succ]
    refine wpAny_take (i := 9) (v := .bool true) rfl (by kernel_rfl) (by kernel_rfl) (by kernel_rfl) (fun _ _ _ h => h) (Or.inl ⟨by kernel_rfl, fun w => ?_⟩) ?_
    · go_simp
    try simp only [Act.put, List.setIfInBounds_toArray, List.set_cons_zero, List.set_cons_succ]
    refine wpAny_ready (rs := [10]) (by kernel_rfl) (by simp) ?_
    refine all_ready_yes (by rfl) (by kernel_rfl) ?_ AllReady.nil
    intro K hK
    with_reducible refine wp_store_blk 35 (.tmp 6) (.tmp 35) ?_ (w.heap.size + 1 + 1) 35 _ cs' ?_ ?_ HZA.out ?_ HR3.out.info HR3.out.one ?_
    · kernel_rfl
    · kernel_rfl
    · kernel_rfl
    · rw [HR3.out.size]; kernel_rfl
    intro w6 hB6 hO6 hz6
    simp only [Act.put, List.setIfInBounds_toArray, List.set_cons_zero, List.set_cons_succ]
    refine hK _ _ ?_
    clear hK K
    refine wpAny_ready (rs := [11]) (by kernel_rfl) (by simp) ?_
    refine AllReady.cons (by rfl) ?_ AllReady.nil
    intro K hK
    go_simp
    refine hK _ _ ?_
    clear hK K
    refine wpAny_done (by kernel_rfl) ?_ _
    go_wp2_with fail
    exact bodyPost_ret (results_cell2 rfl _ _ (w.heap.size + 1 + 1) 35 _ _ rfl hB6 Try.underlying35 rfl HR3.out.info) rfl ⟨⟨cs', rfl, HR3.out⟩, HWA.out.far2 hO6 (by omega), HOA.out.trans2 hO6 (by omega)⟩
  refine AllReady.cons (by rfl) ?_ AllReady.nil
  intro K hK
  go_simp
  refine (num_any _ _).mono ?_
  rintro e w' ⟨rfl, rfl⟩
  refine hK _ _ ?_
  clear hK K
  refine wpAny_take (i := 8) (v := .bool true) rfl (by kernel_rfl) (by kernel_rfl) (by kernel_rfl) (fun _ _ _ h => h) (Or.inl ⟨by kernel_rfl, fun w => ?_⟩) ?_
  · go_simp
  try simp only [Act.put, List.setIfInBounds_toArray, List.set_cons_zero, List.set_cons_succ]
  refine wpAny_take (i := 9) (v := .bool true) rfl (by kernel_rfl) (by kernel_rfl) (by kernel_rfl) (fun _ _ _ h => h) (Or.inl ⟨by kernel_rfl, fun w => ?_⟩) ?_
  · go_simp
  try simp only [Act.put, List.setIfInBounds_toArray, List.set_cons_zero, List.set_cons_succ]
  refine wpAny_ready (rs := [0]) (by kernel_rfl) (by simp) ?_
  refine all_ready_yes (by rfl) (by kernel_rfl) ?_ AllReady.nil
  intro K hK
  with_reducible refine wp_load_blk 35 (.tmp 8) ?_ w3.heap.size ?_ 35 cs' _ HBA.out Try.underlying35 ?_ HR3.out.info ?_
  · kernel_rfl
  · kernel_rfl
  · kernel_rfl
  simp only [Act.put, List.setIfInBounds_toArray, List.set_cons_zero, List.set_cons_succ]
  refine hK _ _ ?_
  clear hK K
  refine wpAny_ready (rs := [10]) (by kernel_rfl) (by simp) ?_
  refine all_ready_yes (by rfl) (by kernel_rfl) ?_ AllReady.nil
  intro K hK
  with_reducible refine wp_store_blk 35 (.tmp 6) (.tmp 35) ?_ (w.heap.size + 1 + 1) 35 _ cs' ?_ ?_ HZA.out ?_ HR3.out.info HR3.out.one ?_
  · kernel_rfl
  · kernel_rfl
  · kernel_rfl
  · rw [HR3.out.size]; kernel_rfl
  intro w6 hB6 hO6 hz6
  simp only [Act.put, List.setIfInBounds_toArray, List.set_cons_zero, List.set_cons_succ]
  refine hK _ _ ?_
  clear hK K
  refine wpAny_ready (rs := [11]) (by kernel_rfl) (by simp) ?_
  refine AllReady.cons (by rfl) ?_ AllReady.nil
  intro K hK
  go_simp
  refine hK _ _ ?_
  clear hK K
  refine wpAny_done (by kernel_rfl) ?_ _
  go_wp2_with fail
  exact bodyPost_ret (results_cell2 rfl _ _ (w.heap.size + 1 + 1) 35 _ _ rfl hB6 Try.underlying35 rfl HR3.out.info) rfl ⟨⟨cs', rfl, HR3.out⟩, HWA.out.far2 hO6 (by omega), HOA.out.trans2 hO6 (by omega)⟩
theorem tickL_len {s : St} (hs : Fair s) (n : Int) : (tickL s n).length ≤ 1000000 := by
  unfold tickL
  split
  · have := outs_len (s.setNow (s.now + n)) s.c.toNat
    have := hs.sane.c2
    show ((s.setNow (s.now + n)).outs s.c.toNat).length ≤ _
    omega
  · simp
set_option maxHeartbeats 2000000 in
theorem act_tick (b : Nat) (s : St) (cs : Array Value) (p n : Int) (w : World) (hW : IsW w b s) (hs : Fair s) (h : RC cs s) :
    Calls Try.prog 11 #[.pointer (some ⟨b, 0, none⟩), .agg cs, .agg #[.bool false, .int .i64 p, .int .i64 n]] w fun e w' => (∃ cs', e = .returned (.tuple #[.agg cs', .bool true]) ∧ RC cs' (tickS s n)) ∧ IsW w' b (tickS s n) ∧ Only b w w' := by
  have hB := (((Below.refl w.heap.size w).alloc (Nat.le_refl _) (.cells cs 35)).alloc (by simp) (.cells #[.bool false, .int .i64 p, .int .i64 n] 24)).alloc (by simp; omega) (.cells Z35 35)
  have hX : Blk (((w.alloc (.cells cs 35)).alloc (.cells #[.bool false, .int .i64 p, .int .i64 n] 24)).alloc (.cells Z35 35)) (w.heap.size + 1) 24 #[.bool false, .int .i64 p, .int .i64 n] := (Blk.new2 w _ 24 _).alloc _
  have hZ : Blk (((w.alloc (.cells cs 35)).alloc (.cells #[.bool false, .int .i64 p, .int .i64 n] 24)).alloc (.cells Z35 35)) (w.heap.size + 1 + 1) 35 Z35 := by
    have := Blk.new2 (w.alloc (.cells cs 35)) (.cells #[.bool false, .int .i64 p, .int .i64 n] 24) 35 Z35
    rwa [World.size_alloc] at this
  have HW := Lib.hid (hW.below hB hW.lt); have HR := Lib.hid h
  have hblt := hW.lt
  have HSZ := Lib.hid hB.size
  clear hW h
  unfold Z35 at hX hZ hB HW HSZ
  go_enter Try.func11, Try.ntmps11
  go_wp2_with (first | (refine wpl_load_blk rfl 35 _ rfl w.heap.size rfl 35 cs _ (((Blk.new w 35 cs).alloc _).alloc _) Try.underlying35 rfl HR.out.info ?_))
  generalize ((w.alloc (.cells cs 35)).alloc (.cells #[.bool false, .int .i64 p, .int .i64 n] 24)).alloc _ = w2 at hX hZ hB HW HSZ ⊢
  have HX := Lib.hid hX; have HZ := Lib.hid hZ; have HB := Lib.hid hB
  clear hX hZ hB
  refine (rtick_any cs s n _ HR.out hs).mono ?_
  rintro e w3 ⟨⟨cs', v, rfl, hr, hv⟩, hb⟩
  have HV3 := Lib.hid (hv.low HSZ.out); clear hv
  have HR3 := Lib.hid hr
  have HW3 := Lib.hid (HW.out.below hb (by have := HSZ.out; omega))
  have HX3 := Lib.hid (HX.out.below hb HX.out.lt)
  have HZ3 := Lib.hid (HZ.out.below hb HZ.out.lt)
  have HB3 := Lib.hid (HB.out.trans (hb.mono HB.out.size))
  clear hr hb HW HX HZ HB HSZ
  go_wp2_with (refine wpl_store_blk rfl 35 _ _ rfl w3.heap.size 35 _ cs' rfl rfl (Blk.new w3 35 _) (by rw [HR3.out.size]; rfl) HR3.out.info HR3.out.one ?_; intro w4 hB4 hO4 hz4; have x4 : w4.cell? ⟨w.heap.size + 1, 2, none⟩ = some (.int .i64 n) := (hO4.blk (HX3.out.alloc _) (Nat.ne_of_lt HX3.out.lt)).cell (i := 2) rfl)
  have hbz := hO4.below (B := w3.heap.size) (by simp) (Nat.le_refl _)
  have hb34 := ((Below.refl w3.heap.size w3).alloc (Nat.le_refl _) _).trans hbz
  have HB4 := Lib.hid hB4
  have HW4 := Lib.hid (HW3.out.below hb34 HW3.out.lt)
  have HZ4 := Lib.hid (HZ3.out.below hb34 HZ3.out.lt)
  have HV4 := Lib.hid (kept_only HV3.out (Only.of_below hb34 b) hblt)
  have HBB := Lib.hid (HB3.out.trans (hb34.mono HB3.out.size))
  have hlt3 : w.heap.size + 1 + 1 < w3.heap.size := HZ3.out.lt
  clear hB4 hO4 hz4 hbz hb34 x4 HW3 HX3 HZ3 HB3
  refine (tick_any b s n _ HW4.out hs).mono ?_
  rintro e w5 ⟨⟨v2, rfl, hv2⟩, hW5, hO5⟩
  have HV2' := Lib.hid hv2.ri; clear hv2
  have HW5 := Lib.hid hW5
  have HB5 := Lib.hid (hO5.blk HB4.out (by omega))
  have HZ5 := Lib.hid (hO5.blk HZ4.out (by omega))
  have HV5 := Lib.hid (kept_only HV4.out hO5 hblt).ri
  have HO5 := Lib.hid (((Only.of_below HBB.out b)).trans hO5)
  clear hW5 hO5 HB4 HZ4 HBB HW4
  obtain ⟨en, hen⟩ : ∃ u, u = tickE s n := ⟨_, rfl⟩
  rw [← hen]
  clear hen
  have HL := Lib.hid (tickL_len hs n)
  go_wp2_with fail
  refine wp_region_any (by kernel_rfl) ?_
  change wpAny _ _ _ _ _ _ _ (World.drew _)
  have HWA := Lib.hid HW5.out.drew
  have HBA := Lib.hid HB5.out.drew
  have HZA := Lib.hid HZ5.out.drew
  have HOA := Lib.hid HO5.out.drew
  have HV1 := Lib.hid (HV5.out.kept ((Below.refl _ _).drew))
  have HV2 := Lib.hid (HV2'.out.kept ((Below.refl _ _).drew))
  clear HW5 HB5 HZ5 HO5 HV5 HV2'
  generalize w5.drew = wA at HWA HBA HZA HOA HV1 HV2 ⊢
  refine wpAny_take (i := 1) (v := v) rfl (by kernel_rfl) (by kernel_rfl) (by kernel_rfl) (fun _ _ _ h => h) (Or.inl ⟨by kernel_rfl, fun w => ?_⟩) ?_
  · go_simp
  try simp only [Act.put, List.setIfInBounds_toArray, List.set_cons_zero, List.set_cons_succ]
  refine wpAny_take (i := 2) (v := v2) rfl (by kernel_rfl) (by kernel_rfl) (by kernel_rfl) (fun _ _ _ h => h) (Or.inl ⟨by kernel_rfl, fun w => ?_⟩) ?_
  · go_simp
  try simp only [Act.put, List.setIfInBounds_toArray, List.set_cons_zero, List.set_cons_succ]
  refine wpAny_ready (rs := [0, 3]) (by kernel_rfl) (by simp) ?_
  refine all_ready_yes (by rfl) (by kernel_rfl) ?_ ?_
  · intro K hK
    first | (with_reducible refine wp_load_blk 35 (.tmp 13) ?_ w3.heap.size ?_ 35 cs' _ HBA.out Try.underlying35 ?_ HR3.out.info ?_) | (with_reducible refine wp_load_blk 35 (.tmp 13) ?_ w3.heap.size ?_ 35 cs' _ HBB.out Try.underlying35 ?_ HR3.out.info ?_)
    · kernel_rfl
    · kernel_rfl
    · kernel_rfl
    simp only [Act.put, List.setIfInBounds_toArray, List.set_cons_zero, List.set_cons_succ]
    refine hK _ _ ?_
    clear hK K
    refine wpAny_ready (rs := [3]) (by kernel_rfl) (by simp) ?_
    refine AllReady.cons (by rfl) ?_ AllReady.nil
    intro K hK
    go_simp
    refine (ints_as v v2 _ _ true _ HV1.out HV2.out HL.out (by simp)).mono ?_
    rintro e wB ⟨rfl, hb⟩
    have HWB := Lib.hid (HWA.out.below hb HWA.out.lt)
    have HBB := Lib.hid (HBA.out.below hb HBA.out.lt)
    have HZB := Lib.hid (HZA.out.below hb HZA.out.lt)
    have HOB := Lib.hid (HOA.out.trans (Only.of_below hb b))
    clear hb
    refine hK _ _ ?_
    clear hK K
    refine wpAny_take (i := 4) (v := .bool true) rfl (by kernel_rfl) (by kernel_rfl) (by kernel_rfl) (fun _ _ _ h => h) (Or.inl ⟨by kernel_rfl, fun w => ?_⟩) ?_
    · go_simp
    try simp only [Act.put, List.setIfInBounds_toArray, List.set_cons_zero, List.set_cons_succ]
    refine wpAny_take (i := 5) (v := .int .i64 en) rfl (by kernel_rfl) (by kernel_rfl) (by kernel_rfl) (fun _ _ _ h => h) (Or.inl ⟨by kernel_rfl, fun w => ?_⟩) ?_
    · go_simp
    try simp only [Act.put, List.setIfInBounds_toArray, List.set_cons_zero, List.set_cons_succ]
    refine wpAny_take (i := 7) (v := .int .i64 en) rfl (by kernel_rfl) (by kernel_rfl) (by kernel_rfl) (fun _ _ _ h => h) (Or.inl ⟨by kernel_rfl, fun w => ?_⟩) ?_
    · go_simp
    try simp only [Act.put, List.setIfInBounds_toArray, List.set_cons_zero, List.set_cons_succ]
    refine wpAny_ready (rs := [6]) (by kernel_rfl) (by simp) ?_
    refine AllReady.cons (by rfl) ?_ AllReady.nil
    intro K hK
    go_simp
    refine (num_any _ _).mono ?_
    rintro e w' ⟨rfl, rfl⟩
    refine hK _ _ ?_
    clear hK K
    refine wpAny_take (i := 8) (v := .bool true) rfl (by kernel_rfl) (by kernel_rfl) (by kernel_rfl) (fun _ _ _ h => h) (Or.inl ⟨by kernel_rfl, fun w => ?_⟩) ?_
    · go_simp
    try simp only [Act.put, List.setIfInBounds_toArray, List.set_cons_zero, List.set_cons_succ]
    refine wpAny_take (i := 9) (v := .bool true) rfl (by kernel_rfl) (by kernel_rfl) (by kernel_rfl) (fun _ _ _ h => h) (Or.inl ⟨by kernel_rfl, fun w => ?_⟩) ?_
    · go_simp
    try simp only [Act.put, List.setIfInBounds_toArray, List.set_cons_zero, List.set_cons_succ]
    refine wpAny_ready (rs := [10]) (by kernel_rfl) (by simp) ?_
    refine all_ready_yes (by rfl) (by kernel_rfl) ?_ AllReady.nil
    intro K hK
    with_reducible refine wp_store_blk 35 (.tmp 6) (.tmp 60) ?_ (w.heap.size + 1 + 1) 35 _ cs' ?_ ?_ HZB.out ?_ HR3.out.info HR3.out.one ?_
    · kernel_rfl
    · kernel_rfl
    · kernel_rfl
    · rw [HR3.out.size]; kernel_rfl
    intro w6 hB6 hO6 hz6
    simp only [Act.put, List.setIfInBounds_toArray, List.set_cons_zero, List.set_cons_succ]
    refine hK _ _ ?_
    clear hK K
    refine wpAny_ready (rs := [11]) (by kernel_rfl) (by simp) ?_
    refine AllReady.cons (by rfl) ?_ AllReady.nil
    intro K hK
    go_simp
    refine hK _ _ ?_
    clear hK K
    refine wpAny_done (by kernel_rfl) ?_ _
    go_wp2_with fail
    exact bodyPost_ret (results_cell2 rfl _ _ (w.heap.size + 1 + 1) 35 _ _ rfl hB6 Try.underlying35 rfl HR3.out.info) rfl ⟨⟨cs', rfl, HR3.out⟩, HWB.out.far2 hO6 (by omega), HOB.out.trans2 hO6 (by omega)⟩
  refine AllReady.cons (by rfl) ?_ AllReady.nil
  intro K hK
  go_simp
  refine (ints_as v v2 _ _ true _ HV1.out HV2.out HL.out (by simp)).mono ?_
  rintro e wB ⟨rfl, hb⟩
  have HWB := Lib.hid (HWA.out.below hb HWA.out.lt)
  have HBB := Lib.hid (HBA.out.below hb HBA.out.lt)
  have HZB := Lib.hid (HZA.out.below hb HZA.out.lt)
  have HOB := Lib.hid (HOA.out.trans (Only.of_below hb b))
  clear hb
  refine hK _ _ ?_
  clear hK K
  refine wpAny_take (i := 4) (v := .bool true) rfl (by kernel_rfl) (by kernel_rfl) (by kernel_rfl) (fun _ _ _ h => h) (Or.inl ⟨by kernel_rfl, fun w => ?_⟩) ?_
  · go_simp
  try simp only [Act.put, List.setIfInBounds_toArray, List.set_cons_zero, List.set_cons_succ]
  refine wpAny_take (i := 5) (v := .int .i64 en) rfl (by kernel_rfl) (by kernel_rfl) (by kernel_rfl) (fun _ _ _ h => h) (Or.inl ⟨by kernel_rfl, fun w => ?_⟩) ?_
  · go_simp
  try simp only [Act.put, List.setIfInBounds_toArray, List.set_cons_zero, List.set_cons_succ]
  refine wpAny_take (i := 7) (v := .int .i64 en) rfl (by kernel_rfl) (by kernel_rfl) (by kernel_rfl) (fun _ _ _ h => h) (Or.inl ⟨by kernel_rfl, fun w => ?_⟩) ?_
  · go_simp
  try simp only [Act.put, List.setIfInBounds_toArray, List.set_cons_zero, List.set_cons_succ]
  refine wpAny_ready (rs := [0, 6]) (by kernel_rfl) (by simp) ?_
  refine all_ready_yes (by rfl) (by kernel_rfl) ?_ ?_
  · intro K hK
    first | (with_reducible refine wp_load_blk 35 (.tmp 13) ?_ w3.heap.size ?_ 35 cs' _ HBA.out Try.underlying35 ?_ HR3.out.info ?_) | (with_reducible refine wp_load_blk 35 (.tmp 13) ?_ w3.heap.size ?_ 35 cs' _ HBB.out Try.underlying35 ?_ HR3.out.info ?_)
    · kernel_rfl
    · kernel_rfl
    · kernel_rfl
    simp only [Act.put, List.setIfInBounds_toArray, List.set_cons_zero, List.set_cons_succ]
    refine hK _ _ ?_
    clear hK K
    refine wpAny_ready (rs := [6]) (by kernel_rfl) (by simp) ?_
    refine AllReady.cons (by rfl) ?_ AllReady.nil
    intro K hK
    go_simp
    refine (num_any _ _).mono ?_
    rintro e w' ⟨rfl, rfl⟩
    refine hK _ _ ?_
    clear hK K
    refine wpAny_take (i := 8) (v := .bool true) rfl (by kernel_rfl) (by kernel_rfl) (by kernel_rfl) (fun _ _ _ h => h) (Or.inl ⟨by kernel_rfl, fun w => ?_⟩) ?_
    · go_simp
    try simp only [Act.put, List.setIfInBounds_toArray, List.set_cons_zero, List.set_cons_succ]
    refine wpAny_take (i := 9) (v := .bool true) rfl (by kernel_rfl) (by kernel_rfl) (by kernel_rfl) (fun _ _ _ h => h) (Or.inl ⟨by kernel_rfl, fun w => ?_⟩) ?_
    · go_simp
    try simp only [Act.put, List.setIfInBounds_toArray, List.set_cons_zero, List.set_cons_succ]
    refine wpAny_ready (rs := [10]) (by kernel_rfl) (by simp) ?_
    refine all_ready_yes (by rfl) (by kernel_rfl) ?_ AllReady.nil
    intro K hK
    with_reducible refine wp_store_blk 35 (.tmp 6) (.tmp 60) ?_ (w.heap.size + 1 + 1) 35 _ cs' ?_ ?_ HZB.out ?_ HR3.out.info HR3.out.one ?_
    · kernel_rfl
    · kernel_rfl
    · kernel_rfl
    · rw [HR3.out.size]; kernel_rfl
    intro w6 hB6 hO6 hz6
    simp only [Act.put, List.setIfInBounds_toArray, List.set_cons_zero, List.set_cons_succ]
    refine hK _ _ ?_
    clear hK K
    refine wpAny_ready (rs := [11]) (by kernel_rfl) (by simp) ?_
    refine AllReady.cons (by rfl) ?_ AllReady.nil
    intro K hK
    go_simp
    refine hK _ _ ?_
    clear hK K
    refine wpAny_done (by kernel_rfl) ?_ _
    go_wp2_with fail
    exact bodyPost_ret (results_cell2 rfl _ _ (w.heap.size + 1 + 1) 35 _ _ rfl hB6 Try.underlying35 rfl HR3.out.info) rfl ⟨⟨cs', rfl, HR3.out⟩, HWB.out.far2 hO6 (by omega), HOB.out.trans2 hO6 (by omega)⟩
  refine AllReady.cons (by rfl) ?_ AllReady.nil
  intro K hK
  go_simp
  refine (num_any _ _).mono ?_
  rintro e w' ⟨rfl, rfl⟩
  refine hK _ _ ?_
  clear hK K
  refine wpAny_take (i := 8) (v := .bool true) rfl (by kernel_rfl) (by kernel_rfl) (by kernel_rfl) (fun _ _ _ h => h) (Or.inl ⟨by kernel_rfl, fun w => ?_⟩) ?_
  · go_simp
  try simp only [Act.put, List.setIfInBounds_toArray, List.set_cons_zero, List.set_cons_succ]
  refine wpAny_take (i := 9) (v := .bool true) rfl (by kernel_rfl) (by kernel_rfl) (by kernel_rfl) (fun _ _ _ h => h) (Or.inl ⟨by kernel_rfl, fun w => ?_⟩) ?_
  · go_simp
  try simp only [Act.put, List.setIfInBounds_toArray, List.set_cons_zero, List.set_cons_succ]
  refine wpAny_ready (rs := [0]) (by kernel_rfl) (by simp) ?_
  refine all_ready_yes (by rfl) (by kernel_rfl) ?_ AllReady.nil
  intro K hK
  first | (with_reducible refine wp_load_blk 35 (.tmp 13) ?_ w3.heap.size ?_ 35 cs' _ HBA.out Try.underlying35 ?_ HR3.out.info ?_) | (with_reducible refine wp_load_blk 35 (.tmp 13) ?_ w3.heap.size ?_ 35 cs' _ HBB.out Try.underlying35 ?_ HR3.out.info ?_)
  · kernel_rfl
  · kernel_rfl
  · kernel_rfl
  simp only [Act.put, List.setIfInBounds_toArray, List.set_cons_zero, List.set_cons_succ]
  refine hK _ _ ?_
  clear hK K
  refine wpAny_ready (rs := [10]) (by kernel_rfl) (by simp) ?_
  refine all_ready_yes (by rfl) (by kernel_rfl) ?_ AllReady.nil
  intro K hK
  with_reducible refine wp_store_blk 35 (.tmp 6) (.tmp 60) ?_ (w.heap.size + 1 + 1) 35 _ cs' ?_ ?_ HZB.out ?_ HR3.out.info HR3.out.one ?_
  · kernel_rfl
  · kernel_rfl
  · kernel_rfl
  · rw [HR3.out.size]; kernel_rfl
  intro w6 hB6 hO6 hz6
  simp only [Act.put, List.setIfInBounds_toArray, List.set_cons_zero, List.set_cons_succ]
  refine hK _ _ ?_
  clear hK K
  refine wpAny_ready (rs := [11]) (by kernel_rfl) (by simp) ?_
  refine AllReady.cons (by rfl) ?_ AllReady.nil
  intro K hK
  go_simp
  refine hK _ _ ?_
  clear hK K
  refine wpAny_done (by kernel_rfl) ?_ _
  go_wp2_with fail
  exact bodyPost_ret (results_cell2 rfl _ _ (w.heap.size + 1 + 1) 35 _ _ rfl hB6 Try.underlying35 rfl HR3.out.info) rfl ⟨⟨cs', rfl, HR3.out⟩, HWB.out.far2 hO6 (by omega), HOB.out.trans2 hO6 (by omega)⟩
theorem act_c (b : Nat) (s : St) (cs : Array Value) (x : Ac) (w : World) (hW : IsW w b s) (hs : Fair s) (h : RC cs s) :
    Calls Try.prog 11 #[.pointer (some ⟨b, 0, none⟩), .agg cs, x.val] w fun e w' => (∃ cs', e = .returned (.tuple #[.agg cs', .bool true]) ∧ RC cs' (actS s x)) ∧ IsW w' b (actS s x) ∧ Only b w w' := by
  obtain ⟨hr, p, n⟩ := x
  cases hr
  · exact act_tick b s cs p n w hW hs h
  · exact act_hear b s cs p n w hW hs h
end Go.Proofs.Ytgajbaipkhopkaa
