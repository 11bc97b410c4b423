/- Contracts: a state is pressed in memory. -/
import Derived.Test.YticgknjjhkgggaaWk
namespace Go.Proofs.Yticgknjjhkgggaa
open Go.RowKit
set_option linter.unusedSimpArgs false
set_option linter.unusedVariables false

set_option maxRecDepth 100000 in
set_option maxHeartbeats 4000000 in
theorem spress_c (g : Nat) (t : TypeId) (h : List Wo) (n : Nat) (rest : List Value) (a : Option Addr) (m c : Nat) (l : List By) (last : Bool) (w : World) (hh : h.length = 8) (hb : Blk w g t (scells h n rest)) (hl : Bys w a m l) (hm : m ≤ 64) (hn : n ≤ 1000000000000) :
    Calls Try.prog 40 #[.pointer (some ⟨g, 0, none⟩), .slice a m c, .bool last] w fun e w' => e = .returned (.tuple #[]) ∧ Blk w' g t (scells (press h (pad l) (n + m) last) (n + m) rest) ∧ Only g w w' := by
  have z28 := zero28
  obtain ⟨Z, hZ⟩ : ∃ Z, Z = bya (List.replicate 64 0#8) := ⟨_, rfl⟩
  rw [← hZ] at z28
  have HZ := Lib.hid hZ; have HH := Lib.hid hh; have HB := Lib.hid hb; have HL := Lib.hid hl
  have HM : Hid (l.length = m) := Lib.hid hl.1
  clear hZ hh hb hl
  go_enter Try.func40, Try.ntmps40
  go_wp2_with fail
  have H0 := Lib.hid (HB.out.alloc (.cells Z 28))
  have H1 : Hid (Blk (w.alloc (.cells Z 28)) w.heap.size 28 (bya (List.replicate 64 0#8))) := Lib.hid (by rw [← HZ.out]; exact Blk.new w 28 Z)
  have H2 := Lib.hid (HL.out.below ((Below.refl w.heap.size w).alloc (Nat.le_refl _) (.cells Z 28)))
  have HO := Lib.hid ((Only.refl g w).alloc (.cells Z 28))
  have hgb : g < w.heap.size := HB.out.lt
  have hlb : ∀ x off, a = some ⟨x, off, none⟩ → 0 < m → x ≠ w.heap.size := fun x off e h0 => by
    obtain ⟨x', off', e', hx, _⟩ := HL.out.cells h0
    rw [e] at e'; injection e' with e'; injection e' with e1 e2; omega
  have HLB := Lib.hid hlb
  clear hlb
  generalize hgs : w.heap.size = gb at H1 hgb HLB ⊢
  have HGS := Lib.hid hgs
  clear hgs
  have W1 : IntKind.u64.wrap (m : Int) = (m : Int) := IntWalk.u64_in _ (by omega)
  have W2 : IntKind.u64.wrap ((n : Int) + (m : Int)) = (n : Int) + (m : Int) := IntWalk.u64_in _ (by omega)
  generalize (World.alloc _ _) = w1 at H0 H1 H2 HO ⊢
  go_cut [] (fun wx => Blk wx g t (scells h (n + m) rest) ∧ Blk wx gb 28 (bya (pad l)) ∧ Only g w wx)
  case first =>
    have H0 := Lib.hid H0.out.drew; have H1 := Lib.hid H1.out.drew; have HO := Lib.hid HO.out.drew
    have H2 := Lib.hid (H2.out.below (Below.refl w1.heap.size w1).drew)
    refine wp_region_any (by kernel_rfl) ?_
    change wpAny _ _ _ _ _ _ _ (World.drew _)
    generalize w1.drew = w2 at H0 H1 H2 HO ⊢
    refine wpAny_take (i := 0) (v := .pointer (some ⟨g, 0, none⟩)) rfl (by kernel_rfl) (by kernel_rfl) (by kernel_rfl) (fun _ _ _ h => h) (Or.inl ⟨by kernel_rfl, fun w => ?_⟩) ?_
    · go_simp
    try simp only [Act.put, List.getElem_toArray, List.getElem_cons_succ, List.getElem_cons_zero, List.setIfInBounds_toArray, List.set_cons_zero, List.set_cons_succ]
    refine wpAny_take (i := 1) (v := .pointer (some ⟨g, 0, none⟩)) rfl (by kernel_rfl) (by kernel_rfl) (by kernel_rfl) (fun _ _ _ h => h) (Or.inl ⟨by kernel_rfl, fun w => ?_⟩) ?_
    · go_simp
    try simp only [Act.put, List.getElem_toArray, List.getElem_cons_succ, List.getElem_cons_zero, List.setIfInBounds_toArray, List.set_cons_zero, List.set_cons_succ]
    refine wpAny_take (i := 2) (v := .pointer (some ⟨g, 8, none⟩)) rfl (by kernel_rfl) (by kernel_rfl) (by kernel_rfl) (fun _ _ _ h => h) (Or.inl ⟨by kernel_rfl, fun w => ?_⟩) ?_
    · go_simp
    try simp only [Act.put, List.getElem_toArray, List.getElem_cons_succ, List.getElem_cons_zero, List.setIfInBounds_toArray, List.set_cons_zero, List.set_cons_succ]
    refine wpAny_take (i := 4) (v := .slice (some ⟨gb, 0, none⟩) 64 64) rfl (by kernel_rfl) (by kernel_rfl) (by kernel_rfl) (fun _ _ _ h => h) (Or.inl ⟨by kernel_rfl, fun w => ?_⟩) ?_
    · go_simp
    try simp only [Act.put, List.getElem_toArray, List.getElem_cons_succ, List.getElem_cons_zero, List.setIfInBounds_toArray, List.set_cons_zero, List.set_cons_succ]
    refine wpAny_take (i := 5) (v := .slice a m c) rfl (by kernel_rfl) (by kernel_rfl) (by kernel_rfl) (fun _ _ _ h => h) (Or.inl ⟨by kernel_rfl, fun w => ?_⟩) ?_
    · go_simp
    try simp only [Act.put, List.getElem_toArray, List.getElem_cons_succ, List.getElem_cons_zero, List.setIfInBounds_toArray, List.set_cons_zero, List.set_cons_succ]
    refine wpAny_ready (rs := [3, 6]) (by kernel_rfl) (by simp) ?_
    refine AllReady.cons (by rfl) ?_ ?_
    · intro K hK
      have hc8 := H0.out.cell (scells_n HH.out)
      go_simp
      clear hc8
      refine hK _ _ ?_
      clear hK K
      refine wpAny_ready (rs := [6]) (by kernel_rfl) (by simp) ?_
      refine all_ready_yes (by rfl) (by kernel_rfl) ?_ AllReady.nil
      intro K hK
      refine wp_copy_bys (.tmp 11) (.tmp 12) rfl gb _ 28 a m c 64 64 l rfl rfl H1.out H2.out hm (by simp) ?_
      intro w3 hc3 hO3 hz3
      have hwr : w.heap.size ≤ gb := by rw [HGS.out]; exact Nat.le_refl _
      have H0 := Lib.hid (hO3.blk H0.out (by omega))
      have H1 := Lib.hid hc3
      have H2 := Lib.hid (H2.out.only hO3 HLB.out)
      have HO := Lib.hid (HO.out.grown hO3 (fun k e => .inr (by injection e with e; omega)))
      clear hc3 hO3 hz3 hwr
      simp only [Act.put, List.getElem_toArray, List.getElem_cons_succ, List.getElem_cons_zero, List.setIfInBounds_toArray, List.set_cons_zero, List.set_cons_succ]
      refine hK _ _ ?_
      clear hK K
      refine wpAny_take (i := 7) (v := .int .u64 (m : Int)) rfl (by kernel_rfl) (by kernel_rfl) (by kernel_rfl) (fun _ _ _ h => h) (Or.inl ⟨by kernel_rfl, fun w => ?_⟩) ?_
      · go_simp
      try simp only [Act.put, List.getElem_toArray, List.getElem_cons_succ, List.getElem_cons_zero, List.setIfInBounds_toArray, List.set_cons_zero, List.set_cons_succ]
      refine wpAny_take (i := 8) (v := .int .u64 ((n : Int) + (m : Int))) rfl (by kernel_rfl) (by kernel_rfl) (by kernel_rfl) (fun _ _ _ h => h) (Or.inl ⟨by kernel_rfl, fun w => ?_⟩) ?_
      · go_simp
      try simp only [Act.put, List.getElem_toArray, List.getElem_cons_succ, List.getElem_cons_zero, List.setIfInBounds_toArray, List.set_cons_zero, List.set_cons_succ]
      refine wpAny_take (i := 9) (v := .pointer (some ⟨g, 0, none⟩)) rfl (by kernel_rfl) (by kernel_rfl) (by kernel_rfl) (fun _ _ _ h => h) (Or.inl ⟨by kernel_rfl, fun w => ?_⟩) ?_
      · go_simp
      try simp only [Act.put, List.getElem_toArray, List.getElem_cons_succ, List.getElem_cons_zero, List.setIfInBounds_toArray, List.set_cons_zero, List.set_cons_succ]
      refine wpAny_take (i := 10) (v := .pointer (some ⟨g, 8, none⟩)) rfl (by kernel_rfl) (by kernel_rfl) (by kernel_rfl) (fun _ _ _ h => h) (Or.inl ⟨by kernel_rfl, fun w => ?_⟩) ?_
      · go_simp
      try simp only [Act.put, List.getElem_toArray, List.getElem_cons_succ, List.getElem_cons_zero, List.setIfInBounds_toArray, List.set_cons_zero, List.set_cons_succ]
      refine wpAny_ready (rs := [11]) (by kernel_rfl) (by simp) ?_
      refine AllReady.cons (by rfl) ?_ AllReady.nil
      intro K hK
      have hc8 := H0.out.cell (scells_n HH.out)
      have hf8 := H0.out.frozen 8
      go_simp
      clear hc8 hf8
      have H0 := Lib.hid (H0.out.set 8 (.int .u64 ((n : Int) + (m : Int))))
      have H1 := Lib.hid (H1.out.far (p := ⟨g, 8, none⟩) (Nat.ne_of_gt hgb) (.int .u64 ((n : Int) + (m : Int))))
      have HO := Lib.hid (HO.out.setCell (p := ⟨g, 8, none⟩) (.inl rfl) (.int .u64 ((n : Int) + (m : Int))))
      generalize (World.setCell _ _ _) = w9 at H0 H1 HO ⊢
      refine hK _ _ ?_
      clear hK K
      refine wpAny_done (by kernel_rfl) ?_ _
      go_wp2_with fail
      go_meet
      refine ⟨?_, ?_, HO.out⟩
      · have := H0.out
        rw [show ((n : Int) + (m : Int)) = ((n + m : Nat) : Int) by omega, scells_setn HH.out] at this
        exact this
      · have := H1.out
        rw [← HM.out, pad_copy l (by rw [HM.out]; exact hm)] at this
        exact this
    refine all_ready_yes (by rfl) (by kernel_rfl) ?_ AllReady.nil
    intro K hK
    refine wp_copy_bys (.tmp 11) (.tmp 12) rfl gb _ 28 a m c 64 64 l rfl rfl H1.out H2.out hm (by simp) ?_
    intro w3 hc3 hO3 hz3
    have hwr : w.heap.size ≤ gb := by rw [HGS.out]; exact Nat.le_refl _
    have H0 := Lib.hid (hO3.blk H0.out (by omega))
    have H1 := Lib.hid hc3
    have H2 := Lib.hid (H2.out.only hO3 HLB.out)
    have HO := Lib.hid (HO.out.grown hO3 (fun k e => .inr (by injection e with e; omega)))
    clear hc3 hO3 hz3 hwr
    simp only [Act.put, List.getElem_toArray, List.getElem_cons_succ, List.getElem_cons_zero, List.setIfInBounds_toArray, List.set_cons_zero, List.set_cons_succ]
    refine hK _ _ ?_
    clear hK K
    refine wpAny_take (i := 7) (v := .int .u64 (m : Int)) rfl (by kernel_rfl) (by kernel_rfl) (by kernel_rfl) (fun _ _ _ h => h) (Or.inl ⟨by kernel_rfl, fun w => ?_⟩) ?_
    · go_simp
    try simp only [Act.put, List.getElem_toArray, List.getElem_cons_succ, List.getElem_cons_zero, List.setIfInBounds_toArray, List.set_cons_zero, List.set_cons_succ]
    refine wpAny_ready (rs := [3]) (by kernel_rfl) (by simp) ?_
    refine AllReady.cons (by rfl) ?_ AllReady.nil
    intro K hK
    have hc8 := H0.out.cell (scells_n HH.out)
    go_simp
    clear hc8
    refine hK _ _ ?_
    clear hK K
    refine wpAny_take (i := 8) (v := .int .u64 ((n : Int) + (m : Int))) rfl (by kernel_rfl) (by kernel_rfl) (by kernel_rfl) (fun _ _ _ h => h) (Or.inl ⟨by kernel_rfl, fun w => ?_⟩) ?_
    · go_simp
    try simp only [Act.put, List.getElem_toArray, List.getElem_cons_succ, List.getElem_cons_zero, List.setIfInBounds_toArray, List.set_cons_zero, List.set_cons_succ]
    refine wpAny_take (i := 9) (v := .pointer (some ⟨g, 0, none⟩)) rfl (by kernel_rfl) (by kernel_rfl) (by kernel_rfl) (fun _ _ _ h => h) (Or.inl ⟨by kernel_rfl, fun w => ?_⟩) ?_
    · go_simp
    try simp only [Act.put, List.getElem_toArray, List.getElem_cons_succ, List.getElem_cons_zero, List.setIfInBounds_toArray, List.set_cons_zero, List.set_cons_succ]
    refine wpAny_take (i := 10) (v := .pointer (some ⟨g, 8, none⟩)) rfl (by kernel_rfl) (by kernel_rfl) (by kernel_rfl) (fun _ _ _ h => h) (Or.inl ⟨by kernel_rfl, fun w => ?_⟩) ?_
    · go_simp
    try simp only [Act.put, List.getElem_toArray, List.getElem_cons_succ, List.getElem_cons_zero, List.setIfInBounds_toArray, List.set_cons_zero, List.set_cons_succ]
    refine wpAny_ready (rs := [11]) (by kernel_rfl) (by simp) ?_
    refine AllReady.cons (by rfl) ?_ AllReady.nil
    intro K hK
    have hc8 := H0.out.cell (scells_n HH.out)
    have hf8 := H0.out.frozen 8
    go_simp
    clear hc8 hf8
    have H0 := Lib.hid (H0.out.set 8 (.int .u64 ((n : Int) + (m : Int))))
    have H1 := Lib.hid (H1.out.far (p := ⟨g, 8, none⟩) (Nat.ne_of_gt hgb) (.int .u64 ((n : Int) + (m : Int))))
    have HO := Lib.hid (HO.out.setCell (p := ⟨g, 8, none⟩) (.inl rfl) (.int .u64 ((n : Int) + (m : Int))))
    generalize (World.setCell _ _ _) = w9 at H0 H1 HO ⊢
    refine hK _ _ ?_
    clear hK K
    refine wpAny_done (by kernel_rfl) ?_ _
    go_wp2_with fail
    go_meet
    refine ⟨?_, ?_, HO.out⟩
    · have := H0.out
      rw [show ((n : Int) + (m : Int)) = ((n + m : Nat) : Int) by omega, scells_setn HH.out] at this
      exact this
    · have := H1.out
      rw [← HM.out, pad_copy l (by rw [HM.out]; exact hm)] at this
      exact this
  case rest =>
    obtain ⟨h0, h1, hO⟩ := hcut
    have H0 := Lib.hid h0.drew; have H1 := Lib.hid h1.drew; have HO := Lib.hid hO.drew
    clear h0 h1 hO
    clear W1 W2
    go_wp2_with fail
    refine wp_region_any (by kernel_rfl) ?_
    change wpAny _ _ _ _ _ _ _ (World.drew _)
    generalize wc.drew = w2 at H0 H1 HO ⊢
    refine wpAny_take (i := 0) (v := .pointer (some ⟨g, 0, none⟩)) rfl (by kernel_rfl) (by kernel_rfl) (by kernel_rfl) (fun _ _ _ h => h) (Or.inl ⟨by kernel_rfl, fun w => ?_⟩) ?_
    · go_simp
    try simp only [Act.put, List.getElem_toArray, List.getElem_cons_succ, List.getElem_cons_zero, List.setIfInBounds_toArray, List.set_cons_zero, List.set_cons_succ]
    refine wpAny_take (i := 1) (v := .pointer (some ⟨g, 0, none⟩)) rfl (by kernel_rfl) (by kernel_rfl) (by kernel_rfl) (fun _ _ _ h => h) (Or.inl ⟨by kernel_rfl, fun w => ?_⟩) ?_
    · go_simp
    try simp only [Act.put, List.getElem_toArray, List.getElem_cons_succ, List.getElem_cons_zero, List.setIfInBounds_toArray, List.set_cons_zero, List.set_cons_succ]
    refine wpAny_take (i := 2) (v := .pointer (some ⟨g, 0, none⟩)) rfl (by kernel_rfl) (by kernel_rfl) (by kernel_rfl) (fun _ _ _ h => h) (Or.inl ⟨by kernel_rfl, fun w => ?_⟩) ?_
    · go_simp
    try simp only [Act.put, List.getElem_toArray, List.getElem_cons_succ, List.getElem_cons_zero, List.setIfInBounds_toArray, List.set_cons_zero, List.set_cons_succ]
    refine wpAny_take (i := 3) (v := .pointer (some ⟨g, 0, none⟩)) rfl (by kernel_rfl) (by kernel_rfl) (by kernel_rfl) (fun _ _ _ h => h) (Or.inl ⟨by kernel_rfl, fun w => ?_⟩) ?_
    · go_simp
    try simp only [Act.put, List.getElem_toArray, List.getElem_cons_succ, List.getElem_cons_zero, List.setIfInBounds_toArray, List.set_cons_zero, List.set_cons_succ]
    refine wpAny_take (i := 6) (v := .pointer (some ⟨g, 0, none⟩)) rfl (by kernel_rfl) (by kernel_rfl) (by kernel_rfl) (fun _ _ _ h => h) (Or.inl ⟨by kernel_rfl, fun w => ?_⟩) ?_
    · go_simp
    try simp only [Act.put, List.getElem_toArray, List.getElem_cons_succ, List.getElem_cons_zero, List.setIfInBounds_toArray, List.set_cons_zero, List.set_cons_succ]
    refine wpAny_take (i := 7) (v := .pointer (some ⟨g, 0, none⟩)) rfl (by kernel_rfl) (by kernel_rfl) (by kernel_rfl) (fun _ _ _ h => h) (Or.inl ⟨by kernel_rfl, fun w => ?_⟩) ?_
    · go_simp
    try simp only [Act.put, List.getElem_toArray, List.getElem_cons_succ, List.getElem_cons_zero, List.setIfInBounds_toArray, List.set_cons_zero, List.set_cons_succ]
    refine wpAny_take (i := 8) (v := .pointer (some ⟨g, 8, none⟩)) rfl (by kernel_rfl) (by kernel_rfl) (by kernel_rfl) (fun _ _ _ h => h) (Or.inl ⟨by kernel_rfl, fun w => ?_⟩) ?_
    · go_simp
    try simp only [Act.put, List.getElem_toArray, List.getElem_cons_succ, List.getElem_cons_zero, List.setIfInBounds_toArray, List.set_cons_zero, List.set_cons_succ]
    refine wpAny_take (i := 10) (v := .bool last) rfl (by kernel_rfl) (by kernel_rfl) (by kernel_rfl) (fun _ _ _ h => h) (Or.inl ⟨by kernel_rfl, fun w => ?_⟩) ?_
    · go_simp
    try simp only [Act.put, List.getElem_toArray, List.getElem_cons_succ, List.getElem_cons_zero, List.setIfInBounds_toArray, List.set_cons_zero, List.set_cons_succ]
    refine wpAny_ready (rs := [4, 5, 9]) (by kernel_rfl) (by simp) ?_
    refine all_ready_yes (by rfl) (by kernel_rfl) ?_ ?_
    · intro K hK
      refine wp_load_mid 27 (.tmp 21) rfl g 0 rfl _ _ (range_words H0.out HH.out) Try.underlying27 rfl (by simp only [Array.length_toList, ws_size, HH.out]; kernel_rfl) ?_
      rw [Array.toArray_toList]
      simp only [Act.put, List.getElem_toArray, List.getElem_cons_succ, List.getElem_cons_zero, List.setIfInBounds_toArray, List.set_cons_zero, List.set_cons_succ]
      refine hK _ _ ?_
      clear hK K
      refine wpAny_ready (rs := [5, 9]) (by kernel_rfl) (by simp) ?_
      refine all_ready_yes (by rfl) (by kernel_rfl) ?_ ?_
      · intro K hK
        refine wp_load_blk 28 (.tmp 6) rfl gb rfl 28 _ _ H1.out Try.underlying28 rfl (by rw [bya_size, pad_len l (by rw [HM.out]; exact hm)]; kernel_rfl) ?_
        simp only [Act.put, List.getElem_toArray, List.getElem_cons_succ, List.getElem_cons_zero, List.setIfInBounds_toArray, List.set_cons_zero, List.set_cons_succ]
        refine hK _ _ ?_
        clear hK K
        refine wpAny_ready (rs := [9]) (by kernel_rfl) (by simp) ?_
        refine AllReady.cons (by rfl) ?_ AllReady.nil
        intro K hK
        have hc8 := H0.out.cell (scells_n HH.out)
        go_simp
        clear hc8
        refine hK _ _ ?_
        clear hK K
        refine wpAny_ready (rs := [11]) (by kernel_rfl) (by simp) ?_
        refine AllReady.cons (by rfl) ?_ AllReady.nil
        intro K hK
        go_simp
        refine (press_c h (pad l) (n + m) last _ HH.out (pad_len l (by rw [HM.out]; exact hm))).mono ?_
        rintro e w8 ⟨rfl, hb8⟩
        have H0 := Lib.hid (H0.out.below hb8 H0.out.lt)
        have HO := Lib.hid (HO.out.trans (Only.of_below hb8 g))
        clear hb8
        refine hK _ _ ?_
        clear hK K
        refine wpAny_take (i := 12) (v := .pointer (some ⟨g, 0, none⟩)) rfl (by kernel_rfl) (by kernel_rfl) (by kernel_rfl) (fun _ _ _ h => h) (Or.inl ⟨by kernel_rfl, fun w => ?_⟩) ?_
        · go_simp
        try simp only [Act.put, List.getElem_toArray, List.getElem_cons_succ, List.getElem_cons_zero, List.setIfInBounds_toArray, List.set_cons_zero, List.set_cons_succ]
        refine wpAny_take (i := 13) (v := .pointer (some ⟨g, 0, none⟩)) rfl (by kernel_rfl) (by kernel_rfl) (by kernel_rfl) (fun _ _ _ h => h) (Or.inl ⟨by kernel_rfl, fun w => ?_⟩) ?_
        · go_simp
        try simp only [Act.put, List.getElem_toArray, List.getElem_cons_succ, List.getElem_cons_zero, List.setIfInBounds_toArray, List.set_cons_zero, List.set_cons_succ]
        refine wpAny_ready (rs := [14]) (by kernel_rfl) (by simp) ?_
        refine all_ready_yes (by rfl) (by kernel_rfl) ?_ AllReady.nil
        intro K hK
        refine wp_store_words 27 (.tmp 31) (.tmp 29) rfl g h (press h (pad l) (n + m) last) rfl rfl H0.out HH.out (by rw [press_len]; exact HH.out) (by kernel_rfl) ?_
        intro w9 h9 hO9 hz9
        have H0 := Lib.hid h9
        have HO := Lib.hid (HO.out.trans hO9)
        clear h9 hO9 hz9
        simp only [Act.put, List.getElem_toArray, List.getElem_cons_succ, List.getElem_cons_zero, List.setIfInBounds_toArray, List.set_cons_zero, List.set_cons_succ]
        refine hK _ _ ?_
        clear hK K
        refine wpAny_done (by kernel_rfl) ?_ _
        go_wp2_with fail
        go_end0
        exact ⟨rfl, H0.out, HO.out⟩
      refine AllReady.cons (by rfl) ?_ AllReady.nil
      intro K hK
      have hc8 := H0.out.cell (scells_n HH.out)
      go_simp
      clear hc8
      refine hK _ _ ?_
      clear hK K
      refine wpAny_ready (rs := [5]) (by kernel_rfl) (by simp) ?_
      refine all_ready_yes (by rfl) (by kernel_rfl) ?_ AllReady.nil
      intro K hK
      refine wp_load_blk 28 (.tmp 6) rfl gb rfl 28 _ _ H1.out Try.underlying28 rfl (by rw [bya_size, pad_len l (by rw [HM.out]; exact hm)]; kernel_rfl) ?_
      simp only [Act.put, List.getElem_toArray, List.getElem_cons_succ, List.getElem_cons_zero, List.setIfInBounds_toArray, List.set_cons_zero, List.set_cons_succ]
      refine hK _ _ ?_
      clear hK K
      refine wpAny_ready (rs := [11]) (by kernel_rfl) (by simp) ?_
      refine AllReady.cons (by rfl) ?_ AllReady.nil
      intro K hK
      go_simp
      refine (press_c h (pad l) (n + m) last _ HH.out (pad_len l (by rw [HM.out]; exact hm))).mono ?_
      rintro e w8 ⟨rfl, hb8⟩
      have H0 := Lib.hid (H0.out.below hb8 H0.out.lt)
      have HO := Lib.hid (HO.out.trans (Only.of_below hb8 g))
      clear hb8
      refine hK _ _ ?_
      clear hK K
      refine wpAny_take (i := 12) (v := .pointer (some ⟨g, 0, none⟩)) rfl (by kernel_rfl) (by kernel_rfl) (by kernel_rfl) (fun _ _ _ h => h) (Or.inl ⟨by kernel_rfl, fun w => ?_⟩) ?_
      · go_simp
      try simp only [Act.put, List.getElem_toArray, List.getElem_cons_succ, List.getElem_cons_zero, List.setIfInBounds_toArray, List.set_cons_zero, List.set_cons_succ]
      refine wpAny_take (i := 13) (v := .pointer (some ⟨g, 0, none⟩)) rfl (by kernel_rfl) (by kernel_rfl) (by kernel_rfl) (fun _ _ _ h => h) (Or.inl ⟨by kernel_rfl, fun w => ?_⟩) ?_
      · go_simp
      try simp only [Act.put, List.getElem_toArray, List.getElem_cons_succ, List.getElem_cons_zero, List.setIfInBounds_toArray, List.set_cons_zero, List.set_cons_succ]
      refine wpAny_ready (rs := [14]) (by kernel_rfl) (by simp) ?_
      refine all_ready_yes (by rfl) (by kernel_rfl) ?_ AllReady.nil
      intro K hK
      refine wp_store_words 27 (.tmp 31) (.tmp 29) rfl g h (press h (pad l) (n + m) last) rfl rfl H0.out HH.out (by rw [press_len]; exact HH.out) (by kernel_rfl) ?_
      intro w9 h9 hO9 hz9
      have H0 := Lib.hid h9
      have HO := Lib.hid (HO.out.trans hO9)
      clear h9 hO9 hz9
      simp only [Act.put, List.getElem_toArray, List.getElem_cons_succ, List.getElem_cons_zero, List.setIfInBounds_toArray, List.set_cons_zero, List.set_cons_succ]
      refine hK _ _ ?_
      clear hK K
      refine wpAny_done (by kernel_rfl) ?_ _
      go_wp2_with fail
      go_end0
      exact ⟨rfl, H0.out, HO.out⟩
    refine all_ready_yes (by rfl) (by kernel_rfl) ?_ ?_
    · intro K hK
      refine wp_load_blk 28 (.tmp 6) rfl gb rfl 28 _ _ H1.out Try.underlying28 rfl (by rw [bya_size, pad_len l (by rw [HM.out]; exact hm)]; kernel_rfl) ?_
      simp only [Act.put, List.getElem_toArray, List.getElem_cons_succ, List.getElem_cons_zero, List.setIfInBounds_toArray, List.set_cons_zero, List.set_cons_succ]
      refine hK _ _ ?_
      clear hK K
      refine wpAny_ready (rs := [4, 9]) (by kernel_rfl) (by simp) ?_
      refine all_ready_yes (by rfl) (by kernel_rfl) ?_ ?_
      · intro K hK
        refine wp_load_mid 27 (.tmp 21) rfl g 0 rfl _ _ (range_words H0.out HH.out) Try.underlying27 rfl (by simp only [Array.length_toList, ws_size, HH.out]; kernel_rfl) ?_
        rw [Array.toArray_toList]
        simp only [Act.put, List.getElem_toArray, List.getElem_cons_succ, List.getElem_cons_zero, List.setIfInBounds_toArray, List.set_cons_zero, List.set_cons_succ]
        refine hK _ _ ?_
        clear hK K
        refine wpAny_ready (rs := [9]) (by kernel_rfl) (by simp) ?_
        refine AllReady.cons (by rfl) ?_ AllReady.nil
        intro K hK
        have hc8 := H0.out.cell (scells_n HH.out)
        go_simp
        clear hc8
        refine hK _ _ ?_
        clear hK K
        refine wpAny_ready (rs := [11]) (by kernel_rfl) (by simp) ?_
        refine AllReady.cons (by rfl) ?_ AllReady.nil
        intro K hK
        go_simp
        refine (press_c h (pad l) (n + m) last _ HH.out (pad_len l (by rw [HM.out]; exact hm))).mono ?_
        rintro e w8 ⟨rfl, hb8⟩
        have H0 := Lib.hid (H0.out.below hb8 H0.out.lt)
        have HO := Lib.hid (HO.out.trans (Only.of_below hb8 g))
        clear hb8
        refine hK _ _ ?_
        clear hK K
        refine wpAny_take (i := 12) (v := .pointer (some ⟨g, 0, none⟩)) rfl (by kernel_rfl) (by kernel_rfl) (by kernel_rfl) (fun _ _ _ h => h) (Or.inl ⟨by kernel_rfl, fun w => ?_⟩) ?_
        · go_simp
        try simp only [Act.put, List.getElem_toArray, List.getElem_cons_succ, List.getElem_cons_zero, List.setIfInBounds_toArray, List.set_cons_zero, List.set_cons_succ]
        refine wpAny_take (i := 13) (v := .pointer (some ⟨g, 0, none⟩)) rfl (by kernel_rfl) (by kernel_rfl) (by kernel_rfl) (fun _ _ _ h => h) (Or.inl ⟨by kernel_rfl, fun w => ?_⟩) ?_
        · go_simp
        try simp only [Act.put, List.getElem_toArray, List.getElem_cons_succ, List.getElem_cons_zero, List.setIfInBounds_toArray, List.set_cons_zero, List.set_cons_succ]
        refine wpAny_ready (rs := [14]) (by kernel_rfl) (by simp) ?_
        refine all_ready_yes (by rfl) (by kernel_rfl) ?_ AllReady.nil
        intro K hK
        refine wp_store_words 27 (.tmp 31) (.tmp 29) rfl g h (press h (pad l) (n + m) last) rfl rfl H0.out HH.out (by rw [press_len]; exact HH.out) (by kernel_rfl) ?_
        intro w9 h9 hO9 hz9
        have H0 := Lib.hid h9
        have HO := Lib.hid (HO.out.trans hO9)
        clear h9 hO9 hz9
        simp only [Act.put, List.getElem_toArray, List.getElem_cons_succ, List.getElem_cons_zero, List.setIfInBounds_toArray, List.set_cons_zero, List.set_cons_succ]
        refine hK _ _ ?_
        clear hK K
        refine wpAny_done (by kernel_rfl) ?_ _
        go_wp2_with fail
        go_end0
        exact ⟨rfl, H0.out, HO.out⟩
      refine AllReady.cons (by rfl) ?_ AllReady.nil
      intro K hK
      have hc8 := H0.out.cell (scells_n HH.out)
      go_simp
      clear hc8
      refine hK _ _ ?_
      clear hK K
      refine wpAny_ready (rs := [4]) (by kernel_rfl) (by simp) ?_
      refine all_ready_yes (by rfl) (by kernel_rfl) ?_ AllReady.nil
      intro K hK
      refine wp_load_mid 27 (.tmp 21) rfl g 0 rfl _ _ (range_words H0.out HH.out) Try.underlying27 rfl (by simp only [Array.length_toList, ws_size, HH.out]; kernel_rfl) ?_
      rw [Array.toArray_toList]
      simp only [Act.put, List.getElem_toArray, List.getElem_cons_succ, List.getElem_cons_zero, List.setIfInBounds_toArray, List.set_cons_zero, List.set_cons_succ]
      refine hK _ _ ?_
      clear hK K
      refine wpAny_ready (rs := [11]) (by kernel_rfl) (by simp) ?_
      refine AllReady.cons (by rfl) ?_ AllReady.nil
      intro K hK
      go_simp
      refine (press_c h (pad l) (n + m) last _ HH.out (pad_len l (by rw [HM.out]; exact hm))).mono ?_
      rintro e w8 ⟨rfl, hb8⟩
      have H0 := Lib.hid (H0.out.below hb8 H0.out.lt)
      have HO := Lib.hid (HO.out.trans (Only.of_below hb8 g))
      clear hb8
      refine hK _ _ ?_
      clear hK K
      refine wpAny_take (i := 12) (v := .pointer (some ⟨g, 0, none⟩)) rfl (by kernel_rfl) (by kernel_rfl) (by kernel_rfl) (fun _ _ _ h => h) (Or.inl ⟨by kernel_rfl, fun w => ?_⟩) ?_
      · go_simp
      try simp only [Act.put, List.getElem_toArray, List.getElem_cons_succ, List.getElem_cons_zero, List.setIfInBounds_toArray, List.set_cons_zero, List.set_cons_succ]
      refine wpAny_take (i := 13) (v := .pointer (some ⟨g, 0, none⟩)) rfl (by kernel_rfl) (by kernel_rfl) (by kernel_rfl) (fun _ _ _ h => h) (Or.inl ⟨by kernel_rfl, fun w => ?_⟩) ?_
      · go_simp
      try simp only [Act.put, List.getElem_toArray, List.getElem_cons_succ, List.getElem_cons_zero, List.setIfInBounds_toArray, List.set_cons_zero, List.set_cons_succ]
      refine wpAny_ready (rs := [14]) (by kernel_rfl) (by simp) ?_
      refine all_ready_yes (by rfl) (by kernel_rfl) ?_ AllReady.nil
      intro K hK
      refine wp_store_words 27 (.tmp 31) (.tmp 29) rfl g h (press h (pad l) (n + m) last) rfl rfl H0.out HH.out (by rw [press_len]; exact HH.out) (by kernel_rfl) ?_
      intro w9 h9 hO9 hz9
      have H0 := Lib.hid h9
      have HO := Lib.hid (HO.out.trans hO9)
      clear h9 hO9 hz9
      simp only [Act.put, List.getElem_toArray, List.getElem_cons_succ, List.getElem_cons_zero, List.setIfInBounds_toArray, List.set_cons_zero, List.set_cons_succ]
      refine hK _ _ ?_
      clear hK K
      refine wpAny_done (by kernel_rfl) ?_ _
      go_wp2_with fail
      go_end0
      exact ⟨rfl, H0.out, HO.out⟩
    refine AllReady.cons (by rfl) ?_ AllReady.nil
    intro K hK
    have hc8 := H0.out.cell (scells_n HH.out)
    go_simp
    clear hc8
    refine hK _ _ ?_
    clear hK K
    refine wpAny_ready (rs := [4, 5]) (by kernel_rfl) (by simp) ?_
    refine all_ready_yes (by rfl) (by kernel_rfl) ?_ ?_
    · intro K hK
      refine wp_load_mid 27 (.tmp 21) rfl g 0 rfl _ _ (range_words H0.out HH.out) Try.underlying27 rfl (by simp only [Array.length_toList, ws_size, HH.out]; kernel_rfl) ?_
      rw [Array.toArray_toList]
      simp only [Act.put, List.getElem_toArray, List.getElem_cons_succ, List.getElem_cons_zero, List.setIfInBounds_toArray, List.set_cons_zero, List.set_cons_succ]
      refine hK _ _ ?_
      clear hK K
      refine wpAny_ready (rs := [5]) (by kernel_rfl) (by simp) ?_
      refine all_ready_yes (by rfl) (by kernel_rfl) ?_ AllReady.nil
      intro K hK
      refine wp_load_blk 28 (.tmp 6) rfl gb rfl 28 _ _ H1.out Try.underlying28 rfl (by rw [bya_size, pad_len l (by rw [HM.out]; exact hm)]; kernel_rfl) ?_
      simp only [Act.put, List.getElem_toArray, List.getElem_cons_succ, List.getElem_cons_zero, List.setIfInBounds_toArray, List.set_cons_zero, List.set_cons_succ]
      refine hK _ _ ?_
      clear hK K
      refine wpAny_ready (rs := [11]) (by kernel_rfl) (by simp) ?_
      refine AllReady.cons (by rfl) ?_ AllReady.nil
      intro K hK
      go_simp
      refine (press_c h (pad l) (n + m) last _ HH.out (pad_len l (by rw [HM.out]; exact hm))).mono ?_
      rintro e w8 ⟨rfl, hb8⟩
      have H0 := Lib.hid (H0.out.below hb8 H0.out.lt)
      have HO := Lib.hid (HO.out.trans (Only.of_below hb8 g))
      clear hb8
      refine hK _ _ ?_
      clear hK K
      refine wpAny_take (i := 12) (v := .pointer (some ⟨g, 0, none⟩)) rfl (by kernel_rfl) (by kernel_rfl) (by kernel_rfl) (fun _ _ _ h => h) (Or.inl ⟨by kernel_rfl, fun w => ?_⟩) ?_
      · go_simp
      try simp only [Act.put, List.getElem_toArray, List.getElem_cons_succ, List.getElem_cons_zero, List.setIfInBounds_toArray, List.set_cons_zero, List.set_cons_succ]
      refine wpAny_take (i := 13) (v := .pointer (some ⟨g, 0, none⟩)) rfl (by kernel_rfl) (by kernel_rfl) (by kernel_rfl) (fun _ _ _ h => h) (Or.inl ⟨by kernel_rfl, fun w => ?_⟩) ?_
      · go_simp
      try simp only [Act.put, List.getElem_toArray, List.getElem_cons_succ, List.getElem_cons_zero, List.setIfInBounds_toArray, List.set_cons_zero, List.set_cons_succ]
      refine wpAny_ready (rs := [14]) (by kernel_rfl) (by simp) ?_
      refine all_ready_yes (by rfl) (by kernel_rfl) ?_ AllReady.nil
      intro K hK
      refine wp_store_words 27 (.tmp 31) (.tmp 29) rfl g h (press h (pad l) (n + m) last) rfl rfl H0.out HH.out (by rw [press_len]; exact HH.out) (by kernel_rfl) ?_
      intro w9 h9 hO9 hz9
      have H0 := Lib.hid h9
      have HO := Lib.hid (HO.out.trans hO9)
      clear h9 hO9 hz9
      simp only [Act.put, List.getElem_toArray, List.getElem_cons_succ, List.getElem_cons_zero, List.setIfInBounds_toArray, List.set_cons_zero, List.set_cons_succ]
      refine hK _ _ ?_
      clear hK K
      refine wpAny_done (by kernel_rfl) ?_ _
      go_wp2_with fail
      go_end0
      exact ⟨rfl, H0.out, HO.out⟩
    refine all_ready_yes (by rfl) (by kernel_rfl) ?_ AllReady.nil
    intro K hK
    refine wp_load_blk 28 (.tmp 6) rfl gb rfl 28 _ _ H1.out Try.underlying28 rfl (by rw [bya_size, pad_len l (by rw [HM.out]; exact hm)]; kernel_rfl) ?_
    simp only [Act.put, List.getElem_toArray, List.getElem_cons_succ, List.getElem_cons_zero, List.setIfInBounds_toArray, List.set_cons_zero, List.set_cons_succ]
    refine hK _ _ ?_
    clear hK K
    refine wpAny_ready (rs := [4]) (by kernel_rfl) (by simp) ?_
    refine all_ready_yes (by rfl) (by kernel_rfl) ?_ AllReady.nil
    intro K hK
    refine wp_load_mid 27 (.tmp 21) rfl g 0 rfl _ _ (range_words H0.out HH.out) Try.underlying27 rfl (by simp only [Array.length_toList, ws_size, HH.out]; kernel_rfl) ?_
    rw [Array.toArray_toList]
    simp only [Act.put, List.getElem_toArray, List.getElem_cons_succ, List.getElem_cons_zero, List.setIfInBounds_toArray, List.set_cons_zero, List.set_cons_succ]
    refine hK _ _ ?_
    clear hK K
    refine wpAny_ready (rs := [11]) (by kernel_rfl) (by simp) ?_
    refine AllReady.cons (by rfl) ?_ AllReady.nil
    intro K hK
    go_simp
    refine (press_c h (pad l) (n + m) last _ HH.out (pad_len l (by rw [HM.out]; exact hm))).mono ?_
    rintro e w8 ⟨rfl, hb8⟩
    have H0 := Lib.hid (H0.out.below hb8 H0.out.lt)
    have HO := Lib.hid (HO.out.trans (Only.of_below hb8 g))
    clear hb8
    refine hK _ _ ?_
    clear hK K
    refine wpAny_take (i := 12) (v := .pointer (some ⟨g, 0, none⟩)) rfl (by kernel_rfl) (by kernel_rfl) (by kernel_rfl) (fun _ _ _ h => h) (Or.inl ⟨by kernel_rfl, fun w => ?_⟩) ?_
    · go_simp
    try simp only [Act.put, List.getElem_toArray, List.getElem_cons_succ, List.getElem_cons_zero, List.setIfInBounds_toArray, List.set_cons_zero, List.set_cons_succ]
    refine wpAny_take (i := 13) (v := .pointer (some ⟨g, 0, none⟩)) rfl (by kernel_rfl) (by kernel_rfl) (by kernel_rfl) (fun _ _ _ h => h) (Or.inl ⟨by kernel_rfl, fun w => ?_⟩) ?_
    · go_simp
    try simp only [Act.put, List.getElem_toArray, List.getElem_cons_succ, List.getElem_cons_zero, List.setIfInBounds_toArray, List.set_cons_zero, List.set_cons_succ]
    refine wpAny_ready (rs := [14]) (by kernel_rfl) (by simp) ?_
    refine all_ready_yes (by rfl) (by kernel_rfl) ?_ AllReady.nil
    intro K hK
    refine wp_store_words 27 (.tmp 31) (.tmp 29) rfl g h (press h (pad l) (n + m) last) rfl rfl H0.out HH.out (by rw [press_len]; exact HH.out) (by kernel_rfl) ?_
    intro w9 h9 hO9 hz9
    have H0 := Lib.hid h9
    have HO := Lib.hid (HO.out.trans hO9)
    clear h9 hO9 hz9
    simp only [Act.put, List.getElem_toArray, List.getElem_cons_succ, List.getElem_cons_zero, List.setIfInBounds_toArray, List.set_cons_zero, List.set_cons_succ]
    refine hK _ _ ?_
    clear hK K
    refine wpAny_done (by kernel_rfl) ?_ _
    go_wp2_with fail
    go_end0
    exact ⟨rfl, H0.out, HO.out⟩
end Go.Proofs.Yticgknjjhkgggaa
