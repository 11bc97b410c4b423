/- The sum of bytes by blocks, plain. Contracts: a state is pressed in memory. Contracts: a hash in memory; none, Len, Right. Contracts: a hash is made. -/
import Derived.Test.YtomnjhhpeglcnaaGreatZo
import Derived.IntWalk
namespace Go.Proofs.YtomnjhhpeglcnaaGreat

/-- How many blocks of these bytes are pressed before the last one. -/
def full (d : List By) : Nat := (d.length - 1) / 64
/-- Block k of these bytes. -/
def blockAt (d : List By) (k : Nat) : List By := (d.drop (64 * k)).take 64
def pressN (h : List Wo) (n : Nat) (d : List By) : Nat → List Wo
  | 0 => h
  | k + 1 => press (pressN h n d k) (pad (blockAt d k)) (n + 64 * (k + 1)) false
def leftOf (d : List By) : List By := d.drop (64 * full d)
theorem pressN_len (h : List Wo) (n : Nat) (d : List By) (k : Nat) : (pressN h n d k).length = h.length := by
  induction k with
  | zero => rfl
  | succ k ih => rw [pressN, press_len, ih]
theorem full_le (d : List By) : 64 * full d ≤ d.length := by unfold full; omega
theorem left_le (d : List By) : (leftOf d).length ≤ 64 := by unfold leftOf full; simp; omega
theorem left_pos (d : List By) (h : 0 < d.length) : 0 < (leftOf d).length := by unfold leftOf full; simp; omega
theorem blockAt_len (d : List By) (k : Nat) (h : k < full d) : (blockAt d k).length = 64 := by
  unfold blockAt full at *; simp; omega
theorem pressN_append (h : List Wo) (n : Nat) (d e : List By) (k : Nat) (hk : 64 * k ≤ d.length) : pressN h n (d ++ e) k = pressN h n d k := by
  induction k with
  | zero => rfl
  | succ k ih =>
    rw [pressN, pressN, ih (by omega)]
    congr 2
    unfold blockAt
    rw [List.drop_append_of_le_length (by omega), List.take_append_of_le_length (by simp; omega)]
theorem pressN_drop (h : List Wo) (n : Nat) (d : List By) (m k : Nat) : pressN h n d (m + k) = pressN (pressN h n d m) (n + 64 * m) (d.drop (64 * m)) k := by
  induction k with
  | zero => rfl
  | succ k ih =>
    have e1 : blockAt d (m + k) = blockAt (d.drop (64 * m)) k := by
      unfold blockAt
      rw [List.drop_drop, show 64 * (m + k) = 64 * m + 64 * k by omega]
    have e2 : n + 64 * (m + k + 1) = n + 64 * m + 64 * (k + 1) := by omega
    rw [← Nat.add_assoc, pressN, pressN, ih, e1, e2]
theorem full_append (d e : List By) : full (d ++ e) = full d + full (leftOf d ++ e) := by
  unfold leftOf full; simp; omega
theorem left_append (d e : List By) : leftOf (d ++ e) = leftOf (leftOf d ++ e) := by
  unfold leftOf
  rw [full_append, ← List.drop_append_of_le_length (full_le d) (l₂ := e), List.drop_drop]
  congr 1
  have : List.drop (64 * full d) (d ++ e) = leftOf d ++ e := by rw [List.drop_append_of_le_length (full_le d)]; rfl
  rw [this]
  omega
theorem pressN_more (h : List Wo) (d e : List By) : pressN h 0 (d ++ e) (full (d ++ e)) = pressN (pressN h 0 d (full d)) (64 * full d) (leftOf d ++ e) (full (leftOf d ++ e)) := by
  rw [full_append, pressN_drop, pressN_append _ _ _ _ _ (full_le d), List.drop_append_of_le_length (full_le d), Nat.zero_add]
  rfl
/-- A word's four bytes, the lowest ahead. -/
def lowBq (x : Wo) : List By := [BitVec.ofNat 8 x.toNat, BitVec.ofNat 8 (x.toNat / 256), BitVec.ofNat 8 (x.toNat / 65536), BitVec.ofNat 8 (x.toNat / 16777216)]
def outB (h : List Wo) : List By := (h.map lowBq).flatten
theorem outB_len (h : List Wo) : (outB h).length = 4 * h.length := by
  induction h with
  | nil => rfl
  | cons x t ih => simp only [outB, List.map_cons, List.flatten_cons, List.length_append] at ih ⊢; rw [ih]; simp [lowBq]; omega
/-- The last words. -/
def lastW (h0 : List Wo) (d : List By) : List Wo := press (pressN h0 0 d (full d)) (pad (leftOf d)) d.length true
def sumOf (h0 : List Wo) (d : List By) (wide : Nat) : List By := (outB (lastW h0 d)).take wide
theorem lastW_len (h0 : List Wo) (d : List By) : (lastW h0 d).length = h0.length := by rw [lastW, press_len, pressN_len]
theorem sumOf_len (h0 : List Wo) (d : List By) (wide : Nat) (h : h0.length = 8) (hw : wide ≤ 32) : (sumOf h0 d wide).length = wide := by
  rw [sumOf, List.length_take, outB_len, lastW_len, h]; omega
/-- The first words of a hash of this size, with a key of this length. -/
def start (wide klen : Nat) : List Wo := iv.set 0 (iv.getD 0 0#32 ^^^ BitVec.ofNat 32 (16842752 + 256 * klen + wide))
theorem start_len (wide klen : Nat) : (start wide klen).length = 8 := by simp [start, iv]
/-- What is hashed ahead of the bytes. -/
def keyB (key : List By) : List By := if key = [] then [] else pad key
theorem left_full (d : List By) : 64 * full d + (leftOf d).length = d.length := by
  have := full_le d
  unfold leftOf; simp; omega
/-- The sum of a size, with a key. -/
def keyed (wide : Nat) (key b : List By) : List By := sumOf (start wide key.length) (keyB key ++ b) wide
/-- Blocks pressed one after the other, whichever they are. -/
def stepL (D : List By) (st : List Wo × Nat) (x : Nat) : List Wo × Nat := (press st.1 (pad (blockAt D x)) (st.2 + 64) false, st.2 + 64)
def pressL (h : List Wo) (n : Nat) (D : List By) (pre : List Nat) : List Wo × Nat := pre.foldl (stepL D) (h, n)
theorem pressL_snoc (h : List Wo) (n : Nat) (D : List By) (pre : List Nat) (x : Nat) : pressL h n D (pre ++ [x]) = stepL D (pressL h n D pre) x := by
  rw [pressL, List.foldl_append]; rfl
theorem pressL_range (h : List Wo) (n : Nat) (D : List By) (k : Nat) : pressL h n D (List.range k) = (pressN h n D k, n + 64 * k) := by
  induction k with
  | zero => rfl
  | succ k ih => rw [List.range_succ, pressL_snoc, ih, stepL, pressN]; rfl
theorem pressL_n (h : List Wo) (n : Nat) (D : List By) (pre : List Nat) : (pressL h n D pre).2 = n + 64 * pre.length := by
  have : ∀ (pre : List Nat) (st : List Wo × Nat), (pre.foldl (stepL D) st).2 = st.2 + 64 * pre.length := by
    intro pre
    induction pre with
    | nil => intro st; rfl
    | cons x t ih => intro st; rw [List.foldl_cons, ih, stepL, List.length_cons]; show st.2 + 64 + 64 * t.length = _; omega
  exact this pre (h, n)
theorem pressL_len (h : List Wo) (n : Nat) (D : List By) (pre : List Nat) : (pressL h n D pre).1.length = h.length := by
  have : ∀ (pre : List Nat) (st : List Wo × Nat), (pre.foldl (stepL D) st).1.length = st.1.length := by
    intro pre
    induction pre with
    | nil => intro st; rfl
    | cons x t ih => intro st; rw [List.foldl_cons, ih, stepL, press_len]
  exact this pre (h, n)
end Go.Proofs.YtomnjhhpeglcnaaGreat

namespace Go.Proofs.YtomnjhhpeglcnaaGreat
open Go.RowKit
set_option maxRecDepth 100000
set_option linter.unusedSimpArgs false
set_option linter.unusedVariables false

set_option maxRecDepth 100000 in
set_option maxHeartbeats 4000000 in
theorem spress_c (g : Nat) (t : TypeId) (h : List Wo) (n : Nat) (rest : List Value) (a : Option Addr) (m c : Nat) (l : List By) (last : Bool) (w : World) (hh : h.length = 8) (hb : Blk w g t (scells h n rest)) (hl : Bys w a m l) (hm : m ≤ 64) (hn : n ≤ 1000000000000) :
    Calls Tryz.prog 102 #[.pointer (some ⟨g, 0, none⟩), .slice a m c, .bool last] w fun e w' => e = .returned (.tuple #[]) ∧ Blk w' g t (scells (press h (pad l) (n + m) last) (n + m) rest) ∧ Only g w w' := by
  have z28 := zero28
  obtain ⟨Z, hZ⟩ : ∃ Z, Z = bya (List.replicate 64 0#8) := ⟨_, rfl⟩
  rw [← hZ] at z28
  have HZ := Lib.hid hZ; have HH := Lib.hid hh; have HB := Lib.hid hb; have HL := Lib.hid hl
  have HM : Hid (l.length = m) := Lib.hid hl.1
  clear hZ hh hb hl
  go_enter Tryz.func102, Tryz.ntmps102
  go_wp2_with fail
  have H0 := Lib.hid (HB.out.alloc (.cells Z 151))
  have H1 : Hid (Blk (w.alloc (.cells Z 151)) w.heap.size 151 (bya (List.replicate 64 0#8))) := Lib.hid (by rw [← HZ.out]; exact Blk.new w 151 Z)
  have H2 := Lib.hid (HL.out.below ((Below.refl w.heap.size w).alloc (Nat.le_refl _) (.cells Z 151)))
  have HO := Lib.hid ((Only.refl g w).alloc (.cells Z 151))
  have hgb : g < w.heap.size := HB.out.lt
  have hlb : ∀ x off, a = some ⟨x, off, none⟩ → 0 < m → x ≠ w.heap.size := fun x off e h0 => by
    obtain ⟨x', off', e', hx, _⟩ := HL.out.cells h0
    rw [e] at e'; injection e' with e'; injection e' with e1 e2; omega
  have HLB := Lib.hid hlb
  clear hlb
  generalize hgs : w.heap.size = gb at H1 hgb HLB ⊢
  have HGS := Lib.hid hgs
  clear hgs
  have W1 : IntKind.u64.wrap (m : Int) = (m : Int) := IntWalk.u64_in _ (by omega)
  have W2 : IntKind.u64.wrap ((n : Int) + (m : Int)) = (n : Int) + (m : Int) := IntWalk.u64_in _ (by omega)
  generalize (World.alloc _ _) = w1 at H0 H1 H2 HO ⊢
  go_cut [] (fun wx => Blk wx g t (scells h (n + m) rest) ∧ Blk wx gb 151 (bya (pad l)) ∧ Only g w wx)
  case first =>
    have H0 := Lib.hid H0.out.drew; have H1 := Lib.hid H1.out.drew; have HO := Lib.hid HO.out.drew
    have H2 := Lib.hid (H2.out.below (Below.refl w1.heap.size w1).drew)
    refine wp_region_any (by kernel_rfl) ?_
    change wpAny _ _ _ _ _ _ _ (World.drew _)
    generalize w1.drew = w2 at H0 H1 H2 HO ⊢
    refine wpAny_take (i := 0) (v := .pointer (some ⟨g, 0, none⟩)) rfl (by kernel_rfl) (by kernel_rfl) (by kernel_rfl) (fun _ _ _ h => h) (Or.inl ⟨by kernel_rfl, fun w => ?_⟩) ?_
    · go_simp
    try simp only [Act.put, List.getElem_toArray, List.getElem_cons_succ, List.getElem_cons_zero, List.setIfInBounds_toArray, List.set_cons_zero, List.set_cons_succ]
    refine wpAny_take (i := 1) (v := .pointer (some ⟨g, 0, none⟩)) rfl (by kernel_rfl) (by kernel_rfl) (by kernel_rfl) (fun _ _ _ h => h) (Or.inl ⟨by kernel_rfl, fun w => ?_⟩) ?_
    · go_simp
    try simp only [Act.put, List.getElem_toArray, List.getElem_cons_succ, List.getElem_cons_zero, List.setIfInBounds_toArray, List.set_cons_zero, List.set_cons_succ]
    refine wpAny_take (i := 2) (v := .pointer (some ⟨g, 8, none⟩)) rfl (by kernel_rfl) (by kernel_rfl) (by kernel_rfl) (fun _ _ _ h => h) (Or.inl ⟨by kernel_rfl, fun w => ?_⟩) ?_
    · go_simp
    try simp only [Act.put, List.getElem_toArray, List.getElem_cons_succ, List.getElem_cons_zero, List.setIfInBounds_toArray, List.set_cons_zero, List.set_cons_succ]
    refine wpAny_take (i := 4) (v := .slice (some ⟨gb, 0, none⟩) 64 64) rfl (by kernel_rfl) (by kernel_rfl) (by kernel_rfl) (fun _ _ _ h => h) (Or.inl ⟨by kernel_rfl, fun w => ?_⟩) ?_
    · go_simp
    try simp only [Act.put, List.getElem_toArray, List.getElem_cons_succ, List.getElem_cons_zero, List.setIfInBounds_toArray, List.set_cons_zero, List.set_cons_succ]
    refine wpAny_take (i := 5) (v := .slice a m c) rfl (by kernel_rfl) (by kernel_rfl) (by kernel_rfl) (fun _ _ _ h => h) (Or.inl ⟨by kernel_rfl, fun w => ?_⟩) ?_
    · go_simp
    try simp only [Act.put, List.getElem_toArray, List.getElem_cons_succ, List.getElem_cons_zero, List.setIfInBounds_toArray, List.set_cons_zero, List.set_cons_succ]
    refine wpAny_ready (rs := [3, 6]) (by kernel_rfl) (by simp) ?_
    refine AllReady.cons (by rfl) ?_ ?_
    · intro K hK
      have hc8 := H0.out.cell (scells_n HH.out)
      go_simp
      clear hc8
      refine hK _ _ ?_
      clear hK K
      refine wpAny_ready (rs := [6]) (by kernel_rfl) (by simp) ?_
      refine all_ready_yes (by rfl) (by kernel_rfl) ?_ AllReady.nil
      intro K hK
      refine wp_copy_bys (.tmp 11) (.tmp 12) rfl gb _ 151 a m c 64 64 l rfl rfl H1.out H2.out hm (by simp) ?_
      intro w3 hc3 hO3 hz3
      have hwr : w.heap.size ≤ gb := by rw [HGS.out]; exact Nat.le_refl _
      have H0 := Lib.hid (hO3.blk H0.out (by omega))
      have H1 := Lib.hid hc3
      have H2 := Lib.hid (H2.out.only hO3 HLB.out)
      have HO := Lib.hid (HO.out.grown hO3 (fun k e => .inr (by injection e with e; omega)))
      clear hc3 hO3 hz3 hwr
      simp only [Act.put, List.getElem_toArray, List.getElem_cons_succ, List.getElem_cons_zero, List.setIfInBounds_toArray, List.set_cons_zero, List.set_cons_succ]
      refine hK _ _ ?_
      clear hK K
      refine wpAny_take (i := 7) (v := .int .u64 (m : Int)) rfl (by kernel_rfl) (by kernel_rfl) (by kernel_rfl) (fun _ _ _ h => h) (Or.inl ⟨by kernel_rfl, fun w => ?_⟩) ?_
      · go_simp
      try simp only [Act.put, List.getElem_toArray, List.getElem_cons_succ, List.getElem_cons_zero, List.setIfInBounds_toArray, List.set_cons_zero, List.set_cons_succ]
      refine wpAny_take (i := 8) (v := .int .u64 ((n : Int) + (m : Int))) rfl (by kernel_rfl) (by kernel_rfl) (by kernel_rfl) (fun _ _ _ h => h) (Or.inl ⟨by kernel_rfl, fun w => ?_⟩) ?_
      · go_simp
      try simp only [Act.put, List.getElem_toArray, List.getElem_cons_succ, List.getElem_cons_zero, List.setIfInBounds_toArray, List.set_cons_zero, List.set_cons_succ]
      refine wpAny_take (i := 9) (v := .pointer (some ⟨g, 0, none⟩)) rfl (by kernel_rfl) (by kernel_rfl) (by kernel_rfl) (fun _ _ _ h => h) (Or.inl ⟨by kernel_rfl, fun w => ?_⟩) ?_
      · go_simp
      try simp only [Act.put, List.getElem_toArray, List.getElem_cons_succ, List.getElem_cons_zero, List.setIfInBounds_toArray, List.set_cons_zero, List.set_cons_succ]
      refine wpAny_take (i := 10) (v := .pointer (some ⟨g, 8, none⟩)) rfl (by kernel_rfl) (by kernel_rfl) (by kernel_rfl) (fun _ _ _ h => h) (Or.inl ⟨by kernel_rfl, fun w => ?_⟩) ?_
      · go_simp
      try simp only [Act.put, List.getElem_toArray, List.getElem_cons_succ, List.getElem_cons_zero, List.setIfInBounds_toArray, List.set_cons_zero, List.set_cons_succ]
      refine wpAny_ready (rs := [11]) (by kernel_rfl) (by simp) ?_
      refine AllReady.cons (by rfl) ?_ AllReady.nil
      intro K hK
      have hc8 := H0.out.cell (scells_n HH.out)
      have hf8 := H0.out.frozen 8
      go_simp
      clear hc8 hf8
      have H0 := Lib.hid (H0.out.set 8 (.int .u64 ((n : Int) + (m : Int))))
      have H1 := Lib.hid (H1.out.far (p := ⟨g, 8, none⟩) (Nat.ne_of_gt hgb) (.int .u64 ((n : Int) + (m : Int))))
      have HO := Lib.hid (HO.out.setCell (p := ⟨g, 8, none⟩) (.inl rfl) (.int .u64 ((n : Int) + (m : Int))))
      generalize (World.setCell _ _ _) = w9 at H0 H1 HO ⊢
      refine hK _ _ ?_
      clear hK K
      refine wpAny_done (by kernel_rfl) ?_ _
      go_wp2_with fail
      go_meet
      refine ⟨?_, ?_, HO.out⟩
      · have := H0.out
        rw [show ((n : Int) + (m : Int)) = ((n + m : Nat) : Int) by omega, scells_setn HH.out] at this
        exact this
      · have := H1.out
        rw [← HM.out, pad_copy l (by rw [HM.out]; exact hm)] at this
        exact this
    refine all_ready_yes (by rfl) (by kernel_rfl) ?_ AllReady.nil
    intro K hK
    refine wp_copy_bys (.tmp 11) (.tmp 12) rfl gb _ 151 a m c 64 64 l rfl rfl H1.out H2.out hm (by simp) ?_
    intro w3 hc3 hO3 hz3
    have hwr : w.heap.size ≤ gb := by rw [HGS.out]; exact Nat.le_refl _
    have H0 := Lib.hid (hO3.blk H0.out (by omega))
    have H1 := Lib.hid hc3
    have H2 := Lib.hid (H2.out.only hO3 HLB.out)
    have HO := Lib.hid (HO.out.grown hO3 (fun k e => .inr (by injection e with e; omega)))
    clear hc3 hO3 hz3 hwr
    simp only [Act.put, List.getElem_toArray, List.getElem_cons_succ, List.getElem_cons_zero, List.setIfInBounds_toArray, List.set_cons_zero, List.set_cons_succ]
    refine hK _ _ ?_
    clear hK K
    refine wpAny_take (i := 7) (v := .int .u64 (m : Int)) rfl (by kernel_rfl) (by kernel_rfl) (by kernel_rfl) (fun _ _ _ h => h) (Or.inl ⟨by kernel_rfl, fun w => ?_⟩) ?_
    · go_simp
    try simp only [Act.put, List.getElem_toArray, List.getElem_cons_succ, List.getElem_cons_zero, List.setIfInBounds_toArray, List.set_cons_zero, List.set_cons_succ]
    refine wpAny_ready (rs := [3]) (by kernel_rfl) (by simp) ?_
    refine AllReady.cons (by rfl) ?_ AllReady.nil
    intro K hK
    have hc8 := H0.out.cell (scells_n HH.out)
    go_simp
    clear hc8
    refine hK _ _ ?_
    clear hK K
    refine wpAny_take (i := 8) (v := .int .u64 ((n : Int) + (m : Int))) rfl (by kernel_rfl) (by kernel_rfl) (by kernel_rfl) (fun _ _ _ h => h) (Or.inl ⟨by kernel_rfl, fun w => ?_⟩) ?_
    · go_simp
    try simp only [Act.put, List.getElem_toArray, List.getElem_cons_succ, List.getElem_cons_zero, List.setIfInBounds_toArray, List.set_cons_zero, List.set_cons_succ]
    refine wpAny_take (i := 9) (v := .pointer (some ⟨g, 0, none⟩)) rfl (by kernel_rfl) (by kernel_rfl) (by kernel_rfl) (fun _ _ _ h => h) (Or.inl ⟨by kernel_rfl, fun w => ?_⟩) ?_
    · go_simp
    try simp only [Act.put, List.getElem_toArray, List.getElem_cons_succ, List.getElem_cons_zero, List.setIfInBounds_toArray, List.set_cons_zero, List.set_cons_succ]
    refine wpAny_take (i := 10) (v := .pointer (some ⟨g, 8, none⟩)) rfl (by kernel_rfl) (by kernel_rfl) (by kernel_rfl) (fun _ _ _ h => h) (Or.inl ⟨by kernel_rfl, fun w => ?_⟩) ?_
    · go_simp
    try simp only [Act.put, List.getElem_toArray, List.getElem_cons_succ, List.getElem_cons_zero, List.setIfInBounds_toArray, List.set_cons_zero, List.set_cons_succ]
    refine wpAny_ready (rs := [11]) (by kernel_rfl) (by simp) ?_
    refine AllReady.cons (by rfl) ?_ AllReady.nil
    intro K hK
    have hc8 := H0.out.cell (scells_n HH.out)
    have hf8 := H0.out.frozen 8
    go_simp
    clear hc8 hf8
    have H0 := Lib.hid (H0.out.set 8 (.int .u64 ((n : Int) + (m : Int))))
    have H1 := Lib.hid (H1.out.far (p := ⟨g, 8, none⟩) (Nat.ne_of_gt hgb) (.int .u64 ((n : Int) + (m : Int))))
    have HO := Lib.hid (HO.out.setCell (p := ⟨g, 8, none⟩) (.inl rfl) (.int .u64 ((n : Int) + (m : Int))))
    generalize (World.setCell _ _ _) = w9 at H0 H1 HO ⊢
    refine hK _ _ ?_
    clear hK K
    refine wpAny_done (by kernel_rfl) ?_ _
    go_wp2_with fail
    go_meet
    refine ⟨?_, ?_, HO.out⟩
    · have := H0.out
      rw [show ((n : Int) + (m : Int)) = ((n + m : Nat) : Int) by omega, scells_setn HH.out] at this
      exact this
    · have := H1.out
      rw [← HM.out, pad_copy l (by rw [HM.out]; exact hm)] at this
      exact this
  case rest =>
    obtain ⟨h0, h1, hO⟩ := hcut
    have H0 := Lib.hid h0.drew; have H1 := Lib.hid h1.drew; have HO := Lib.hid hO.drew
    clear h0 h1 hO
    clear W1 W2
    go_wp2_with fail
    refine wp_region_any (by kernel_rfl) ?_
    change wpAny _ _ _ _ _ _ _ (World.drew _)
    generalize wc.drew = w2 at H0 H1 HO ⊢
    refine wpAny_take (i := 0) (v := .pointer (some ⟨g, 0, none⟩)) rfl (by kernel_rfl) (by kernel_rfl) (by kernel_rfl) (fun _ _ _ h => h) (Or.inl ⟨by kernel_rfl, fun w => ?_⟩) ?_
    · go_simp
    try simp only [Act.put, List.getElem_toArray, List.getElem_cons_succ, List.getElem_cons_zero, List.setIfInBounds_toArray, List.set_cons_zero, List.set_cons_succ]
    refine wpAny_take (i := 1) (v := .pointer (some ⟨g, 0, none⟩)) rfl (by kernel_rfl) (by kernel_rfl) (by kernel_rfl) (fun _ _ _ h => h) (Or.inl ⟨by kernel_rfl, fun w => ?_⟩) ?_
    · go_simp
    try simp only [Act.put, List.getElem_toArray, List.getElem_cons_succ, List.getElem_cons_zero, List.setIfInBounds_toArray, List.set_cons_zero, List.set_cons_succ]
    refine wpAny_take (i := 2) (v := .pointer (some ⟨g, 0, none⟩)) rfl (by kernel_rfl) (by kernel_rfl) (by kernel_rfl) (fun _ _ _ h => h) (Or.inl ⟨by kernel_rfl, fun w => ?_⟩) ?_
    · go_simp
    try simp only [Act.put, List.getElem_toArray, List.getElem_cons_succ, List.getElem_cons_zero, List.setIfInBounds_toArray, List.set_cons_zero, List.set_cons_succ]
    refine wpAny_take (i := 3) (v := .pointer (some ⟨g, 0, none⟩)) rfl (by kernel_rfl) (by kernel_rfl) (by kernel_rfl) (fun _ _ _ h => h) (Or.inl ⟨by kernel_rfl, fun w => ?_⟩) ?_
    · go_simp
    try simp only [Act.put, List.getElem_toArray, List.getElem_cons_succ, List.getElem_cons_zero, List.setIfInBounds_toArray, List.set_cons_zero, List.set_cons_succ]
    refine wpAny_take (i := 6) (v := .pointer (some ⟨g, 0, none⟩)) rfl (by kernel_rfl) (by kernel_rfl) (by kernel_rfl) (fun _ _ _ h => h) (Or.inl ⟨by kernel_rfl, fun w => ?_⟩) ?_
    · go_simp
    try simp only [Act.put, List.getElem_toArray, List.getElem_cons_succ, List.getElem_cons_zero, List.setIfInBounds_toArray, List.set_cons_zero, List.set_cons_succ]
    refine wpAny_take (i := 7) (v := .pointer (some ⟨g, 0, none⟩)) rfl (by kernel_rfl) (by kernel_rfl) (by kernel_rfl) (fun _ _ _ h => h) (Or.inl ⟨by kernel_rfl, fun w => ?_⟩) ?_
    · go_simp
    try simp only [Act.put, List.getElem_toArray, List.getElem_cons_succ, List.getElem_cons_zero, List.setIfInBounds_toArray, List.set_cons_zero, List.set_cons_succ]
    refine wpAny_take (i := 8) (v := .pointer (some ⟨g, 8, none⟩)) rfl (by kernel_rfl) (by kernel_rfl) (by kernel_rfl) (fun _ _ _ h => h) (Or.inl ⟨by kernel_rfl, fun w => ?_⟩) ?_
    · go_simp
    try simp only [Act.put, List.getElem_toArray, List.getElem_cons_succ, List.getElem_cons_zero, List.setIfInBounds_toArray, List.set_cons_zero, List.set_cons_succ]
    refine wpAny_take (i := 10) (v := .bool last) rfl (by kernel_rfl) (by kernel_rfl) (by kernel_rfl) (fun _ _ _ h => h) (Or.inl ⟨by kernel_rfl, fun w => ?_⟩) ?_
    · go_simp
    try simp only [Act.put, List.getElem_toArray, List.getElem_cons_succ, List.getElem_cons_zero, List.setIfInBounds_toArray, List.set_cons_zero, List.set_cons_succ]
    refine wpAny_ready (rs := [4, 5, 9]) (by kernel_rfl) (by simp) ?_
    refine all_ready_yes (by rfl) (by kernel_rfl) ?_ ?_
    · intro K hK
      refine wp_load_mid 161 (.tmp 21) rfl g 0 rfl _ _ (range_words H0.out HH.out) Tryz.underlying161 rfl (by simp only [Array.length_toList, ws_size, HH.out]; kernel_rfl) ?_
      rw [Array.toArray_toList]
      simp only [Act.put, List.getElem_toArray, List.getElem_cons_succ, List.getElem_cons_zero, List.setIfInBounds_toArray, List.set_cons_zero, List.set_cons_succ]
      refine hK _ _ ?_
      clear hK K
      refine wpAny_ready (rs := [5, 9]) (by kernel_rfl) (by simp) ?_
      refine all_ready_yes (by rfl) (by kernel_rfl) ?_ ?_
      · intro K hK
        refine wp_load_blk 151 (.tmp 6) rfl gb rfl 151 _ _ H1.out Tryz.underlying151 rfl (by rw [bya_size, pad_len l (by rw [HM.out]; exact hm)]; kernel_rfl) ?_
        simp only [Act.put, List.getElem_toArray, List.getElem_cons_succ, List.getElem_cons_zero, List.setIfInBounds_toArray, List.set_cons_zero, List.set_cons_succ]
        refine hK _ _ ?_
        clear hK K
        refine wpAny_ready (rs := [9]) (by kernel_rfl) (by simp) ?_
        refine AllReady.cons (by rfl) ?_ AllReady.nil
        intro K hK
        have hc8 := H0.out.cell (scells_n HH.out)
        go_simp
        clear hc8
        refine hK _ _ ?_
        clear hK K
        refine wpAny_ready (rs := [11]) (by kernel_rfl) (by simp) ?_
        refine AllReady.cons (by rfl) ?_ AllReady.nil
        intro K hK
        go_simp
        refine (press_c h (pad l) (n + m) last _ HH.out (pad_len l (by rw [HM.out]; exact hm))).mono ?_
        rintro e w8 ⟨rfl, hb8⟩
        have H0 := Lib.hid (H0.out.below hb8 H0.out.lt)
        have HO := Lib.hid (HO.out.trans (Only.of_below hb8 g))
        clear hb8
        refine hK _ _ ?_
        clear hK K
        refine wpAny_take (i := 12) (v := .pointer (some ⟨g, 0, none⟩)) rfl (by kernel_rfl) (by kernel_rfl) (by kernel_rfl) (fun _ _ _ h => h) (Or.inl ⟨by kernel_rfl, fun w => ?_⟩) ?_
        · go_simp
        try simp only [Act.put, List.getElem_toArray, List.getElem_cons_succ, List.getElem_cons_zero, List.setIfInBounds_toArray, List.set_cons_zero, List.set_cons_succ]
        refine wpAny_take (i := 13) (v := .pointer (some ⟨g, 0, none⟩)) rfl (by kernel_rfl) (by kernel_rfl) (by kernel_rfl) (fun _ _ _ h => h) (Or.inl ⟨by kernel_rfl, fun w => ?_⟩) ?_
        · go_simp
        try simp only [Act.put, List.getElem_toArray, List.getElem_cons_succ, List.getElem_cons_zero, List.setIfInBounds_toArray, List.set_cons_zero, List.set_cons_succ]
        refine wpAny_ready (rs := [14]) (by kernel_rfl) (by simp) ?_
        refine all_ready_yes (by rfl) (by kernel_rfl) ?_ AllReady.nil
        intro K hK
        refine wp_store_words 161 (.tmp 31) (.tmp 29) rfl g h (press h (pad l) (n + m) last) rfl rfl H0.out HH.out (by rw [press_len]; exact HH.out) (by kernel_rfl) ?_
        intro w9 h9 hO9 hz9
        have H0 := Lib.hid h9
        have HO := Lib.hid (HO.out.trans hO9)
        clear h9 hO9 hz9
        simp only [Act.put, List.getElem_toArray, List.getElem_cons_succ, List.getElem_cons_zero, List.setIfInBounds_toArray, List.set_cons_zero, List.set_cons_succ]
        refine hK _ _ ?_
        clear hK K
        refine wpAny_done (by kernel_rfl) ?_ _
        go_wp2_with fail
        go_end0
        exact ⟨rfl, H0.out, HO.out⟩
      refine AllReady.cons (by rfl) ?_ AllReady.nil
      intro K hK
      have hc8 := H0.out.cell (scells_n HH.out)
      go_simp
      clear hc8
      refine hK _ _ ?_
      clear hK K
      refine wpAny_ready (rs := [5]) (by kernel_rfl) (by simp) ?_
      refine all_ready_yes (by rfl) (by kernel_rfl) ?_ AllReady.nil
      intro K hK
      refine wp_load_blk 151 (.tmp 6) rfl gb rfl 151 _ _ H1.out Tryz.underlying151 rfl (by rw [bya_size, pad_len l (by rw [HM.out]; exact hm)]; kernel_rfl) ?_
      simp only [Act.put, List.getElem_toArray, List.getElem_cons_succ, List.getElem_cons_zero, List.setIfInBounds_toArray, List.set_cons_zero, List.set_cons_succ]
      refine hK _ _ ?_
      clear hK K
      refine wpAny_ready (rs := [11]) (by kernel_rfl) (by simp) ?_
      refine AllReady.cons (by rfl) ?_ AllReady.nil
      intro K hK
      go_simp
      refine (press_c h (pad l) (n + m) last _ HH.out (pad_len l (by rw [HM.out]; exact hm))).mono ?_
      rintro e w8 ⟨rfl, hb8⟩
      have H0 := Lib.hid (H0.out.below hb8 H0.out.lt)
      have HO := Lib.hid (HO.out.trans (Only.of_below hb8 g))
      clear hb8
      refine hK _ _ ?_
      clear hK K
      refine wpAny_take (i := 12) (v := .pointer (some ⟨g, 0, none⟩)) rfl (by kernel_rfl) (by kernel_rfl) (by kernel_rfl) (fun _ _ _ h => h) (Or.inl ⟨by kernel_rfl, fun w => ?_⟩) ?_
      · go_simp
      try simp only [Act.put, List.getElem_toArray, List.getElem_cons_succ, List.getElem_cons_zero, List.setIfInBounds_toArray, List.set_cons_zero, List.set_cons_succ]
      refine wpAny_take (i := 13) (v := .pointer (some ⟨g, 0, none⟩)) rfl (by kernel_rfl) (by kernel_rfl) (by kernel_rfl) (fun _ _ _ h => h) (Or.inl ⟨by kernel_rfl, fun w => ?_⟩) ?_
      · go_simp
      try simp only [Act.put, List.getElem_toArray, List.getElem_cons_succ, List.getElem_cons_zero, List.setIfInBounds_toArray, List.set_cons_zero, List.set_cons_succ]
      refine wpAny_ready (rs := [14]) (by kernel_rfl) (by simp) ?_
      refine all_ready_yes (by rfl) (by kernel_rfl) ?_ AllReady.nil
      intro K hK
      refine wp_store_words 161 (.tmp 31) (.tmp 29) rfl g h (press h (pad l) (n + m) last) rfl rfl H0.out HH.out (by rw [press_len]; exact HH.out) (by kernel_rfl) ?_
      intro w9 h9 hO9 hz9
      have H0 := Lib.hid h9
      have HO := Lib.hid (HO.out.trans hO9)
      clear h9 hO9 hz9
      simp only [Act.put, List.getElem_toArray, List.getElem_cons_succ, List.getElem_cons_zero, List.setIfInBounds_toArray, List.set_cons_zero, List.set_cons_succ]
      refine hK _ _ ?_
      clear hK K
      refine wpAny_done (by kernel_rfl) ?_ _
      go_wp2_with fail
      go_end0
      exact ⟨rfl, H0.out, HO.out⟩
    refine all_ready_yes (by rfl) (by kernel_rfl) ?_ ?_
    · intro K hK
      refine wp_load_blk 151 (.tmp 6) rfl gb rfl 151 _ _ H1.out Tryz.underlying151 rfl (by rw [bya_size, pad_len l (by rw [HM.out]; exact hm)]; kernel_rfl) ?_
      simp only [Act.put, List.getElem_toArray, List.getElem_cons_succ, List.getElem_cons_zero, List.setIfInBounds_toArray, List.set_cons_zero, List.set_cons_succ]
      refine hK _ _ ?_
      clear hK K
      refine wpAny_ready (rs := [4, 9]) (by kernel_rfl) (by simp) ?_
      refine all_ready_yes (by rfl) (by kernel_rfl) ?_ ?_
      · intro K hK
        refine wp_load_mid 161 (.tmp 21) rfl g 0 rfl _ _ (range_words H0.out HH.out) Tryz.underlying161 rfl (by simp only [Array.length_toList, ws_size, HH.out]; kernel_rfl) ?_
        rw [Array.toArray_toList]
        simp only [Act.put, List.getElem_toArray, List.getElem_cons_succ, List.getElem_cons_zero, List.setIfInBounds_toArray, List.set_cons_zero, List.set_cons_succ]
        refine hK _ _ ?_
        clear hK K
        refine wpAny_ready (rs := [9]) (by kernel_rfl) (by simp) ?_
        refine AllReady.cons (by rfl) ?_ AllReady.nil
        intro K hK
        have hc8 := H0.out.cell (scells_n HH.out)
        go_simp
        clear hc8
        refine hK _ _ ?_
        clear hK K
        refine wpAny_ready (rs := [11]) (by kernel_rfl) (by simp) ?_
        refine AllReady.cons (by rfl) ?_ AllReady.nil
        intro K hK
        go_simp
        refine (press_c h (pad l) (n + m) last _ HH.out (pad_len l (by rw [HM.out]; exact hm))).mono ?_
        rintro e w8 ⟨rfl, hb8⟩
        have H0 := Lib.hid (H0.out.below hb8 H0.out.lt)
        have HO := Lib.hid (HO.out.trans (Only.of_below hb8 g))
        clear hb8
        refine hK _ _ ?_
        clear hK K
        refine wpAny_take (i := 12) (v := .pointer (some ⟨g, 0, none⟩)) rfl (by kernel_rfl) (by kernel_rfl) (by kernel_rfl) (fun _ _ _ h => h) (Or.inl ⟨by kernel_rfl, fun w => ?_⟩) ?_
        · go_simp
        try simp only [Act.put, List.getElem_toArray, List.getElem_cons_succ, List.getElem_cons_zero, List.setIfInBounds_toArray, List.set_cons_zero, List.set_cons_succ]
        refine wpAny_take (i := 13) (v := .pointer (some ⟨g, 0, none⟩)) rfl (by kernel_rfl) (by kernel_rfl) (by kernel_rfl) (fun _ _ _ h => h) (Or.inl ⟨by kernel_rfl, fun w => ?_⟩) ?_
        · go_simp
        try simp only [Act.put, List.getElem_toArray, List.getElem_cons_succ, List.getElem_cons_zero, List.setIfInBounds_toArray, List.set_cons_zero, List.set_cons_succ]
        refine wpAny_ready (rs := [14]) (by kernel_rfl) (by simp) ?_
        refine all_ready_yes (by rfl) (by kernel_rfl) ?_ AllReady.nil
        intro K hK
        refine wp_store_words 161 (.tmp 31) (.tmp 29) rfl g h (press h (pad l) (n + m) last) rfl rfl H0.out HH.out (by rw [press_len]; exact HH.out) (by kernel_rfl) ?_
        intro w9 h9 hO9 hz9
        have H0 := Lib.hid h9
        have HO := Lib.hid (HO.out.trans hO9)
        clear h9 hO9 hz9
        simp only [Act.put, List.getElem_toArray, List.getElem_cons_succ, List.getElem_cons_zero, List.setIfInBounds_toArray, List.set_cons_zero, List.set_cons_succ]
        refine hK _ _ ?_
        clear hK K
        refine wpAny_done (by kernel_rfl) ?_ _
        go_wp2_with fail
        go_end0
        exact ⟨rfl, H0.out, HO.out⟩
      refine AllReady.cons (by rfl) ?_ AllReady.nil
      intro K hK
      have hc8 := H0.out.cell (scells_n HH.out)
      go_simp
      clear hc8
      refine hK _ _ ?_
      clear hK K
      refine wpAny_ready (rs := [4]) (by kernel_rfl) (by simp) ?_
      refine all_ready_yes (by rfl) (by kernel_rfl) ?_ AllReady.nil
      intro K hK
      refine wp_load_mid 161 (.tmp 21) rfl g 0 rfl _ _ (range_words H0.out HH.out) Tryz.underlying161 rfl (by simp only [Array.length_toList, ws_size, HH.out]; kernel_rfl) ?_
      rw [Array.toArray_toList]
      simp only [Act.put, List.getElem_toArray, List.getElem_cons_succ, List.getElem_cons_zero, List.setIfInBounds_toArray, List.set_cons_zero, List.set_cons_succ]
      refine hK _ _ ?_
      clear hK K
      refine wpAny_ready (rs := [11]) (by kernel_rfl) (by simp) ?_
      refine AllReady.cons (by rfl) ?_ AllReady.nil
      intro K hK
      go_simp
      refine (press_c h (pad l) (n + m) last _ HH.out (pad_len l (by rw [HM.out]; exact hm))).mono ?_
      rintro e w8 ⟨rfl, hb8⟩
      have H0 := Lib.hid (H0.out.below hb8 H0.out.lt)
      have HO := Lib.hid (HO.out.trans (Only.of_below hb8 g))
      clear hb8
      refine hK _ _ ?_
      clear hK K
      refine wpAny_take (i := 12) (v := .pointer (some ⟨g, 0, none⟩)) rfl (by kernel_rfl) (by kernel_rfl) (by kernel_rfl) (fun _ _ _ h => h) (Or.inl ⟨by kernel_rfl, fun w => ?_⟩) ?_
      · go_simp
      try simp only [Act.put, List.getElem_toArray, List.getElem_cons_succ, List.getElem_cons_zero, List.setIfInBounds_toArray, List.set_cons_zero, List.set_cons_succ]
      refine wpAny_take (i := 13) (v := .pointer (some ⟨g, 0, none⟩)) rfl (by kernel_rfl) (by kernel_rfl) (by kernel_rfl) (fun _ _ _ h => h) (Or.inl ⟨by kernel_rfl, fun w => ?_⟩) ?_
      · go_simp
      try simp only [Act.put, List.getElem_toArray, List.getElem_cons_succ, List.getElem_cons_zero, List.setIfInBounds_toArray, List.set_cons_zero, List.set_cons_succ]
      refine wpAny_ready (rs := [14]) (by kernel_rfl) (by simp) ?_
      refine all_ready_yes (by rfl) (by kernel_rfl) ?_ AllReady.nil
      intro K hK
      refine wp_store_words 161 (.tmp 31) (.tmp 29) rfl g h (press h (pad l) (n + m) last) rfl rfl H0.out HH.out (by rw [press_len]; exact HH.out) (by kernel_rfl) ?_
      intro w9 h9 hO9 hz9
      have H0 := Lib.hid h9
      have HO := Lib.hid (HO.out.trans hO9)
      clear h9 hO9 hz9
      simp only [Act.put, List.getElem_toArray, List.getElem_cons_succ, List.getElem_cons_zero, List.setIfInBounds_toArray, List.set_cons_zero, List.set_cons_succ]
      refine hK _ _ ?_
      clear hK K
      refine wpAny_done (by kernel_rfl) ?_ _
      go_wp2_with fail
      go_end0
      exact ⟨rfl, H0.out, HO.out⟩
    refine AllReady.cons (by rfl) ?_ AllReady.nil
    intro K hK
    have hc8 := H0.out.cell (scells_n HH.out)
    go_simp
    clear hc8
    refine hK _ _ ?_
    clear hK K
    refine wpAny_ready (rs := [4, 5]) (by kernel_rfl) (by simp) ?_
    refine all_ready_yes (by rfl) (by kernel_rfl) ?_ ?_
    · intro K hK
      refine wp_load_mid 161 (.tmp 21) rfl g 0 rfl _ _ (range_words H0.out HH.out) Tryz.underlying161 rfl (by simp only [Array.length_toList, ws_size, HH.out]; kernel_rfl) ?_
      rw [Array.toArray_toList]
      simp only [Act.put, List.getElem_toArray, List.getElem_cons_succ, List.getElem_cons_zero, List.setIfInBounds_toArray, List.set_cons_zero, List.set_cons_succ]
      refine hK _ _ ?_
      clear hK K
      refine wpAny_ready (rs := [5]) (by kernel_rfl) (by simp) ?_
      refine all_ready_yes (by rfl) (by kernel_rfl) ?_ AllReady.nil
      intro K hK
      refine wp_load_blk 151 (.tmp 6) rfl gb rfl 151 _ _ H1.out Tryz.underlying151 rfl (by rw [bya_size, pad_len l (by rw [HM.out]; exact hm)]; kernel_rfl) ?_
      simp only [Act.put, List.getElem_toArray, List.getElem_cons_succ, List.getElem_cons_zero, List.setIfInBounds_toArray, List.set_cons_zero, List.set_cons_succ]
      refine hK _ _ ?_
      clear hK K
      refine wpAny_ready (rs := [11]) (by kernel_rfl) (by simp) ?_
      refine AllReady.cons (by rfl) ?_ AllReady.nil
      intro K hK
      go_simp
      refine (press_c h (pad l) (n + m) last _ HH.out (pad_len l (by rw [HM.out]; exact hm))).mono ?_
      rintro e w8 ⟨rfl, hb8⟩
      have H0 := Lib.hid (H0.out.below hb8 H0.out.lt)
      have HO := Lib.hid (HO.out.trans (Only.of_below hb8 g))
      clear hb8
      refine hK _ _ ?_
      clear hK K
      refine wpAny_take (i := 12) (v := .pointer (some ⟨g, 0, none⟩)) rfl (by kernel_rfl) (by kernel_rfl) (by kernel_rfl) (fun _ _ _ h => h) (Or.inl ⟨by kernel_rfl, fun w => ?_⟩) ?_
      · go_simp
      try simp only [Act.put, List.getElem_toArray, List.getElem_cons_succ, List.getElem_cons_zero, List.setIfInBounds_toArray, List.set_cons_zero, List.set_cons_succ]
      refine wpAny_take (i := 13) (v := .pointer (some ⟨g, 0, none⟩)) rfl (by kernel_rfl) (by kernel_rfl) (by kernel_rfl) (fun _ _ _ h => h) (Or.inl ⟨by kernel_rfl, fun w => ?_⟩) ?_
      · go_simp
      try simp only [Act.put, List.getElem_toArray, List.getElem_cons_succ, List.getElem_cons_zero, List.setIfInBounds_toArray, List.set_cons_zero, List.set_cons_succ]
      refine wpAny_ready (rs := [14]) (by kernel_rfl) (by simp) ?_
      refine all_ready_yes (by rfl) (by kernel_rfl) ?_ AllReady.nil
      intro K hK
      refine wp_store_words 161 (.tmp 31) (.tmp 29) rfl g h (press h (pad l) (n + m) last) rfl rfl H0.out HH.out (by rw [press_len]; exact HH.out) (by kernel_rfl) ?_
      intro w9 h9 hO9 hz9
      have H0 := Lib.hid h9
      have HO := Lib.hid (HO.out.trans hO9)
      clear h9 hO9 hz9
      simp only [Act.put, List.getElem_toArray, List.getElem_cons_succ, List.getElem_cons_zero, List.setIfInBounds_toArray, List.set_cons_zero, List.set_cons_succ]
      refine hK _ _ ?_
      clear hK K
      refine wpAny_done (by kernel_rfl) ?_ _
      go_wp2_with fail
      go_end0
      exact ⟨rfl, H0.out, HO.out⟩
    refine all_ready_yes (by rfl) (by kernel_rfl) ?_ AllReady.nil
    intro K hK
    refine wp_load_blk 151 (.tmp 6) rfl gb rfl 151 _ _ H1.out Tryz.underlying151 rfl (by rw [bya_size, pad_len l (by rw [HM.out]; exact hm)]; kernel_rfl) ?_
    simp only [Act.put, List.getElem_toArray, List.getElem_cons_succ, List.getElem_cons_zero, List.setIfInBounds_toArray, List.set_cons_zero, List.set_cons_succ]
    refine hK _ _ ?_
    clear hK K
    refine wpAny_ready (rs := [4]) (by kernel_rfl) (by simp) ?_
    refine all_ready_yes (by rfl) (by kernel_rfl) ?_ AllReady.nil
    intro K hK
    refine wp_load_mid 161 (.tmp 21) rfl g 0 rfl _ _ (range_words H0.out HH.out) Tryz.underlying161 rfl (by simp only [Array.length_toList, ws_size, HH.out]; kernel_rfl) ?_
    rw [Array.toArray_toList]
    simp only [Act.put, List.getElem_toArray, List.getElem_cons_succ, List.getElem_cons_zero, List.setIfInBounds_toArray, List.set_cons_zero, List.set_cons_succ]
    refine hK _ _ ?_
    clear hK K
    refine wpAny_ready (rs := [11]) (by kernel_rfl) (by simp) ?_
    refine AllReady.cons (by rfl) ?_ AllReady.nil
    intro K hK
    go_simp
    refine (press_c h (pad l) (n + m) last _ HH.out (pad_len l (by rw [HM.out]; exact hm))).mono ?_
    rintro e w8 ⟨rfl, hb8⟩
    have H0 := Lib.hid (H0.out.below hb8 H0.out.lt)
    have HO := Lib.hid (HO.out.trans (Only.of_below hb8 g))
    clear hb8
    refine hK _ _ ?_
    clear hK K
    refine wpAny_take (i := 12) (v := .pointer (some ⟨g, 0, none⟩)) rfl (by kernel_rfl) (by kernel_rfl) (by kernel_rfl) (fun _ _ _ h => h) (Or.inl ⟨by kernel_rfl, fun w => ?_⟩) ?_
    · go_simp
    try simp only [Act.put, List.getElem_toArray, List.getElem_cons_succ, List.getElem_cons_zero, List.setIfInBounds_toArray, List.set_cons_zero, List.set_cons_succ]
    refine wpAny_take (i := 13) (v := .pointer (some ⟨g, 0, none⟩)) rfl (by kernel_rfl) (by kernel_rfl) (by kernel_rfl) (fun _ _ _ h => h) (Or.inl ⟨by kernel_rfl, fun w => ?_⟩) ?_
    · go_simp
    try simp only [Act.put, List.getElem_toArray, List.getElem_cons_succ, List.getElem_cons_zero, List.setIfInBounds_toArray, List.set_cons_zero, List.set_cons_succ]
    refine wpAny_ready (rs := [14]) (by kernel_rfl) (by simp) ?_
    refine all_ready_yes (by rfl) (by kernel_rfl) ?_ AllReady.nil
    intro K hK
    refine wp_store_words 161 (.tmp 31) (.tmp 29) rfl g h (press h (pad l) (n + m) last) rfl rfl H0.out HH.out (by rw [press_len]; exact HH.out) (by kernel_rfl) ?_
    intro w9 h9 hO9 hz9
    have H0 := Lib.hid h9
    have HO := Lib.hid (HO.out.trans hO9)
    clear h9 hO9 hz9
    simp only [Act.put, List.getElem_toArray, List.getElem_cons_succ, List.getElem_cons_zero, List.setIfInBounds_toArray, List.set_cons_zero, List.set_cons_succ]
    refine hK _ _ ?_
    clear hK K
    refine wpAny_done (by kernel_rfl) ?_ _
    go_wp2_with fail
    go_end0
    exact ⟨rfl, H0.out, HO.out⟩
end Go.Proofs.YtomnjhhpeglcnaaGreat

namespace Go.Proofs.YtomnjhhpeglcnaaGreat
open Go.RowKit
set_option maxRecDepth 100000
set_option linter.unusedSimpArgs false
set_option linter.unusedVariables false

/-- A hash lies here: it began at h0, and d has been put into it. -/
def IsHash (w : World) (b : Nat) (h0 : List Wo) (d : List By) (wide len : Nat) : Prop :=
  h0.length = 8 ∧ 1 ≤ wide ∧ wide ≤ 32 ∧ d.length ≤ 100000000000 ∧ ∃ a c, Blk w b 167 (scells (pressN h0 0 d (full d)) (64 * full d) [.slice a (leftOf d).length c, .int .i64 (wide : Int), .int .i64 (len : Int)]) ∧
    Bys w a (leftOf d).length (leftOf d) ∧ ∀ x off, a = some ⟨x, off, none⟩ → 0 < (leftOf d).length → x ≠ b
theorem IsHash.lt {w : World} {b : Nat} {h0 : List Wo} {d : List By} {wide len : Nat} (h : IsHash w b h0 d wide len) : b < w.heap.size := by
  obtain ⟨_, _, _, _, a, c, hb, _⟩ := h
  exact hb.lt
theorem Bys.grown {w w' : World} {a : Option Addr} {n : Nat} {row : Option Nat} {l : List By} (h : Bys w a n l) (hO : w.grownBy w' row) (hg : ∀ x off, a = some ⟨x, off, none⟩ → 0 < n → some x ≠ row) : Bys w' a n l := by
  refine ⟨h.1, fun i c hi => ?_⟩
  obtain ⟨x, off, e, hx, hc⟩ := h.2 i c hi
  have hn : 0 < n := by have := (List.getElem?_eq_some_iff.1 hi).1; have := h.1; omega
  exact ⟨x, off, e, Nat.lt_of_lt_of_le hx hO.size, (World.cell?_of_block (a := ⟨x, off + i, none⟩) (hO.block x hx (hg x off e hn))).trans hc⟩
theorem IsHash.below {w w' : World} {b : Nat} {h0 : List Wo} {d : List By} {wide len : Nat} (h : IsHash w b h0 d wide len) (hb : Below w.heap.size w w') : IsHash w' b h0 d wide len := by
  obtain ⟨h1, h2, h3, h4, a, c, h5, h6, h7⟩ := h
  exact ⟨h1, h2, h3, h4, a, c, h5.below hb h5.lt, h6.below hb, h7⟩
section
variable {w : World} {b : Nat} {t : TypeId} {h : List Wo} {n : Nat} {v0 v1 v2 : Value}
theorem cell9 (hb : Blk w b t (scells h n [v0, v1, v2])) (hh : h.length = 8) : w.cell? ⟨b, 9, none⟩ = some v0 := hb.cell (by have := scells_rest (h := h) (n := n) (rest := [v0, v1, v2]) hh 0; simpa using this)
theorem cell10 (hb : Blk w b t (scells h n [v0, v1, v2])) (hh : h.length = 8) : w.cell? ⟨b, 10, none⟩ = some v1 := hb.cell (by have := scells_rest (h := h) (n := n) (rest := [v0, v1, v2]) hh 1; simpa using this)
theorem cell11 (hb : Blk w b t (scells h n [v0, v1, v2])) (hh : h.length = 8) : w.cell? ⟨b, 11, none⟩ = some v2 := hb.cell (by have := scells_rest (h := h) (n := n) (rest := [v0, v1, v2]) hh 2; simpa using this)
theorem set9 (hb : Blk w b t (scells h n [v0, v1, v2])) (hh : h.length = 8) (v : Value) : Blk (w.setCell ⟨b, 9, none⟩ v) b t (scells h n [v, v1, v2]) := by
  have := hb.set 9 v
  rwa [show (9 : Nat) = 9 + 0 from rfl, scells_rest_set hh] at this
theorem set11 (hb : Blk w b t (scells h n [v0, v1, v2])) (hh : h.length = 8) (v : Value) : Blk (w.setCell ⟨b, 11, none⟩ v) b t (scells h n [v0, v1, v]) := by
  have := hb.set 11 v
  rwa [show (11 : Nat) = 9 + 2 from rfl, scells_rest_set hh] at this
end
/-- No hash: nil, or one that nobody made. -/
def NoHash (w : World) (p : Option Addr) : Prop := p = none ∨ ∃ b, p = some ⟨b, 0, none⟩ ∧ w.cell? ⟨b, 10, none⟩ = some (.int .i64 0)
theorem none_yes (p : Option Addr) (w : World) (h : NoHash w p) : Calls Tryz.prog 100 #[.pointer p] w fun e w' => e = .returned (.bool true) ∧ w = w' := by
  rcases h with rfl | ⟨b, rfl, h10⟩
  · go_enter Tryz.func100, Tryz.ntmps100
    go_wp2
    go_ret
    exact ⟨rfl, rfl⟩
  · go_enter Tryz.func100, Tryz.ntmps100
    go_wp2
    go_ret
    exact ⟨rfl, rfl⟩
theorem none_no (b : Nat) (h0 : List Wo) (d : List By) (wide len : Nat) (w : World) (h : IsHash w b h0 d wide len) : Calls Tryz.prog 100 #[.pointer (some ⟨b, 0, none⟩)] w fun e w' => e = .returned (.bool false) ∧ w = w' := by
  obtain ⟨h1, h2, h3, h4, a, c, h5, h6, h7⟩ := h
  have hc := cell10 h5 (by rw [pressN_len]; exact h1)
  have hw : ((wide : Int) == 0) = false := by simp; omega
  clear h1 h4 h5 h6 h7
  go_enter Tryz.func100, Tryz.ntmps100
  go_wp2
  go_ret
  exact ⟨rfl, rfl⟩
def rightB (size : Int) (klen : Nat) : Bool := decide (1 ≤ size ∧ size ≤ 32 ∧ klen ≤ 32)
end Go.Proofs.YtomnjhhpeglcnaaGreat

namespace Go.Proofs.YtomnjhhpeglcnaaGreat
open Go.RowKit
set_option maxRecDepth 100000
set_option linter.unusedSimpArgs false
set_option linter.unusedVariables false

set_option maxHeartbeats 1000000 in
theorem new_bad (size : Int) (a : Option Addr) (n c : Nat) (w : World) (h : rightB size n = false) :
    Calls Tryz.prog 90 #[.int .i64 size, .slice a n c] w fun e w' => e = .returned (.tuple #[.pointer none, .int .i64 2]) ∧ w = w' := by
  unfold rightB at h
  have h' : ¬ (1 ≤ size ∧ size ≤ 32 ∧ n ≤ 32) := by simpa using h
  clear h
  by_cases p1 : size < 1
  · go_enter Tryz.func90, Tryz.ntmps90
    go_wp2
    go_ret2
    exact ⟨rfl, rfl⟩
  · by_cases p2 : size > 32
    · go_enter Tryz.func90, Tryz.ntmps90
      go_wp2
      go_ret2
      exact ⟨rfl, rfl⟩
    · have p3 : (n : Int) > 32 := by omega
      clear h'
      go_enter Tryz.func90, Tryz.ntmps90
      go_wp2
      go_ret2
      exact ⟨rfl, rfl⟩
theorem or_new : ∀ k, k < 33 → ∀ s, s < 33 → bits .or .i64 (bits .or .i64 16842752 ((k * 256 : Nat) : Int)) ((s : Nat) : Int) = ((16842752 + 256 * k + s : Nat) : Int) := by decide +kernel

set_option maxRecDepth 100000 in
set_option maxHeartbeats 4000000 in
theorem new_c (wide : Nat) (a : Option Addr) (n c : Nat) (key : List By) (w : World) (hk : Bys w a n key) (h1 : 1 ≤ wide) (h2 : wide ≤ 32) (h3 : n ≤ 32) :
    Calls Tryz.prog 90 #[.int .i64 (wide : Int), .slice a n c] w fun e w' => ∃ b, e = .returned (.tuple #[.pointer (some ⟨b, 0, none⟩), .int .i64 0]) ∧ IsHash w' b (start wide n) (keyB key) wide 0 ∧ w.heap.size ≤ b ∧ Below w.heap.size w w' := by
  have HK := Lib.hid hk; clear hk
  go_enter Tryz.func90, Tryz.ntmps90
  go_wp2_with fail
  refine (first_c _).mono ?_
  rintro e w1 ⟨rfl, hb1⟩
  have HB1 := Lib.hid hb1
  have HK1 := Lib.hid (HK.out.below hb1)
  clear hb1
  go_wp2_with fail
  generalize hE : (Array.setIfInBounds _ 10 _) = E
  have hE2 : E = scells iv 0 [.slice none 0 0, .int .i64 (wide : Int), .int .i64 0] := by rw [← hE]; kernel_rfl
  clear hE
  subst hE2
  have hblk := Blk.new w1 167 (scells iv 0 [.slice none 0 0, .int .i64 (wide : Int), .int .i64 0])
  have HB2 := Lib.hid (HB1.out.alloc HB1.out.size (.cells (scells iv 0 [.slice none 0 0, .int .i64 (wide : Int), .int .i64 0]) 167))
  have HK2 := Lib.hid (HK1.out.below ((Below.refl w1.heap.size w1).alloc (Nat.le_refl _) (.cells (scells iv 0 [.slice none 0 0, .int .i64 (wide : Int), .int .i64 0]) 167)))
  have HKn : Hid (∀ x off, a = some ⟨x, off, none⟩ → 0 < n → x < w1.heap.size) := Lib.hid (fun x off e h0 => by
    obtain ⟨x', off', e', hx, _⟩ := HK1.out.cells h0
    rw [e] at e'; injection e' with e'; injection e' with e1 e2; omega)
  have hbs : w.heap.size ≤ w1.heap.size := HB1.out.size
  generalize w1.heap.size = b at hblk HKn hbs ⊢
  generalize (World.alloc _ _) = w2 at hblk HB2 HK2 ⊢
  obtain ⟨x0, hx0⟩ : ∃ x, x = iv.getD 0 0#32 := ⟨_, rfl⟩
  have c0 := hblk.cell (scells_word (h := iv) rfl (k := 0) (by decide))
  rw [← hx0] at c0
  have f0 := hblk.frozen 0
  have hor := or_new n (by omega) wide (by omega)
  have hxo := bxq x0 (BitVec.ofNat 32 (16842752 + 256 * n + wide))
  rw [BitVec.toNat_ofNat, Nat.mod_eq_of_lt (by omega)] at hxo
  obtain ⟨y, hy⟩ : ∃ y, y = x0 ^^^ BitVec.ofNat 32 (16842752 + 256 * n + wide) := ⟨_, rfl⟩
  rw [← hy] at hxo
  have HY : Hid (iv.set 0 y = start wide n) := Lib.hid (by rw [hy, hx0]; rfl)
  obtain ⟨z, hz⟩ : ∃ z, z = 16842752 + 256 * n + wide := ⟨_, rfl⟩
  have hz2 : z < 4294967296 := by omega
  rw [← hz] at hor hxo
  have hz3 : IntKind.u32.wrap (z : Int) = (z : Int) := IntWalk.u32_in _ (by omega)
  have hn8 : IntKind.i64.wrap ((n : Int) * 256) = (n : Int) * 256 := IntWalk.i64_in _ (by omega)
  rw [show ((n * 256 : Nat) : Int) = (n : Int) * 256 by omega] at hor
  have HX0 := Lib.hid hx0
  clear hy hx0 hz
  have HBk := Lib.hid hblk
  clear hblk
  go_still_tail 17, (by kernel_rfl)
  change wpList _ _ _ _ _ w2.drew
  clear hn8 hor hxo hz3
  have HB2 := Lib.hid HB2.out.drew
  have HBk := Lib.hid HBk.out.drew
  have HK2 := Lib.hid (HK2.out.below (Below.refl w2.heap.size w2).drew)
  have HB3 := Lib.hid (HB2.out.setCell (p := ⟨b, 0, none⟩) hbs (.int .u32 (y.toNat : Int)))
  have hk3 := HBk.out.set 0 (.int .u32 (y.toNat : Int))
  rw [scells_setw rfl 0 (by decide), HY.out] at hk3
  have HBk3 := Lib.hid hk3
  have HK3 := Lib.hid (HK2.out.only ((Only.refl b w2.drew).setCell (p := ⟨b, 0, none⟩) (.inl rfl) (.int .u32 (y.toNat : Int))) (fun x off e h0 => by have := HKn.out x off e h0; omega))
  have c0 := HBk.out.cell (scells_word (h := iv) rfl (k := 0) (by decide))
  have f0 := HBk.out.frozen 0
  clear hk3
  generalize w2.drew = w3 at HB3 HBk3 HK3 c0 f0 ⊢
  by_cases hn : n = 0
  · have hq : ¬ (0 : Int) < (n : Int) := by omega
    have hke : key = [] := List.eq_nil_of_length_eq_zero (by have := HK3.out.1; omega)
    have Hke := Lib.hid hke
    have Hn := Lib.hid hn
    clear hke hn
    go_wp2_with fail
    generalize (World.setCell _ _ _) = w4 at HB3 HBk3 HK3 ⊢
    go_ret2
    refine ⟨b, rfl, ⟨start_len _ _, h1, h2, by simp [keyB, Hke.out], none, 0, ?_, ⟨rfl, fun i c hi => by simp [keyB, Hke.out, leftOf] at hi⟩, fun x off e => by cases e⟩, hbs, HB3.out⟩
    have := HBk3.out
    simpa [keyB, Hke.out, leftOf, full, pressN] using this
  · have hq : (0 : Int) < (n : Int) := by omega
    have hke : key ≠ [] := fun e => by have := HK3.out.1; rw [e] at this; exact hn this.symm
    have Hke := Lib.hid hke
    have Hn := Lib.hid hn
    clear hke hn
    have hw64 : (64 : Int) - (n : Int) = ((64 - n : Nat) : Int) := by omega
    have Hw64 := Lib.hid hw64
    clear hw64
    go_wp2_with (refine wpl_make_bys rfl _ _ rfl (64 - n) (64 - (n : Int)) (64 - (n : Int)) rfl rfl Hw64.out Hw64.out (by omega) ?_; intro w5 hO5 hb5)
    have hzz : (w3.setCell ⟨b, 0, none⟩ (.int .u32 (y.toNat : Int))).heap.size = w3.heap.size := by simp
    rw [hzz] at hO5
    generalize (World.setCell _ _ _) = w4 at HB3 HBk3 HK3 hzz hb5 ⊢
    obtain ⟨za, zc, hz1, _, hzb⟩ := hO5.bys
    rw [List.length_replicate] at hz1
    have HB5 := Lib.hid (HB3.out.trans (hb5.mono HB3.out.size))
    have HBk5 := Lib.hid (HBk3.out.below hb5 HBk3.out.lt)
    have hp := Prs.two c zc 40 (HK3.out.below hb5) hzb (by omega) (by simp; omega)
    simp only [List.length_replicate] at hp
    injection hz1 with hz1 _ hz3
    rw [← hz1, ← hz3] at hp
    have HP := Lib.hid hp
    have HB6 := Lib.hid (HB5.out.alloc HB5.out.size (.cells #[.slice a n c, .slice (some ⟨w3.heap.size, 0, none⟩) (64 - n) (64 - n)] 40))
    have HBk6 := Lib.hid (HBk5.out.alloc (.cells #[.slice a n c, .slice (some ⟨w3.heap.size, 0, none⟩) (64 - n) (64 - n)] 40))
    clear hz1 hz3 hzb hO5 hb5 hp
    refine (concat_c _ 2 2 _ _ HP.out (by decide) (by simp; have := HK3.out.1; omega)).mono ?_
    rintro e w7 ⟨v, rfl, hv, hb7⟩
    have HBk7 := Lib.hid (HBk6.out.below hb7 HBk6.out.lt)
    have HB7 := Lib.hid (HB6.out.trans (hb7.mono HB6.out.size))
    have hbl : b < w5.heap.size + 1 := by have := HBk5.out.lt; omega
    have hV : OwnB w7 (w5.heap.size + 1) v (pad key) := by
      have hkl := HK3.out.1
      have e : [key, List.replicate (64 - n) 0#8].flatten = pad key := by simp [pad, hkl]
      rw [e] at hv
      simpa using hv
    have HV := Lib.hid hV
    clear hV hv hb7
    have c9 := cell9 HBk7.out (start_len _ _)
    have f9 := HBk7.out.frozen 9
    obtain ⟨va, vc, rfl, _, hvb⟩ := HV.out.bys
    have HVB := Lib.hid hvb
    clear hvb
    rw [show (pad key).length = 64 from pad_len key (by have := HK3.out.1; omega)]
    go_wp2_with fail
    go_ret2
    have hke2 : keyB key = pad key := by rw [keyB, if_neg Hke.out]
    have hkl : (pad key).length = 64 := pad_len key (by have := HK3.out.1; omega)
    have hfull : full (pad key) = 0 := by simp [full, hkl]
    have hleft : leftOf (pad key) = pad key := by simp [leftOf, hfull]
    refine ⟨b, rfl, ⟨start_len _ _, h1, h2, by rw [hke2, hkl]; decide, va, vc, ?_, ?_, ?_⟩, hbs, HB7.out.setCell hbs _⟩
    · have := set9 HBk7.out (start_len _ _) (.slice va 64 vc)
      rw [hke2, hleft, hfull, pressN, hkl]
      exact this
    · rw [hke2, hleft]
      exact HVB.out.only ((Only.refl b w7).setCell (p := ⟨b, 9, none⟩) (.inl rfl) _) (fun x off e h0 => by
        subst e
        have := (World.ownsRow.lt HV.out x rfl).1
        omega)
    · intro x off e h0
      subst e
      have := (World.ownsRow.lt HV.out x rfl).1
      omega
end Go.Proofs.YtomnjhhpeglcnaaGreat
