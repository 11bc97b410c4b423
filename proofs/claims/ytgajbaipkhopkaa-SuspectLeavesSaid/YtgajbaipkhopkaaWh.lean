/- Contracts: the foremost, and the list of those that are suspected. -/
import Derived.Test.YtgajbaipkhopkaaWg
namespace Go.Proofs.Ytgajbaipkhopkaa
open Go.RowKit Go.Shelf
attribute [local go_sem] Oper.semAt_some

/-- Suspects of this pointer goes over those of xs that are suspected, in every later world. -/
def Goes (w : World) (v : Option Addr) (xs : List Wd) : Prop :=
  ∀ w1, Below w.heap.size w w1 → Calls Try.prog 13 #[.pointer v] w1 fun e w' => ∃ Bs g, e = .returned (.func (.func 34) #[] #[.pointer (some ⟨Bs, 0, none⟩)]) ∧ SusIt w' Bs g xs ∧ w1.heap.size ≤ Bs ∧ w1.heap.size ≤ g ∧ Below w1.heap.size w1 w'
theorem goes_any {b : Nat} {s : St} {w : World} (hW : IsW w b s) (hs : Sane s) : Goes w (some ⟨b, 0, none⟩) s.list := fun w1 hb => suspects_any b s w1 (hW.below hb hW.lt) hs
theorem NoW.below {w w' : World} {v : Option Addr} (h : NoW w v) (hb : Below w.heap.size w w') : NoW w' v := by
  rcases h with h | ⟨b, rfl, h⟩
  · exact .inl h
  · exact .inr ⟨b, rfl, (hb.cell (p := ⟨b, 1, none⟩) (cell_lt h)).trans h⟩
theorem goes_none {v : Option Addr} {w : World} (h : NoW w v) : Goes w v [] := fun w1 hb => suspects_none v w1 (h.below hb)

/-- The least number that does not come, where they come rising. -/
def fmo (l : List Nat) : Nat := l.foldl (fun a p => if p = a then a + 1 else a) 0
theorem fmo_snoc (l : List Nat) (p : Nat) : fmo (l ++ [p]) = if p = fmo l then fmo l + 1 else fmo l := by rw [fmo, List.foldl_append]; rfl
theorem fmo_le (l : List Nat) : fmo l ≤ l.length := by
  have h : ∀ (l : List Nat) (a : Nat), l.foldl (fun a p => if p = a then a + 1 else a) a ≤ a + l.length := by
    intro l
    induction l with
    | nil => intro a; simp
    | cons x l ih =>
      intro a
      simp only [List.foldl_cons, List.length_cons]
      split
      · have := ih (a + 1); omega
      · have := ih a; omega
  have := h l 0
  unfold fmo; omega

set_option maxRecDepth 100000 in
set_option maxHeartbeats 2000000 in
theorem foremost_in (v : Option Addr) (xs : List Wd) (w : World) (hG : Goes w v xs) :
    CallsIn Fence.wide 5 Try.prog 19 #[.pointer v] w fun e W' => e = .returned (.int .i64 (fmo (sus xs xs.length) : Nat)) ∧ Below w.heap.size w W' := by
  refine callsIn_of_wp_marks Try.func19 rfl trivial ?_ rfl
  simp only [Try.ntmps19, List.size_toArray, List.length_cons, List.length_nil, Nat.reduceAdd, Nat.reduceSub, Array.replicate_succ, Array.replicate_zero, List.push_toArray, List.append_toArray, List.nil_append, List.cons_append]
  gi_wp2_with fail
  refine ⟨trivial, ?_⟩
  refine (callsIn_wide.2 (hG _ ((Below.refl w.heap.size w).alloc (Nat.le_refl _) (.cells #[.int .i64 0] 3)))).mono ?_
  rintro e w3 ⟨Bs, g, rfl, hIt, hBs, hgs, hb3⟩
  have hgb : g ≠ w.heap.size := by simp at hgs; omega
  have bO : Boxed w3 w.heap.size 3 (.int .i64 0) := (hb3.block w.heap.size (by simp)).trans (Boxed.new w 3 (.int .i64 0))
  have hB0 : Below w.heap.size w w3 := ((Below.refl w.heap.size w).alloc (Nat.le_refl _) (.cells #[.int .i64 0] 3)).trans (hb3.mono (by simp))
  have hx9 := hIt.2.2.1
  have hg3 := hIt.2.1
  gi_wp2_with fail
  refine wpIn_rangeFunc_ownG rfl (by omega) (gf := 34) (lb := #[.pointer (some ⟨Bs, 0, none⟩)]) rfl trivial (enters_of Try.func34 (by kernel_rfl) rfl)
    (sus_stops 4 Bs g xs w3 hIt) Hold.trans (hold_b hg3) (Below.refl _ _) (fun _ => rfl)
    (fun pre W => Boxed W w.heap.size 3 (.int .i64 (fmo pre : Nat)) ∧ Below w.heap.size w W)
    (fun _ _ _ => False)
    (OwnFrom.and (Own.from (boxed_own w.heap.size 3 (fun pre => .int .i64 (fmo pre : Nat))) _) (ownFrom_below (Nat.le_refl _) hB0.size))
    (fun _ _ _ _ _ hs _ _ => hs)
    ⟨bO, hB0⟩
    (fun x => { tmps := #[.pointer v, undef, .int .i64 0, .pointer (some ⟨w.heap.size, 0, none⟩), .int .i64 x, .pointer v, .func (.func 34) #[] #[.pointer (some ⟨Bs, 0, none⟩)], .int .i64 x, undef, undef, undef, undef, undef, undef], defers := [] }) ?assign ?body ?done ?stop
  case assign =>
    intro l x W K hK
    gi_wp2
    exact hK
  case body =>
    rintro l pre x W ⟨hv, hB⟩ hlt
    have hc := hv.cell
    have hf := hv.frozen
    have hfl := fmo_le pre
    by_cases hq : x = fmo pre
    · have hq1 : ((x : Int) == ((fmo pre : Nat) : Int)) = true := by simp [hq]
      have hq2 := Lib.hid hq; clear hq
      have hv2 := Lib.hid (Boxed.set (.int .i64 ((fmo pre : Nat) + 1)) hv)
      gi_wp2
      refine ⟨(KeepsOthers.setCell _ _ _).from _, Hold.set _ hgb _, ?_, hB.setCell (Nat.le_refl _) _⟩
      rw [fmo_snoc, if_pos hq2.out]
      exact hv2.out
    · have hq1 : ((x : Int) == ((fmo pre : Nat) : Int)) = false := by simp; omega
      have hq2 := Lib.hid hq; clear hq
      gi_wp2
      refine ⟨KeepsFrom.refl _ _, Hold.refl _ _, ?_, hB⟩
      rw [fmo_snoc, if_neg hq2.out]
      exact hv
  case done =>
    rintro D ys W hD rfl ⟨hv, hB⟩ hK
    have hc := hv.cell
    gi_wp2
    refine ⟨by simp, .inl ⟨_, _, rfl, run_takeDeferred hK, ?_⟩⟩
    exact ⟨_, results_tmp rfl _ _ _, rfl, hB.trans (belowK_b (w := w) (Nat.le_refl _) W D _ _ (by have := hB0.size; omega) hK rfl rfl)⟩
  case stop =>
    rintro D c pre W _ _ h _
    exact h.elim

theorem foremost_any (v : Option Addr) (xs : List Wd) (w : World) (hG : Goes w v xs) :
    Calls Try.prog 19 #[.pointer v] w fun e W' => e = .returned (.int .i64 (fmo (sus xs xs.length) : Nat)) ∧ Below w.heap.size w W' :=
  callsIn_wide.1 (foremost_in v xs w hG)

theorem row_low {w : World} {base base' : Nat} {e : TypeId} {size : Nat} {v : Value} {n : Nat} {xs : List Value} (h : w.ownsRow base e size v n xs) (hb : base' ≤ base) : w.ownsRow base' e size v n xs := by
  obtain ⟨h1, h2⟩ := h
  refine ⟨h1, ?_⟩
  rcases h2 with h2 | ⟨g, cap, cur, hv, hg, r⟩
  · exact .inl h2
  · exact .inr ⟨g, cap, cur, hv, Nat.le_trans hb hg, r⟩
theorem und43 : Try.prog.underlying 43 = some (.func #[52] #[] false) := by kernel_rfl
theorem run_eql_func_nil (W : World) (f : FuncId) (cs : Array Value) : (binOp .eql 43 (.func (.func f) #[] cs) .nilFunc).run Try.prog W = .ok (.bool false) W := by
  have h : ∀ d : Nat, (Op.equalIn (d + 1) 43 (.func (.func f) #[] cs) .nilFunc).run Try.prog W = .ok false W := fun d => by
    simp [Op.equalIn, run_underlying und43]
  simp only [binOp]
  simp [Op.equal, Op.maxDepth, h 9999]

set_option maxRecDepth 100000 in
set_option maxHeartbeats 2000000 in
theorem all_in (v : Option Addr) (xs : List Wd) (w : World) (hG : Goes w v xs) :
    CallsIn Fence.wide 5 Try.prog 18 #[.pointer v] w fun e W' => ∃ r, e = .returned r ∧ Ints W' w.heap.size r ((sus xs xs.length).map Int.ofNat) ∧ Below w.heap.size w W' := by
  obtain ⟨i0, hi, hz0, hz1, hz2⟩ := info_parts info3
  refine callsIn_of_wp_marks Try.func18 rfl trivial ?_ rfl
  simp only [Try.ntmps18, List.size_toArray, List.length_cons, List.length_nil, Nat.reduceAdd, Nat.reduceSub, Array.replicate_succ, Array.replicate_zero, List.push_toArray, List.append_toArray, List.nil_append, List.cons_append]
  gi_wp2_with fail
  refine ⟨trivial, ?_⟩
  refine (callsIn_wide.2 (hG _ ((Below.refl w.heap.size w).alloc (Nat.le_refl _) (.cells #[.slice none 0 0] 40)))).mono ?_
  rintro e w2 ⟨Bs, g, rfl, _, _, _, hb2⟩
  have bO2 : Boxed w2 w.heap.size 40 (.slice none 0 0) := (hb2.block w.heap.size (by simp)).trans (Boxed.new w 40 (.slice none 0 0))
  have hB2 : Below w.heap.size w w2 := ((Below.refl w.heap.size w).alloc (Nat.le_refl _) (.cells #[.slice none 0 0] 40)).trans (hb2.mono (by simp))
  have hz2' : w.heap.size + 1 ≤ w2.heap.size := by have := hb2.size; simpa using this
  have hnf := fun W => run_eql_func_nil W 34 #[.pointer (some ⟨Bs, 0, none⟩)]
  clear hb2
  gi_wp2_with fail
  refine ⟨trivial, ?_⟩
  refine (callsIn_wide.2 (hG _ hB2)).mono ?_
  clear hnf
  rintro e w3 ⟨Bt, h, rfl, hIt, hBs, hgs, hb3⟩
  have hgb : h ≠ w.heap.size := by omega
  have bO : Boxed w3 w.heap.size 40 (.slice none 0 0) := (hb3.block w.heap.size (by omega)).trans bO2
  have hB0 : Below w.heap.size w w3 := hB2.trans (hb3.mono (by omega))
  have hx9 := hIt.2.2.1
  have hg3 := hIt.2.1
  gi_wp2_with fail
  refine wpIn_rangeFunc_ownG rfl (by omega) (gf := 34) (lb := #[.pointer (some ⟨Bt, 0, none⟩)]) rfl trivial (enters_of Try.func34 (by kernel_rfl) rfl)
    (sus_stops 4 Bt h xs w3 hIt) Hold.trans (hold_b hg3) (Below.refl _ _) (fun _ => rfl)
    (fun pre W => (∃ r, Boxed W w.heap.size 40 r ∧ W.ownsRow w3.heap.size 3 1 r pre.length ((pre.map Int.ofNat).map (Value.int .i64)) ∧ True) ∧ Below w.heap.size w W ∧ w3.heap.size ≤ W.heap.size)
    (fun _ _ _ => False)
    (OwnFrom.and (Own.from (holdsRow_own w3.heap.size w.heap.size 40 3 1 (fun pre : List Nat => pre.length) (fun pre => (pre.map Int.ofNat).map (Value.int .i64)) (fun _ _ => True)) _) (OwnFrom.and (ownFrom_below (Nat.le_refl _) hB0.size) (fun _ _ _ _ hs hg _ => Nat.le_trans hs hg.size)))
    (fun _ _ _ _ _ hs _ _ => hs)
    ⟨⟨_, bO, World.ownsRow_nil _ _ _ _, trivial⟩, hB0, Nat.le_refl _⟩
    (fun x => { tmps := #[.pointer v, undef, .slice none 0 0, .pointer (some ⟨w.heap.size, 0, none⟩), .int .i64 x, .pointer v, .func (.func 34) #[] #[.pointer (some ⟨Bs, 0, none⟩)], .bool false, .pointer v, .func (.func 34) #[] #[.pointer (some ⟨Bt, 0, none⟩)], .int .i64 x, undef, undef, undef, undef, undef], defers := [] }) ?assign ?body ?done ?stop
  case assign =>
    intro l x W K hK
    gi_wp2
    exact hK
  case body =>
    rintro l pre x W ⟨⟨r, hv, hrow, _⟩, hB, hWz⟩ hlt
    have hc := hv.cell
    have hz3 : w3.heap.size ≤ W.heap.size := hWz
    gi_wp2_with (gi_at_builtin; refine wpListIn_append_own _ rfl _ _ 40 rfl w3.heap.size 3 i0 (.int .i64 0) 1 8 Try.underlying40 hi hz0 hz1 hz2 rfl (by decide) _ _ _ rfl (hrow.alloc _) ⟨W.heap.size, 0, none⟩ 1 1 [.int .i64 x] rfl rfl (cell_one_new _ _ _) (by simp [Value.oneCell']) (by unfold maxLen; omega) (by omega) (by simp; omega) ?_; intro v' w1 hown' hgrow _; obtain ⟨g', cap', rfl⟩ := ownsRow_succ hown'; obtain ⟨hv1, hv2, hr2, hk2, hb2⟩ := hv.appended (by decide) (row_low hrow hB0.size) hB.size (Nat.le_refl _) (row_low hown' hB0.size) hgrow; have hc1 := hv1.cell; have hf1 := hv1.frozen)
    have hH : Hold h W w1 := by
      refine (Hold.refl h W).alloc (by omega) (.cells #[.int .i64 x] 3) |>.trans (hgrow.block h (by simp; omega) (fun e => ?_))
      have := (World.ownsRow.lt hrow h e.symm).1
      omega
    have hrow3 := hown'.kept (grownBy_setCell' w1 w.heap.size (.slice (some ⟨g', 0, none⟩) (pre.length + 1) cap')) (.inr (fun e => by
      have := (World.ownsRow.lt hown' w.heap.size e).1; omega))
    exact ⟨hk2.from _, hH.trans (Hold.set _ hgb _), ⟨⟨_, hv2, by simpa using hrow3, trivial⟩, hB.trans hb2, Nat.le_trans hz3 (by have := hb2.size; exact this)⟩⟩
  case done =>
    rintro D ys W hD rfl ⟨⟨r, hv, hrow, _⟩, hB, _⟩ hK
    have hc := hv.cell
    gi_wp2
    refine ⟨by simp, .inl ⟨_, _, rfl, run_takeDeferred hK, ?_⟩⟩
    refine ⟨_, results_tmp rfl _ _ _, r, rfl, ?_, hB.trans (belowK_b (w := w) (Nat.le_refl _) W D _ _ (by have := hB0.size; omega) hK rfl rfl)⟩
    have := ownsRow_putObj hrow (.deferred none) hK rfl
    refine Ints.low (base := w3.heap.size) ?_ hB0.size
    unfold Ints
    rw [List.length_map]
    exact this
  case stop =>
    rintro D c pre W _ _ h _
    exact h.elim
end Go.Proofs.Ytgajbaipkhopkaa
