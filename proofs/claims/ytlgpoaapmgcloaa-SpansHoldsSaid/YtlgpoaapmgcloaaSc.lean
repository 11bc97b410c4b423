/- Contracts: spans that are the same. -/
import Derived.Test.YtlgpoaapmgcloaaSb
import Derived.Deep.RegionHeld3
import Derived.Deep.MidRow
namespace Go.Proofs.Ytlgpoaapmgcloaa
open Go.RowKit
set_option linter.unusedSimpArgs false
set_option linter.unusedVariables false
set_option maxRecDepth 100000

theorem take_eq_succ {l l' : List Sp} {i : Nat} {x y : Sp} (h : l[i]? = some x) (h' : l'[i]? = some y) (he : l.take i = l'.take i) (hxy : x = y) : l.take (i + 1) = l'.take (i + 1) := by
  rw [List.take_add_one, List.take_add_one, h, h', he, hxy]
theorem run_neq33 (x y : Sp) (W : World) : (binOp .neq 33 x.val y.val).run Try.prog W = .ok (.bool (!decide (x = y))) W := by
  have h33 := Try.underlying33
  have h3 := Try.underlying3
  obtain ⟨xf, xt⟩ := x
  obtain ⟨yf, yt⟩ := y
  unfold Sp.val
  go_simp
  by_cases h1 : xf = yf
  · by_cases h2 : xt = yt
    · subst h1; subst h2; simp
    · simp [h1, h2, Sp.mk.injEq]
  · simp [h1, Sp.mk.injEq]
theorem neq_op {t : TypeId} {x y : Operand} {a : Act} {xs ys : Array Value} {u : Bool} {dst : Option Tmp} {ty : TypeId} {pos : String} {after : Array Edge} {guard : Option (Nat × Bool)} {W : World}
    (h : (binOp .neq t (.agg xs) (.agg ys)).run Try.prog W = .ok (.bool u) W) (hx : a.eval x = .agg xs) (hy : a.eval y = .agg ys) (hm : Try.prog.eqGuardType Try.prog.depth t = false) :
    (execOp a.eval { dst, op := .binOp .neq t x y t, type := ty, pos, after, guard }).run Try.prog W = .ok (.value (.bool u)) W := by
  unfold execOp
  simp only [hx, hy]
  simp only [Sem.run_bind, run_eqGuard_agg _ _ _ _ _ _ _ hm, Result.andThen_ok, h, Sem.run_pure]
theorem Sps.range {w : World} {g off n : Nat} {l : List Sp} (h : Sps w (some ⟨g, off, none⟩) n l) {i : Nat} {x : Sp} (hx : l[i]? = some x) : w.rangeAt g (off + i * 2) [.int .i64 x.f, .int .i64 x.t] := fun j v hv => by
  obtain ⟨g', off', e, _, c0, c1⟩ := h.2 i x hx
  injection e with e; injection e with e1 e2
  subst e1; subst e2
  match j with
  | 0 => simp at hv; subst hv; exact c0
  | 1 => simp at hv; subst hv; exact c1
  | j + 2 => simp at hv
set_option maxHeartbeats 4000000 in
theorem equal_c (a : Option Addr) (n c : Nat) (a' : Option Addr) (n' c' : Nat) (l l' : List Sp) (w : World) (h : Sps w a n l) (h' : Sps w a' n' l') (hn : n ≤ 1000000) (hn' : n' ≤ 1000000) :
    Calls Try.prog 34 #[.slice a n c, .slice a' n' c'] w fun e w' => e = .returned (.bool (decide (l = l'))) ∧ Below w.heap.size w w' := by
  have H := Lib.hid h; have H' := Lib.hid h'
  have hl := h.1; have hl' := h'.1
  clear h h'
  by_cases hnn : n = n'
  rotate_left
  · have hne : decide (l = l') = false := decide_eq_false (fun e => hnn (by rw [← hl, ← hl', e]))
    rw [hne]
    have q : ¬ ((n : Int) = (n' : Int)) := by omega
    go_enter Try.func34, Try.ntmps34
    go_wp2_with fail
    go_ret
    exact ⟨rfl, Below.refl _ _⟩
  subst hnn
  go_enter Try.func34, Try.ntmps34
  go_wp2_with fail
  go_loopw [13] (fun iv wr => ∃ i : Nat, i ≤ n ∧ iv = .int .i64 (i : Int) ∧ l.take i = l'.take i ∧ Below w.heap.size w wr) (fun iv _ => n - (intOf iv).toNat)
  case atStart => exact ⟨0, Nat.zero_le _, rfl, rfl, Below.refl _ _⟩
  case round =>
  obtain ⟨i, hi, rfl, heq, hb⟩ := hrel
  have HEQ := Lib.hid heq
  have HB := Lib.hid hb
  by_cases hlt : i < n
  · obtain ⟨x, hx⟩ : ∃ x, l[i]? = some x := ⟨l[i]'(by omega), List.getElem?_eq_getElem _⟩
    obtain ⟨y, hy⟩ : ∃ y, l'[i]? = some y := ⟨l'[i]'(by omega), List.getElem?_eq_getElem _⟩
    have HX := Lib.hid hx; have HY := Lib.hid hy
    obtain ⟨g, off, rfl, hg, _⟩ := (H.out.below hb).2 i x hx
    obtain ⟨g', off', rfl, hg', _⟩ := (H'.out.below hb).2 i y hy
    have HR := Lib.hid (And.intro ((H.out.below hb).below (Below.refl _ _).drew) ((H'.out.below hb).below (Below.refl _ _).drew))
    have hw2 : IntKind.i64.wrap (i : Int) = (i : Int) := IntWalk.i64_in _ (by omega)
    have hj2 : ¬ ((n : Int) ≤ (i : Int)) := by omega
    have hj3 : (i : Int) < (n : Int) := by omega
    clear hx hy heq hb
    by_cases hxy : x = y
    · have HU : Hid ((!decide (x = y)) = false) := Lib.hid (by rw [decide_eq_true hxy]; rfl)
      have HXY := Lib.hid hxy
      clear hxy
      go_wp2_with fail
      have hS0 : (fun W => (Sps W (some ⟨g, off, none⟩) n l ∧ Sps W (some ⟨g', off', none⟩) n l') ∧ Below w.heap.size w W) (World.drew wr) := ⟨HR.out, HB.out.drew⟩
      refine wp_region_held_drew (S := (fun W => (Sps W (some ⟨g, off, none⟩) n l ∧ Sps W (some ⟨g', off', none⟩) n l') ∧ Below w.heap.size w W)) (by kernel_rfl) hS0 ?_
      intro hS0'
      refine wpAnyH_take (i := 0) (v := .slice (some ⟨g, off, none⟩) n c) rfl (by kernel_rfl) (by kernel_rfl) (by kernel_rfl) (fun _ _ _ h => h) (Or.inl ⟨by kernel_rfl, fun w0 hSw => ?_⟩) hS0' ?_
      · go_simp
      try simp only [Act.put, List.getElem_toArray, List.getElem_cons_succ, List.getElem_cons_zero, List.setIfInBounds_toArray, List.set_cons_zero, List.set_cons_succ]
      refine wpAnyH_take (i := 1) (v := .int .i64 (i : Int)) rfl (by kernel_rfl) (by kernel_rfl) (by kernel_rfl) (fun _ _ _ h => h) (Or.inl ⟨by kernel_rfl, fun w0 hSw => ?_⟩) hS0' ?_
      · go_simp
      try simp only [Act.put, List.getElem_toArray, List.getElem_cons_succ, List.getElem_cons_zero, List.setIfInBounds_toArray, List.set_cons_zero, List.set_cons_succ]
      refine wpAnyH_take (i := 2) (v := .pointer (some ⟨g, off + i * 2, none⟩)) rfl (by kernel_rfl) (by kernel_rfl) (by kernel_rfl) (fun _ _ _ h => h) (Or.inl ⟨by kernel_rfl, fun w0 hSw => ?_⟩) hS0' ?_
      · go_simp
      try simp only [Act.put, List.getElem_toArray, List.getElem_cons_succ, List.getElem_cons_zero, List.setIfInBounds_toArray, List.set_cons_zero, List.set_cons_succ]
      refine wpAnyH_take (i := 3) (v := .agg #[.int .i64 x.f, .int .i64 x.t]) rfl (by kernel_rfl) (by kernel_rfl) (by kernel_rfl) (fun _ _ _ h => h) ?_ hS0' ?_
      · exact yieldsIf_load_mid (by kernel_rfl) 33 _ rfl g (off + i * 2) (by kernel_rfl) [.int .i64 x.f, .int .i64 x.t] _ (fun _ h => h.1.1.range HX.out) Try.underlying33 rfl (by kernel_rfl)
      try simp only [Act.put, List.getElem_toArray, List.getElem_cons_succ, List.getElem_cons_zero, List.setIfInBounds_toArray, List.set_cons_zero, List.set_cons_succ]
      refine wpAnyH_take (i := 4) (v := .slice (some ⟨g', off', none⟩) n c') rfl (by kernel_rfl) (by kernel_rfl) (by kernel_rfl) (fun _ _ _ h => h) (Or.inl ⟨by kernel_rfl, fun w0 hSw => ?_⟩) hS0' ?_
      · go_simp
      try simp only [Act.put, List.getElem_toArray, List.getElem_cons_succ, List.getElem_cons_zero, List.setIfInBounds_toArray, List.set_cons_zero, List.set_cons_succ]
      refine wpAnyH_take (i := 5) (v := .int .i64 (i : Int)) rfl (by kernel_rfl) (by kernel_rfl) (by kernel_rfl) (fun _ _ _ h => h) (Or.inl ⟨by kernel_rfl, fun w0 hSw => ?_⟩) hS0' ?_
      · go_simp
      try simp only [Act.put, List.getElem_toArray, List.getElem_cons_succ, List.getElem_cons_zero, List.setIfInBounds_toArray, List.set_cons_zero, List.set_cons_succ]
      refine wpAnyH_take (i := 6) (v := .pointer (some ⟨g', off' + i * 2, none⟩)) rfl (by kernel_rfl) (by kernel_rfl) (by kernel_rfl) (fun _ _ _ h => h) (Or.inl ⟨by kernel_rfl, fun w0 hSw => ?_⟩) hS0' ?_
      · go_simp
      try simp only [Act.put, List.getElem_toArray, List.getElem_cons_succ, List.getElem_cons_zero, List.setIfInBounds_toArray, List.set_cons_zero, List.set_cons_succ]
      refine wpAnyH_take (i := 7) (v := .agg #[.int .i64 y.f, .int .i64 y.t]) rfl (by kernel_rfl) (by kernel_rfl) (by kernel_rfl) (fun _ _ _ h => h) ?_ hS0' ?_
      · exact yieldsIf_load_mid (by kernel_rfl) 33 _ rfl g' (off' + i * 2) (by kernel_rfl) [.int .i64 y.f, .int .i64 y.t] _ (fun _ h => h.1.2.range HY.out) Try.underlying33 rfl (by kernel_rfl)
      try simp only [Act.put, List.getElem_toArray, List.getElem_cons_succ, List.getElem_cons_zero, List.setIfInBounds_toArray, List.set_cons_zero, List.set_cons_succ]
      refine wpAnyH_take (i := 8) (v := .bool false) rfl (by kernel_rfl) (by kernel_rfl) (by kernel_rfl) (fun _ _ _ h => h) ?_ hS0' ?_
      · exact .inl ⟨by kernel_rfl, fun W _ => neq_op (by have q := run_neq33 x y W; rw [HU.out] at q; exact q) (by kernel_rfl) (by kernel_rfl) (by kernel_rfl)⟩
      try simp only [Act.put, List.getElem_toArray, List.getElem_cons_succ, List.getElem_cons_zero, List.setIfInBounds_toArray, List.set_cons_zero, List.set_cons_succ]
      refine wpAnyH_done (by kernel_rfl) ?_ _
      have HSF := Lib.hid hS0'.2
      go_wp2_with fail
      go_roundw
      case rel => exact ⟨i + 1, by omega, by go_num, take_eq_succ HX.out HY.out HEQ.out HXY.out, HSF.out⟩
      case measure => simp [intOf]; omega
    · have HU : Hid ((!decide (x = y)) = true) := Lib.hid (by rw [decide_eq_false hxy]; rfl)
      have HXY := Lib.hid hxy
      clear hxy
      go_wp2_with fail
      have hS0 : (fun W => (Sps W (some ⟨g, off, none⟩) n l ∧ Sps W (some ⟨g', off', none⟩) n l') ∧ Below w.heap.size w W) (World.drew wr) := ⟨HR.out, HB.out.drew⟩
      refine wp_region_held_drew (S := (fun W => (Sps W (some ⟨g, off, none⟩) n l ∧ Sps W (some ⟨g', off', none⟩) n l') ∧ Below w.heap.size w W)) (by kernel_rfl) hS0 ?_
      intro hS0'
      refine wpAnyH_take (i := 0) (v := .slice (some ⟨g, off, none⟩) n c) rfl (by kernel_rfl) (by kernel_rfl) (by kernel_rfl) (fun _ _ _ h => h) (Or.inl ⟨by kernel_rfl, fun w0 hSw => ?_⟩) hS0' ?_
      · go_simp
      try simp only [Act.put, List.getElem_toArray, List.getElem_cons_succ, List.getElem_cons_zero, List.setIfInBounds_toArray, List.set_cons_zero, List.set_cons_succ]
      refine wpAnyH_take (i := 1) (v := .int .i64 (i : Int)) rfl (by kernel_rfl) (by kernel_rfl) (by kernel_rfl) (fun _ _ _ h => h) (Or.inl ⟨by kernel_rfl, fun w0 hSw => ?_⟩) hS0' ?_
      · go_simp
      try simp only [Act.put, List.getElem_toArray, List.getElem_cons_succ, List.getElem_cons_zero, List.setIfInBounds_toArray, List.set_cons_zero, List.set_cons_succ]
      refine wpAnyH_take (i := 2) (v := .pointer (some ⟨g, off + i * 2, none⟩)) rfl (by kernel_rfl) (by kernel_rfl) (by kernel_rfl) (fun _ _ _ h => h) (Or.inl ⟨by kernel_rfl, fun w0 hSw => ?_⟩) hS0' ?_
      · go_simp
      try simp only [Act.put, List.getElem_toArray, List.getElem_cons_succ, List.getElem_cons_zero, List.setIfInBounds_toArray, List.set_cons_zero, List.set_cons_succ]
      refine wpAnyH_take (i := 3) (v := .agg #[.int .i64 x.f, .int .i64 x.t]) rfl (by kernel_rfl) (by kernel_rfl) (by kernel_rfl) (fun _ _ _ h => h) ?_ hS0' ?_
      · exact yieldsIf_load_mid (by kernel_rfl) 33 _ rfl g (off + i * 2) (by kernel_rfl) [.int .i64 x.f, .int .i64 x.t] _ (fun _ h => h.1.1.range HX.out) Try.underlying33 rfl (by kernel_rfl)
      try simp only [Act.put, List.getElem_toArray, List.getElem_cons_succ, List.getElem_cons_zero, List.setIfInBounds_toArray, List.set_cons_zero, List.set_cons_succ]
      refine wpAnyH_take (i := 4) (v := .slice (some ⟨g', off', none⟩) n c') rfl (by kernel_rfl) (by kernel_rfl) (by kernel_rfl) (fun _ _ _ h => h) (Or.inl ⟨by kernel_rfl, fun w0 hSw => ?_⟩) hS0' ?_
      · go_simp
      try simp only [Act.put, List.getElem_toArray, List.getElem_cons_succ, List.getElem_cons_zero, List.setIfInBounds_toArray, List.set_cons_zero, List.set_cons_succ]
      refine wpAnyH_take (i := 5) (v := .int .i64 (i : Int)) rfl (by kernel_rfl) (by kernel_rfl) (by kernel_rfl) (fun _ _ _ h => h) (Or.inl ⟨by kernel_rfl, fun w0 hSw => ?_⟩) hS0' ?_
      · go_simp
      try simp only [Act.put, List.getElem_toArray, List.getElem_cons_succ, List.getElem_cons_zero, List.setIfInBounds_toArray, List.set_cons_zero, List.set_cons_succ]
      refine wpAnyH_take (i := 6) (v := .pointer (some ⟨g', off' + i * 2, none⟩)) rfl (by kernel_rfl) (by kernel_rfl) (by kernel_rfl) (fun _ _ _ h => h) (Or.inl ⟨by kernel_rfl, fun w0 hSw => ?_⟩) hS0' ?_
      · go_simp
      try simp only [Act.put, List.getElem_toArray, List.getElem_cons_succ, List.getElem_cons_zero, List.setIfInBounds_toArray, List.set_cons_zero, List.set_cons_succ]
      refine wpAnyH_take (i := 7) (v := .agg #[.int .i64 y.f, .int .i64 y.t]) rfl (by kernel_rfl) (by kernel_rfl) (by kernel_rfl) (fun _ _ _ h => h) ?_ hS0' ?_
      · exact yieldsIf_load_mid (by kernel_rfl) 33 _ rfl g' (off' + i * 2) (by kernel_rfl) [.int .i64 y.f, .int .i64 y.t] _ (fun _ h => h.1.2.range HY.out) Try.underlying33 rfl (by kernel_rfl)
      try simp only [Act.put, List.getElem_toArray, List.getElem_cons_succ, List.getElem_cons_zero, List.setIfInBounds_toArray, List.set_cons_zero, List.set_cons_succ]
      refine wpAnyH_take (i := 8) (v := .bool true) rfl (by kernel_rfl) (by kernel_rfl) (by kernel_rfl) (fun _ _ _ h => h) ?_ hS0' ?_
      · exact .inl ⟨by kernel_rfl, fun W _ => neq_op (by have q := run_neq33 x y W; rw [HU.out] at q; exact q) (by kernel_rfl) (by kernel_rfl) (by kernel_rfl)⟩
      try simp only [Act.put, List.getElem_toArray, List.getElem_cons_succ, List.getElem_cons_zero, List.setIfInBounds_toArray, List.set_cons_zero, List.set_cons_succ]
      refine wpAnyH_done (by kernel_rfl) ?_ _
      have HSF := Lib.hid hS0'.2
      go_wp2_with fail
      go_ret
      exact ⟨ret_bool (decide_eq_false (fun e => HXY.out (by have h1 := HX.out; have h2 := HY.out; rw [e, h2] at h1; injection h1 with h; exact h.symm))).symm, HSF.out⟩
  · obtain rfl : i = n := by omega
    rw [List.take_of_length_le (by omega), List.take_of_length_le (by omega)] at heq
    have HALL2 := Lib.hid heq
    have hji : ¬ ((i : Int) < (i : Int)) := by omega
    clear heq
    go_wp2_with fail
    go_ret
    exact ⟨ret_bool (decide_eq_true HALL2.out).symm, HB.out⟩
set_option maxHeartbeats 4000000 in
theorem rsame_c (a : Option Addr) (n c : Nat) (a' : Option Addr) (n' c' : Nat) (l l' : List Sp) (w : World) (h : Sps w a n l) (h' : Sps w a' n' l') (hn : n ≤ 1000000) (hn' : n' ≤ 1000000) :
    Calls Try.prog 17 #[.slice a n c, .slice a' n' c'] w fun e w' => e = .returned (.bool (decide (l = l'))) ∧ Below w.heap.size w w' := by
  have H := Lib.hid h; have H' := Lib.hid h'
  have hl := h.1; have hl' := h'.1
  clear h h'
  by_cases hnn : n = n'
  rotate_left
  · have hne : decide (l = l') = false := decide_eq_false (fun e => hnn (by rw [← hl, ← hl', e]))
    rw [hne]
    have q : ¬ ((n : Int) = (n' : Int)) := by omega
    go_enter Try.func17, Try.ntmps17
    go_wp2_with fail
    go_ret
    exact ⟨rfl, Below.refl _ _⟩
  subst hnn
  go_enter Try.func17, Try.ntmps17
  go_wp2_with fail
  go_loopw [5] (fun iv wr => ∃ i : Nat, i ≤ n ∧ iv = .int .i64 (i : Int) ∧ l.take i = l'.take i ∧ Below w.heap.size w wr) (fun iv _ => n - (intOf iv).toNat)
  case atStart => exact ⟨0, Nat.zero_le _, rfl, rfl, Below.refl _ _⟩
  case round =>
  obtain ⟨i, hi, rfl, heq, hb⟩ := hrel
  have HEQ := Lib.hid heq
  have HB := Lib.hid hb
  by_cases hlt : i < n
  · obtain ⟨x, hx⟩ : ∃ x, l[i]? = some x := ⟨l[i]'(by omega), List.getElem?_eq_getElem _⟩
    obtain ⟨y, hy⟩ : ∃ y, l'[i]? = some y := ⟨l'[i]'(by omega), List.getElem?_eq_getElem _⟩
    have HX := Lib.hid hx; have HY := Lib.hid hy
    obtain ⟨g, off, rfl, hg, _⟩ := (H.out.below hb).2 i x hx
    obtain ⟨g', off', rfl, hg', _⟩ := (H'.out.below hb).2 i y hy
    have HR := Lib.hid (And.intro ((H.out.below hb).below (Below.refl _ _).drew) ((H'.out.below hb).below (Below.refl _ _).drew))
    have hw2 : IntKind.i64.wrap (i : Int) = (i : Int) := IntWalk.i64_in _ (by omega)
    have hj2 : ¬ ((n : Int) ≤ (i : Int)) := by omega
    have hj3 : (i : Int) < (n : Int) := by omega
    clear hx hy heq hb
    by_cases hxy : x = y
    · have HU : Hid ((!decide (x = y)) = false) := Lib.hid (by rw [decide_eq_true hxy]; rfl)
      have HXY := Lib.hid hxy
      clear hxy
      go_wp2_with fail
      have hS0 : (fun W => (Sps W (some ⟨g, off, none⟩) n l ∧ Sps W (some ⟨g', off', none⟩) n l') ∧ Below w.heap.size w W) (World.drew wr) := ⟨HR.out, HB.out.drew⟩
      refine wp_region_held_drew (S := (fun W => (Sps W (some ⟨g, off, none⟩) n l ∧ Sps W (some ⟨g', off', none⟩) n l') ∧ Below w.heap.size w W)) (by kernel_rfl) hS0 ?_
      intro hS0'
      refine wpAnyH_take (i := 0) (v := .slice (some ⟨g, off, none⟩) n c) rfl (by kernel_rfl) (by kernel_rfl) (by kernel_rfl) (fun _ _ _ h => h) (Or.inl ⟨by kernel_rfl, fun w0 hSw => ?_⟩) hS0' ?_
      · go_simp
      try simp only [Act.put, List.getElem_toArray, List.getElem_cons_succ, List.getElem_cons_zero, List.setIfInBounds_toArray, List.set_cons_zero, List.set_cons_succ]
      refine wpAnyH_take (i := 1) (v := .int .i64 (i : Int)) rfl (by kernel_rfl) (by kernel_rfl) (by kernel_rfl) (fun _ _ _ h => h) (Or.inl ⟨by kernel_rfl, fun w0 hSw => ?_⟩) hS0' ?_
      · go_simp
      try simp only [Act.put, List.getElem_toArray, List.getElem_cons_succ, List.getElem_cons_zero, List.setIfInBounds_toArray, List.set_cons_zero, List.set_cons_succ]
      refine wpAnyH_take (i := 2) (v := .pointer (some ⟨g, off + i * 2, none⟩)) rfl (by kernel_rfl) (by kernel_rfl) (by kernel_rfl) (fun _ _ _ h => h) (Or.inl ⟨by kernel_rfl, fun w0 hSw => ?_⟩) hS0' ?_
      · go_simp
      try simp only [Act.put, List.getElem_toArray, List.getElem_cons_succ, List.getElem_cons_zero, List.setIfInBounds_toArray, List.set_cons_zero, List.set_cons_succ]
      refine wpAnyH_take (i := 3) (v := .agg #[.int .i64 x.f, .int .i64 x.t]) rfl (by kernel_rfl) (by kernel_rfl) (by kernel_rfl) (fun _ _ _ h => h) ?_ hS0' ?_
      · exact yieldsIf_load_mid (by kernel_rfl) 33 _ rfl g (off + i * 2) (by kernel_rfl) [.int .i64 x.f, .int .i64 x.t] _ (fun _ h => h.1.1.range HX.out) Try.underlying33 rfl (by kernel_rfl)
      try simp only [Act.put, List.getElem_toArray, List.getElem_cons_succ, List.getElem_cons_zero, List.setIfInBounds_toArray, List.set_cons_zero, List.set_cons_succ]
      refine wpAnyH_take (i := 4) (v := .slice (some ⟨g', off', none⟩) n c') rfl (by kernel_rfl) (by kernel_rfl) (by kernel_rfl) (fun _ _ _ h => h) (Or.inl ⟨by kernel_rfl, fun w0 hSw => ?_⟩) hS0' ?_
      · go_simp
      try simp only [Act.put, List.getElem_toArray, List.getElem_cons_succ, List.getElem_cons_zero, List.setIfInBounds_toArray, List.set_cons_zero, List.set_cons_succ]
      refine wpAnyH_take (i := 5) (v := .int .i64 (i : Int)) rfl (by kernel_rfl) (by kernel_rfl) (by kernel_rfl) (fun _ _ _ h => h) (Or.inl ⟨by kernel_rfl, fun w0 hSw => ?_⟩) hS0' ?_
      · go_simp
      try simp only [Act.put, List.getElem_toArray, List.getElem_cons_succ, List.getElem_cons_zero, List.setIfInBounds_toArray, List.set_cons_zero, List.set_cons_succ]
      refine wpAnyH_take (i := 6) (v := .pointer (some ⟨g', off' + i * 2, none⟩)) rfl (by kernel_rfl) (by kernel_rfl) (by kernel_rfl) (fun _ _ _ h => h) (Or.inl ⟨by kernel_rfl, fun w0 hSw => ?_⟩) hS0' ?_
      · go_simp
      try simp only [Act.put, List.getElem_toArray, List.getElem_cons_succ, List.getElem_cons_zero, List.setIfInBounds_toArray, List.set_cons_zero, List.set_cons_succ]
      refine wpAnyH_take (i := 7) (v := .agg #[.int .i64 y.f, .int .i64 y.t]) rfl (by kernel_rfl) (by kernel_rfl) (by kernel_rfl) (fun _ _ _ h => h) ?_ hS0' ?_
      · exact yieldsIf_load_mid (by kernel_rfl) 33 _ rfl g' (off' + i * 2) (by kernel_rfl) [.int .i64 y.f, .int .i64 y.t] _ (fun _ h => h.1.2.range HY.out) Try.underlying33 rfl (by kernel_rfl)
      try simp only [Act.put, List.getElem_toArray, List.getElem_cons_succ, List.getElem_cons_zero, List.setIfInBounds_toArray, List.set_cons_zero, List.set_cons_succ]
      refine wpAnyH_take (i := 8) (v := .bool false) rfl (by kernel_rfl) (by kernel_rfl) (by kernel_rfl) (fun _ _ _ h => h) ?_ hS0' ?_
      · exact .inl ⟨by kernel_rfl, fun W _ => neq_op (by have q := run_neq33 x y W; rw [HU.out] at q; exact q) (by kernel_rfl) (by kernel_rfl) (by kernel_rfl)⟩
      try simp only [Act.put, List.getElem_toArray, List.getElem_cons_succ, List.getElem_cons_zero, List.setIfInBounds_toArray, List.set_cons_zero, List.set_cons_succ]
      refine wpAnyH_done (by kernel_rfl) ?_ _
      have HSF := Lib.hid hS0'.2
      go_wp2_with fail
      go_roundw
      case rel => exact ⟨i + 1, by omega, by go_num, take_eq_succ HX.out HY.out HEQ.out HXY.out, HSF.out⟩
      case measure => simp [intOf]; omega
    · have HU : Hid ((!decide (x = y)) = true) := Lib.hid (by rw [decide_eq_false hxy]; rfl)
      have HXY := Lib.hid hxy
      clear hxy
      go_wp2_with fail
      have hS0 : (fun W => (Sps W (some ⟨g, off, none⟩) n l ∧ Sps W (some ⟨g', off', none⟩) n l') ∧ Below w.heap.size w W) (World.drew wr) := ⟨HR.out, HB.out.drew⟩
      refine wp_region_held_drew (S := (fun W => (Sps W (some ⟨g, off, none⟩) n l ∧ Sps W (some ⟨g', off', none⟩) n l') ∧ Below w.heap.size w W)) (by kernel_rfl) hS0 ?_
      intro hS0'
      refine wpAnyH_take (i := 0) (v := .slice (some ⟨g, off, none⟩) n c) rfl (by kernel_rfl) (by kernel_rfl) (by kernel_rfl) (fun _ _ _ h => h) (Or.inl ⟨by kernel_rfl, fun w0 hSw => ?_⟩) hS0' ?_
      · go_simp
      try simp only [Act.put, List.getElem_toArray, List.getElem_cons_succ, List.getElem_cons_zero, List.setIfInBounds_toArray, List.set_cons_zero, List.set_cons_succ]
      refine wpAnyH_take (i := 1) (v := .int .i64 (i : Int)) rfl (by kernel_rfl) (by kernel_rfl) (by kernel_rfl) (fun _ _ _ h => h) (Or.inl ⟨by kernel_rfl, fun w0 hSw => ?_⟩) hS0' ?_
      · go_simp
      try simp only [Act.put, List.getElem_toArray, List.getElem_cons_succ, List.getElem_cons_zero, List.setIfInBounds_toArray, List.set_cons_zero, List.set_cons_succ]
      refine wpAnyH_take (i := 2) (v := .pointer (some ⟨g, off + i * 2, none⟩)) rfl (by kernel_rfl) (by kernel_rfl) (by kernel_rfl) (fun _ _ _ h => h) (Or.inl ⟨by kernel_rfl, fun w0 hSw => ?_⟩) hS0' ?_
      · go_simp
      try simp only [Act.put, List.getElem_toArray, List.getElem_cons_succ, List.getElem_cons_zero, List.setIfInBounds_toArray, List.set_cons_zero, List.set_cons_succ]
      refine wpAnyH_take (i := 3) (v := .agg #[.int .i64 x.f, .int .i64 x.t]) rfl (by kernel_rfl) (by kernel_rfl) (by kernel_rfl) (fun _ _ _ h => h) ?_ hS0' ?_
      · exact yieldsIf_load_mid (by kernel_rfl) 33 _ rfl g (off + i * 2) (by kernel_rfl) [.int .i64 x.f, .int .i64 x.t] _ (fun _ h => h.1.1.range HX.out) Try.underlying33 rfl (by kernel_rfl)
      try simp only [Act.put, List.getElem_toArray, List.getElem_cons_succ, List.getElem_cons_zero, List.setIfInBounds_toArray, List.set_cons_zero, List.set_cons_succ]
      refine wpAnyH_take (i := 4) (v := .slice (some ⟨g', off', none⟩) n c') rfl (by kernel_rfl) (by kernel_rfl) (by kernel_rfl) (fun _ _ _ h => h) (Or.inl ⟨by kernel_rfl, fun w0 hSw => ?_⟩) hS0' ?_
      · go_simp
      try simp only [Act.put, List.getElem_toArray, List.getElem_cons_succ, List.getElem_cons_zero, List.setIfInBounds_toArray, List.set_cons_zero, List.set_cons_succ]
      refine wpAnyH_take (i := 5) (v := .int .i64 (i : Int)) rfl (by kernel_rfl) (by kernel_rfl) (by kernel_rfl) (fun _ _ _ h => h) (Or.inl ⟨by kernel_rfl, fun w0 hSw => ?_⟩) hS0' ?_
      · go_simp
      try simp only [Act.put, List.getElem_toArray, List.getElem_cons_succ, List.getElem_cons_zero, List.setIfInBounds_toArray, List.set_cons_zero, List.set_cons_succ]
      refine wpAnyH_take (i := 6) (v := .pointer (some ⟨g', off' + i * 2, none⟩)) rfl (by kernel_rfl) (by kernel_rfl) (by kernel_rfl) (fun _ _ _ h => h) (Or.inl ⟨by kernel_rfl, fun w0 hSw => ?_⟩) hS0' ?_
      · go_simp
      try simp only [Act.put, List.getElem_toArray, List.getElem_cons_succ, List.getElem_cons_zero, List.setIfInBounds_toArray, List.set_cons_zero, List.set_cons_succ]
      refine wpAnyH_take (i := 7) (v := .agg #[.int .i64 y.f, .int .i64 y.t]) rfl (by kernel_rfl) (by kernel_rfl) (by kernel_rfl) (fun _ _ _ h => h) ?_ hS0' ?_
      · exact yieldsIf_load_mid (by kernel_rfl) 33 _ rfl g' (off' + i * 2) (by kernel_rfl) [.int .i64 y.f, .int .i64 y.t] _ (fun _ h => h.1.2.range HY.out) Try.underlying33 rfl (by kernel_rfl)
      try simp only [Act.put, List.getElem_toArray, List.getElem_cons_succ, List.getElem_cons_zero, List.setIfInBounds_toArray, List.set_cons_zero, List.set_cons_succ]
      refine wpAnyH_take (i := 8) (v := .bool true) rfl (by kernel_rfl) (by kernel_rfl) (by kernel_rfl) (fun _ _ _ h => h) ?_ hS0' ?_
      · exact .inl ⟨by kernel_rfl, fun W _ => neq_op (by have q := run_neq33 x y W; rw [HU.out] at q; exact q) (by kernel_rfl) (by kernel_rfl) (by kernel_rfl)⟩
      try simp only [Act.put, List.getElem_toArray, List.getElem_cons_succ, List.getElem_cons_zero, List.setIfInBounds_toArray, List.set_cons_zero, List.set_cons_succ]
      refine wpAnyH_done (by kernel_rfl) ?_ _
      have HSF := Lib.hid hS0'.2
      go_wp2_with fail
      go_ret
      exact ⟨ret_bool (decide_eq_false (fun e => HXY.out (by have h1 := HX.out; have h2 := HY.out; rw [e, h2] at h1; injection h1 with h; exact h.symm))).symm, HSF.out⟩
  · obtain rfl : i = n := by omega
    rw [List.take_of_length_le (by omega), List.take_of_length_le (by omega)] at heq
    have HALL2 := Lib.hid heq
    have hji : ¬ ((i : Int) < (i : Int)) := by omega
    clear heq
    go_wp2_with fail
    go_ret
    exact ⟨ret_bool (decide_eq_true HALL2.out).symm, HB.out⟩
theorem clone_sps (a : Option Addr) (n c : Nat) (l : List Sp) (w : World) (h : Sps w a n l) (hn : n ≤ 1000000) :
    Calls Try.prog 55 #[.slice a n c] w fun e w' => ∃ v, e = .returned v ∧ OwnR w' w.heap.size v l ∧ Below w.heap.size w w' := by
  have hnil := fun (W : World) => Lib.run_eql_slice_nil (P := Try.prog) W 49 33 a n c 0 0 Try.underlying49
  have H := Lib.hid h
  cases a with
  | none =>
    have hl : l = [] := by
      cases l with
      | nil => rfl
      | cons x t => obtain ⟨g, off, e, _⟩ := h.2 0 x rfl; cases e
    subst hl
    have hn0 : n = 0 := h.1.symm
    subst hn0
    clear h
    go_enter Try.func55, Try.ntmps55
    go_wp2_with fail
    go_ret
    exact ⟨_, rfl, OwnR.nil _ _, Below.refl _ _⟩
  | some ad =>
    have hal := (Below.refl w.heap.size w).alloc (Nat.le_refl _) (.cells #[] 33)
    have HE := Lib.hid (ownR_empty w)
    have HS := Lib.hid (h.below hal)
    have HB := Lib.hid hal
    have hsz : ([] : List Sp).length + n ≤ 1000000000 := by simp; omega
    clear h hal
    go_enter Try.func55, Try.ntmps55
    go_wp2_with (at_builtin; refine wpl_append_sps rfl _ _ 49 49 33 rfl Try.underlying49 Try.underlying49 w.heap.size _ [] rfl HE.out (some ad) n c l rfl HS.out hsz HB.out.size ?_)
    intro v2 w2 ho2 hg2
    have HO : Hid (OwnR w2 w.heap.size v2 l) := Lib.hid (by simpa using ho2)
    have HB2 := Lib.hid (HB.out.trans (ownR_grown HE.out hg2 (Nat.le_refl _) HB.out.size))
    clear ho2 hg2
    go_wp2_with fail
    go_ret
    exact ⟨_, rfl, HO.out, HB2.out⟩
end Go.Proofs.Ytlgpoaapmgcloaa
