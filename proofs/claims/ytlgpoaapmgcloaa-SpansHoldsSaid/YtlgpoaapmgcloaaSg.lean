/- Contracts: a span is added. -/
import Derived.Test.YtlgpoaapmgcloaaSf
import Derived.Deep.RegionHeld3
import Derived.BigQuiet
import Derived.Deep.Cut
import Derived.Deep.CutRange
namespace Go.Proofs.Ytlgpoaapmgcloaa
open Go.RowKit
set_option linter.unusedSimpArgs false
set_option linter.unusedVariables false
set_option maxRecDepth 100000

theorem Only.trans_tch {p X B : Nat} {w W W' : World} (h : Only p w W) (ht : Tch (fun j => j = p ∨ j = X) W W') (hb : Below B w W) (hX : w.heap.size ≤ X) : Only p w W' :=
  ⟨ht.os.trans h.os, ht.tape.trans h.tape, ht.output.trans h.output, Nat.le_trans h.size ht.size, fun i hi hn => (ht.block i (Nat.lt_of_lt_of_le hi h.size) (fun e => by rcases e with e | e; exact hn (by rw [e]); omega)).trans (h.block i hi hn)⟩
theorem insL_at (k : List Sp) (y : Sp) : ∀ (i : Nat), (∀ z ∈ k.take i, z.f < y.f) → (¬ ∃ z, k[i]? = some z ∧ z.f < y.f) → i ≤ k.length → k.take i ++ y :: k.drop i = insL k y := by
  induction k with
  | nil => intro i _ _ hi; simp at hi; subst hi; rfl
  | cons a r ih =>
    intro i h1 h2 hi
    cases i with
    | zero =>
      have : ¬ a.f < y.f := fun h => h2 ⟨a, rfl, h⟩
      unfold insL
      simp [List.takeWhile_cons, List.dropWhile_cons, this]
    | succ i =>
      have ha := h1 a (by simp)
      have := ih i (fun z hz => h1 z (by simp [hz])) (by simpa using h2) (by simpa using hi)
      unfold insL at this ⊢
      simp [List.takeWhile_cons, List.dropWhile_cons, ha]
      exact this
set_option maxHeartbeats 8000000 in
theorem add_c (p : Nat) (l : List Sp) (a : Option Addr) (c : Nat) (x : Sp) (w : World) (h : IsSet w p l a c) (hn : l.length ≤ 1000000) (hls : Smalls l) :
    Calls Try.prog 9 #[.pointer (some ⟨p, 0, none⟩), x.val] w fun e w' => ((x.right = true ∧ e = .returned (.tuple #[.int .i64 (x.len - among l x), .int .i64 0]) ∧ ∃ a' c', IsSet w' p (addL l x) a' c') ∨ (x.right = false ∧ e = .returned (.tuple #[.int .i64 0, .int .i64 2]) ∧ IsSet w' p l a c)) ∧ Only p w w' := by
  have HLT : Hid (∀ g off, a = some ⟨g, off, none⟩ → 0 < l.length → g < w.heap.size) := Lib.hid (fun g off e h0 => by
    obtain ⟨g', off', e', hg, _⟩ := h.row.cells h0
    rw [e] at e'; injection e' with e'; injection e' with e1; omega)
  have hal := (Below.refl w.heap.size w).alloc (Nat.le_refl _) (.cells #[.int .i64 x.f, .int .i64 x.t] 33)
  obtain ⟨X, hX⟩ : ∃ X, X = w.heap.size := ⟨_, rfl⟩
  have HX1 : Hid (Blk (w.alloc (.cells #[.int .i64 x.f, .int .i64 x.t] 33)) X 33 #[.int .i64 x.f, .int .i64 x.t]) := Lib.hid (by rw [hX]; exact Blk.new _ _ _)
  have HS1 := Lib.hid (h.below hal)
  have HB1 := Lib.hid hal
  have hpX : p < X := by rw [hX]; exact h.blk.lt
  have HXS := Lib.hid hX
  have hXle : w.heap.size ≤ X := by omega
  unfold Sp.val
  clear hal h hX
  go_enter Try.func9, Try.ntmps9
  go_wp2_with fail
  rw [← HXS.out]
  generalize w.alloc (.cells #[.int .i64 x.f, .int .i64 x.t] 33) = w2 at *
  refine (none_c p a l.length c w2 HS1.out.blk).mono ?_
  rintro e w' ⟨rfl, rfl⟩
  have x0 : w2.cell? ⟨X, 0, none⟩ = some (.int .i64 x.f) := HX1.out.cell (i := 0) rfl
  have x1 : w2.cell? ⟨X, 1, none⟩ = some (.int .i64 x.t) := HX1.out.cell (i := 1) rfl
  go_wp2_with fail
  clear x0 x1
  change Calls Try.prog 23 #[x.val] w2 _
  refine (right_c x w2).mono ?_
  rintro e w3 ⟨rfl, hb3⟩
  have HS3 := Lib.hid (HS1.out.below hb3)
  have HX3 := Lib.hid (HX1.out.below hb3 HX1.out.lt)
  have HB3 := Lib.hid (HB1.out.trans (hb3.mono HB1.out.size))
  clear hb3 HS1 HX1 HB1
  by_cases hr : x.right = true
  rotate_left
  · have hr' : x.right = false := by simpa using hr
    have HR := Lib.hid hr'
    rw [hr']
    clear hr hr'
    go_wp2_with fail
    go_ret2
    exact ⟨.inr ⟨HR.out, rfl, HS3.out⟩, Only.of_below HB3.out p⟩
  have HR := Lib.hid hr
  have hxs := Sp.right_small hr
  have hle := Sp.len_le hxs
  rw [hr]
  obtain ⟨L, hL⟩ : ∃ L, L = x.len := ⟨_, rfl⟩
  obtain ⟨A, hA⟩ : ∃ A, A = among l x := ⟨_, rfl⟩
  have HL := Lib.hid hL; have HA := Lib.hid hA
  have hAb : 0 ≤ A ∧ A ≤ 4096 * 1000000 := by
    have := sumG_bound (fun a => (both a x).len) l (fun u hu => Sp.len_le (both_small (hls u hu) hxs))
    rw [hA]
    show 0 ≤ sumG _ l ∧ sumG _ l ≤ _
    omega
  rw [← hL] at hle
  have hwr : wrap64 (L - A) = L - A := IntWalk.wrap64_in _ (by omega)
  have hwr2 : IntKind.i64.wrap (L - A) = L - A := IntWalk.i64_in _ (by omega)
  clear hr hL hA
  go_wp2_with fail
  have hS0 : (fun W => (IsSet W p l a c ∧ Blk W X 33 #[.int .i64 x.f, .int .i64 x.t]) ∧ Below w.heap.size w W) (World.drew w3) := ⟨⟨HS3.out.below (Below.refl _ _).drew, HX3.out.drew⟩, HB3.out.drew⟩
  refine wp_region_held_drew (S := (fun W => (IsSet W p l a c ∧ Blk W X 33 #[.int .i64 x.f, .int .i64 x.t]) ∧ Below w.heap.size w W)) (by kernel_rfl) hS0 ?_
  intro hS0'
  refine wpAnyH_take (i := 0) (v := .agg #[.int .i64 x.f, .int .i64 x.t]) rfl (by kernel_rfl) (by kernel_rfl) (by kernel_rfl) (fun _ _ _ h => h) ?_ hS0' ?_
  · exact yieldsIf_load_blk (by kernel_rfl) 33 (.tmp 3) (by kernel_rfl) X (by kernel_rfl) 33 #[.int .i64 x.f, .int .i64 x.t] _ (fun _ h => h.1.2) Try.underlying33 rfl info33
  try simp only [Act.put, List.getElem_toArray, List.getElem_cons_succ, List.getElem_cons_zero, List.setIfInBounds_toArray, List.set_cons_zero, List.set_cons_succ]
  refine wpAnyH_take (i := 2) (v := .pointer (some ⟨p, 0, none⟩)) rfl (by kernel_rfl) (by kernel_rfl) (by kernel_rfl) (fun _ _ _ h => h) (Or.inl ⟨by kernel_rfl, fun w0 hSw => ?_⟩) hS0' ?_
  · go_simp
  try simp only [Act.put, List.getElem_toArray, List.getElem_cons_succ, List.getElem_cons_zero, List.setIfInBounds_toArray, List.set_cons_zero, List.set_cons_succ]
  refine wpAnyH_take (i := 3) (v := .agg #[.int .i64 x.f, .int .i64 x.t]) rfl (by kernel_rfl) (by kernel_rfl) (by kernel_rfl) (fun _ _ _ h => h) ?_ hS0' ?_
  · exact yieldsIf_load_blk (by kernel_rfl) 33 (.tmp 3) (by kernel_rfl) X (by kernel_rfl) 33 #[.int .i64 x.f, .int .i64 x.t] _ (fun _ h => h.1.2) Try.underlying33 rfl info33
  try simp only [Act.put, List.getElem_toArray, List.getElem_cons_succ, List.getElem_cons_zero, List.setIfInBounds_toArray, List.set_cons_zero, List.set_cons_succ]
  refine wpAnyH_ready (rs := [1]) (by kernel_rfl) (by simp) ?_
  refine AllReadyH.cons (by rfl) ?_ AllReadyH.nil
  intro K hK
  go_simp
  change Calls Try.prog 24 #[x.val] _ _
  refine (long_c x _ hxs).mono ?_
  rintro e w5 ⟨rfl, hb5⟩
  rw [← HL.out]
  refine hK.out _ _ ⟨⟨hS0'.1.1.below hb5, hS0'.1.2.below hb5 hS0'.1.2.lt⟩, hS0'.2.trans (hb5.mono hS0'.2.size)⟩ (fun hS1 => ?_)
  clear hK K
  refine wpAnyH_ready (rs := [4]) (by kernel_rfl) (by simp) ?_
  refine AllReadyH.cons (by rfl) ?_ AllReadyH.nil
  intro K hK
  go_simp
  change Calls Try.prog 30 #[_, x.val] _ _
  refine (among_c p l a c x _ hS1.1.1 hn hls hxs).mono ?_
  rintro e w6 ⟨rfl, hb6⟩
  rw [← HA.out]
  refine hK.out _ _ ⟨⟨hS1.1.1.below hb6, hS1.1.2.below hb6 hS1.1.2.lt⟩, hS1.2.trans (hb6.mono hS1.2.size)⟩ (fun hS2 => ?_)
  clear hK K
  refine wpAnyH_take (i := 5) (v := .int .i64 (L - A)) rfl (by kernel_rfl) (by kernel_rfl) (by kernel_rfl) (fun _ _ _ h => h) (Or.inl ⟨by kernel_rfl, fun w0 hSw => ?_⟩) hS2 ?_
  · go_simp
  try simp only [Act.put, List.getElem_toArray, List.getElem_cons_succ, List.getElem_cons_zero, List.setIfInBounds_toArray, List.set_cons_zero, List.set_cons_succ]
  refine wpAnyH_take (i := 6) (v := .int .i64 (L - A)) rfl (by kernel_rfl) (by kernel_rfl) (by kernel_rfl) (fun _ _ _ h => h) (Or.inl ⟨by kernel_rfl, fun w0 hSw => ?_⟩) hS2 ?_
  · go_simp
  try simp only [Act.put, List.getElem_toArray, List.getElem_cons_succ, List.getElem_cons_zero, List.setIfInBounds_toArray, List.set_cons_zero, List.set_cons_succ]
  refine wpAnyH_done (by kernel_rfl) ?_ _
  have HSF := Lib.hid hS2
  clear hS0'
  by_cases hz : L - A = 0
  · have HZ : Hid (addL l x = l) := Lib.hid (by unfold addL; rw [← HL.out, ← HA.out, if_pos hz])
    have HN0 := Lib.hid hz
    rw [hz]
    clear hz
    go_wp2_with fail
    go_ret2
    exact ⟨.inl ⟨HR.out, by rw [← HL.out, ← HA.out, HN0.out]; rfl, a, c, by rw [HZ.out]; exact HSF.out.1.1⟩, Only.of_below HSF.out.2 p⟩
  have HZ : Hid (addL l x = insL (kept l x) (grown l x x)) := Lib.hid (by unfold addL; rw [← HL.out, ← HA.out, if_neg hz])
  have q0 : ¬ (L - A = 0) := hz
  have x0 : w6.cell? ⟨X, 0, none⟩ = some (.int .i64 x.f) := HSF.out.1.2.cell (i := 0) rfl
  have x1 : w6.cell? ⟨X, 1, none⟩ = some (.int .i64 x.t) := HSF.out.1.2.cell (i := 1) rfl
  clear hz
  go_wp2_with fail
  clear x0 x1
  change Calls Try.prog 31 #[.pointer (some ⟨p, 0, none⟩), x.val, .func (.func 32) #[] #[.pointer (some ⟨X, 0, none⟩)]] w6 _
  refine (change_add p X l a c x x w6 HSF.out.1.1 hn HSF.out.1.2 (fun g off e h0 => by have := HLT.out g off e h0; omega)).mono ?_
  rintro e w7 ⟨rfl, ⟨v, hv, hp7⟩, hx7, ht7⟩
  obtain ⟨y, hy⟩ : ∃ y, y = grown l x x := ⟨_, rfl⟩
  obtain ⟨k, hk⟩ : ∃ k, k = kept l x := ⟨_, rfl⟩
  rw [← hy] at hx7
  rw [← hk] at hv
  rw [← hy, ← hk] at HZ
  have hkl : k.length ≤ l.length := by rw [hk]; exact kept_len l x
  obtain ⟨ra, rc, rfl, hrc, hrow, hrlo⟩ := hv.sps
  obtain ⟨m, hm⟩ : ∃ m, m = k.length := ⟨_, rfl⟩
  have HM := Lib.hid hm
  rw [← hm] at hp7 hrow hrc hkl hv
  have HOW := Lib.hid hv
  have HP7 := Lib.hid hp7; have HX7 := Lib.hid hx7; have HT7 := Lib.hid ht7; have HR7 := Lib.hid hrow
  have HO7 : Hid (Only p w w7) := Lib.hid ((Only.of_below HSF.out.2 p).trans_tch ht7 HSF.out.2 (by omega))
  clear hy hk hv hp7 hx7 ht7 hrow hm hrlo
  have hpos0 : (0 : Int) ≤ ((0 : Nat) : Int) := by omega
  go_wp2_with fail
  go_loopw [7] (fun iv wr => ∃ i : Nat, i ≤ m ∧ iv = .int .i64 (i : Int) ∧ (∀ z ∈ k.take i, z.f < y.f) ∧ Below w7.heap.size w7 wr) (fun iv _ => m - (intOf iv).toNat)
  case atStart => exact ⟨0, Nat.zero_le _, rfl, fun z hz => by simp at hz, Below.refl _ _⟩
  case round =>
  obtain ⟨i, hi, rfl, hall, hb⟩ := hrel
  have HALL := Lib.hid hall
  have HB := Lib.hid hb
  have hpr := HP7.out.below hb HP7.out.lt
  have hxr := HX7.out.below hb HX7.out.lt
  have c0 : wr.cell? ⟨p, 0, none⟩ = some (.slice ra m rc) := hpr.cell (i := 0) rfl
  have x0 : wr.cell? ⟨X, 0, none⟩ = some (.int .i64 y.f) := hxr.cell (i := 0) rfl
  have x1 : wr.cell? ⟨X, 1, none⟩ = some (.int .i64 y.t) := hxr.cell (i := 1) rfl
  have HPR := Lib.hid hpr; have HXR := Lib.hid hxr
  clear hall hb hpr hxr x1
  go_upto_region 10 with fail
  go_cut [46] from 27 to 45 (fun cv wx => (∃ bq : Bool, cv = .bool bq ∧ (bq = true ↔ ∃ z, k[i]? = some z ∧ z.f < y.f)) ∧ Below wr.heap.size wr wx)
  case first =>
    by_cases hlt : i < m
    · obtain ⟨z, hzz⟩ : ∃ z, k[i]? = some z := ⟨k[i]'(by have := HM.out; omega), List.getElem?_eq_getElem _⟩
      obtain ⟨g, off, hra, hg, d0, d1⟩ := (HR7.out.below HB.out).2 i z hzz
      subst hra
      have HZZ := Lib.hid hzz
      have q1 : (i : Int) < (m : Int) := by omega
      clear hzz d1
      by_cases hzf : z.f < y.f
      · go_wp2_with fail
        go_quiet (fail)
        go_wp2_with fail
        go_meet
        case rel => exact ⟨⟨true, rfl, fun _ => ⟨z, HZZ.out, hzf⟩, fun _ => rfl⟩, below_drewN (Below.refl _ _) _⟩
      · have q2 : decide (z.f < y.f) = false := decide_eq_false hzf
        go_wp2_with fail
        go_quiet (fail)
        go_wp2_with fail
        go_meet
        case rel => exact ⟨⟨false, rfl, fun h => (by cases h), fun h => by
          obtain ⟨z', h1, h2⟩ := h
          have h3 := HZZ.out
          rw [h1] at h3; injection h3 with h3; subst h3
          omega⟩, below_drewN (Below.refl _ _) _⟩
    · have q1 : decide ((i : Int) < (m : Int)) = false := decide_eq_false (by omega)
      go_wp2_with fail
      go_quiet (fail)
      go_wp2_with fail
      go_meet
      case rel => exact ⟨⟨false, rfl, fun h => (by cases h), fun h => by
        obtain ⟨z', h1, h2⟩ := h
        have h3 := (List.getElem?_eq_some_iff.1 h1).1
        have := HM.out
        omega⟩, below_drewN (Below.refl _ _) _⟩
  case rest =>
  obtain ⟨⟨bq, rfl, hbq⟩, hbc⟩ := hcut
  have HBC := Lib.hid (HB.out.trans (hbc.mono HB.out.size))
  have HBQ := Lib.hid hbq
  clear hbc hbq c0 x0
  cases bq with
  | true =>
    have hlt : i < m := by
      obtain ⟨z, hzz, _⟩ := HBQ.out.1 rfl
      have := (List.getElem?_eq_some_iff.1 hzz).1; have := HM.out; omega
    go_wp2_with fail
    go_roundw
    case rel =>
      refine ⟨i + 1, by omega, by go_num, fun u hu => ?_, HBC.out⟩
      obtain ⟨z, hzz, hzf⟩ := HBQ.out.1 rfl
      rw [List.take_add_one, hzz] at hu
      rcases List.mem_append.1 hu with hu | hu
      · exact HALL.out u hu
      · simp at hu; subst hu; exact hzf
    case measure => simp [intOf]; omega
  | false =>
    have hpc := HP7.out.below HBC.out HP7.out.lt
    have hxc := HX7.out.below HBC.out HX7.out.lt
    have howc := HOW.out.below HBC.out
    have HPC := Lib.hid hpc; have HXC := Lib.hid hxc
    have HOC := Lib.hid howc
    have HTC := Lib.hid (HO7.out.behind HBC.out (by have := HO7.out.size; omega))
    have hsz6 : w6.heap.size ≤ wc.heap.size := by have := HT7.out.size; have := HBC.out.size; omega
    have hXc : X < wc.heap.size := hxc.lt
    have hw6 : w.heap.size ≤ w6.heap.size := HSF.out.2.size
    have hX6 : X < w6.heap.size := HSF.out.1.2.lt
    obtain ⟨G, hG⟩ : ∃ G, G = wc.heap.size := ⟨_, rfl⟩
    have hal := (Below.refl wc.heap.size wc).alloc (Nat.le_refl _) (.cells #[.int .i64 y.f, .int .i64 y.t] 33)
    have HAL := Lib.hid hal
    have c0 : wc.cell? ⟨p, 0, none⟩ = some (.slice ra m rc) := hpc.cell (i := 0) rfl
    have c0a : (wc.alloc (.cells #[.int .i64 y.f, .int .i64 y.t] 33)).cell? ⟨p, 0, none⟩ = some (.slice ra m rc) := (hpc.alloc _).cell (i := 0) rfl
    have x0 : wc.cell? ⟨X, 0, none⟩ = some (.int .i64 y.f) := hxc.cell (i := 0) rfl
    have x1 : wc.cell? ⟨X, 1, none⟩ = some (.int .i64 y.t) := hxc.cell (i := 1) rfl
    have HGB : Hid (Blk (wc.alloc (.cells #[.int .i64 y.f, .int .i64 y.t] 33)) G 33 #[.int .i64 y.f, .int .i64 y.t]) := Lib.hid (by rw [hG]; exact Blk.new _ _ _)
    have HGS := Lib.hid hG
    have hHI := insL_at k y i HALL.out (fun h => by have := HBQ.out.2 h; cases this) (by have := HM.out; omega)
    have HINS := Lib.hid hHI
    clear hpc hxc howc hal hG hHI
    go_wp2_with fail
    have hS0 : (fun W => Blk W X 33 #[.int .i64 y.f, .int .i64 y.t] ∧ Only p w W) (World.drew wc) := ⟨HXC.out.drew, HTC.out.drew⟩
    refine wp_region_held_drew (S := (fun W => Blk W X 33 #[.int .i64 y.f, .int .i64 y.t] ∧ Only p w W)) (by kernel_rfl) hS0 ?_
    intro hS0'
    refine wpAnyH_take (i := 0) (v := .pointer (some ⟨p, 0, none⟩)) rfl (by kernel_rfl) (by kernel_rfl) (by kernel_rfl) (fun _ _ _ h => h) (Or.inl ⟨by kernel_rfl, fun w0 hSw => ?_⟩) hS0' ?_
    · go_simp
    try simp only [Act.put, List.getElem_toArray, List.getElem_cons_succ, List.getElem_cons_zero, List.setIfInBounds_toArray, List.set_cons_zero, List.set_cons_succ]
    refine wpAnyH_take (i := 1) (v := .pointer (some ⟨p, 0, none⟩)) rfl (by kernel_rfl) (by kernel_rfl) (by kernel_rfl) (fun _ _ _ h => h) (Or.inl ⟨by kernel_rfl, fun w0 hSw => ?_⟩) hS0' ?_
    · go_simp
    try simp only [Act.put, List.getElem_toArray, List.getElem_cons_succ, List.getElem_cons_zero, List.setIfInBounds_toArray, List.set_cons_zero, List.set_cons_succ]
    refine wpAnyH_take (i := 2) (v := .pointer (some ⟨p, 0, none⟩)) rfl (by kernel_rfl) (by kernel_rfl) (by kernel_rfl) (fun _ _ _ h => h) (Or.inl ⟨by kernel_rfl, fun w0 hSw => ?_⟩) hS0' ?_
    · go_simp
    try simp only [Act.put, List.getElem_toArray, List.getElem_cons_succ, List.getElem_cons_zero, List.setIfInBounds_toArray, List.set_cons_zero, List.set_cons_succ]
    refine wpAnyH_take (i := 3) (v := .pointer (some ⟨p, 0, none⟩)) rfl (by kernel_rfl) (by kernel_rfl) (by kernel_rfl) (fun _ _ _ h => h) (Or.inl ⟨by kernel_rfl, fun w0 hSw => ?_⟩) hS0' ?_
    · go_simp
    try simp only [Act.put, List.getElem_toArray, List.getElem_cons_succ, List.getElem_cons_zero, List.setIfInBounds_toArray, List.set_cons_zero, List.set_cons_succ]
    refine wpAnyH_take (i := 5) (v := .int .i64 (i : Int)) rfl (by kernel_rfl) (by kernel_rfl) (by kernel_rfl) (fun _ _ _ h => h) (Or.inl ⟨by kernel_rfl, fun w0 hSw => ?_⟩) hS0' ?_
    · go_simp
    try simp only [Act.put, List.getElem_toArray, List.getElem_cons_succ, List.getElem_cons_zero, List.setIfInBounds_toArray, List.set_cons_zero, List.set_cons_succ]
    refine wpAnyH_take (i := 6) (v := .agg #[.int .i64 y.f, .int .i64 y.t]) rfl (by kernel_rfl) (by kernel_rfl) (by kernel_rfl) (fun _ _ _ h => h) ?_ hS0' ?_
    · exact yieldsIf_load_blk (by kernel_rfl) 33 (.tmp 3) (by kernel_rfl) X (by kernel_rfl) 33 #[.int .i64 y.f, .int .i64 y.t] _ (fun _ h => h.1) Try.underlying33 rfl info33
    try simp only [Act.put, List.getElem_toArray, List.getElem_cons_succ, List.getElem_cons_zero, List.setIfInBounds_toArray, List.set_cons_zero, List.set_cons_succ]
    refine wpAnyH_ready (rs := [4, 7]) (by kernel_rfl) (by simp) ?_
    refine AllReadyH.cons (by rfl) ?_ ?_
    · intro K hK
      go_simp
      refine hK.out _ _ hS0' (fun hS1 => ?_)
      clear hK K
      refine wpAnyH_ready (rs := [7]) (by kernel_rfl) (by simp) ?_
      refine AllReadyH.cons (by rfl) ?_ AllReadyH.nil
      intro K hK
      go_simp
      refine hK.out _ _ ⟨(HXC.out.below HAL.out hXc).drew, (HTC.out.behind (B := wc.heap.size) HAL.out (Nat.le_trans hw6 hsz6)).drew⟩ (fun hS2 => ?_)
      clear hK K
      refine wpAnyH_ready (rs := [8]) (by kernel_rfl) (by simp) ?_
      refine AllReadyH.cons (by rfl) ?_ AllReadyH.nil
      intro K hK
      go_simp
      have hG8 := HGB.out.drew
      have hK8 := (HOC.out.below HAL.out).below (Below.refl _ _).drew
      have hp8 := (HPC.out.below HAL.out (by omega)).drew
      have hz8 : (World.drew (wc.alloc (.cells #[.int .i64 y.f, .int .i64 y.t] 33))).heap.size = wc.heap.size + 1 := World.size_alloc _ _
      have hS8 := hS2
      obtain ⟨wa, hwa⟩ : ∃ wa, wa = World.drew (wc.alloc (.cells #[.int .i64 y.f, .int .i64 y.t] 33)) := ⟨_, rfl⟩
      rw [← hwa] at hG8 hK8 hp8 hz8 hS8 ⊢
      have hv8 : (Value.slice ra m rc).ownBlock ≠ some G := fun e => by have := (World.ownsRow.lt (HOC.out : wc.ownsRow _ _ _ _ _ _) G e).2; have := HGS.out; omega
      clear hwa
      rw [← HGS.out]
      refine (insert_c (.slice ra m rc) k (w6.heap.size + 1) i y G wa hK8 (by have := HM.out; omega) (by have := HM.out; omega) hG8 hv8 (by omega)).mono ?_
      rintro e w9 ⟨v9, rfl, ho9, hb9⟩
      obtain ⟨A9, C9, hv9, hc9, hr9, _⟩ := ho9.sps
      obtain ⟨n9, hn9⟩ : ∃ n9, n9 = (k.take i ++ y :: k.drop i).length := ⟨_, rfl⟩
      rw [← hn9] at hv9 hc9 hr9
      have HN9 := Lib.hid hn9
      have HR9 := Lib.hid hr9
      subst hv9
      clear hn9 ho9 hr9
      have hp9 : Blk w9 p 51 #[.slice ra m rc, .bool true] := hp8.below hb9 (by omega)
      have fz := hp9.frozen
      have cp := hp9.cell (i := 0) rfl
      refine hK.out _ _ ⟨hS8.1.below hb9 (by omega), hS8.2.behind hb9 (by omega)⟩ (fun hS3 => ?_)
      clear hK K
      refine wpAnyH_take (i := 9) (v := .pointer (some ⟨p, 0, none⟩)) rfl (by kernel_rfl) (by kernel_rfl) (by kernel_rfl) (fun _ _ _ h => h) (Or.inl ⟨by kernel_rfl, fun w0 hSw => ?_⟩) hS3 ?_
      · go_simp
      try simp only [Act.put, List.getElem_toArray, List.getElem_cons_succ, List.getElem_cons_zero, List.setIfInBounds_toArray, List.set_cons_zero, List.set_cons_succ]
      refine wpAnyH_take (i := 10) (v := .pointer (some ⟨p, 0, none⟩)) rfl (by kernel_rfl) (by kernel_rfl) (by kernel_rfl) (fun _ _ _ h => h) (Or.inl ⟨by kernel_rfl, fun w0 hSw => ?_⟩) hS3 ?_
      · go_simp
      try simp only [Act.put, List.getElem_toArray, List.getElem_cons_succ, List.getElem_cons_zero, List.setIfInBounds_toArray, List.set_cons_zero, List.set_cons_succ]
      refine wpAnyH_ready (rs := [11]) (by kernel_rfl) (by simp) ?_
      refine AllReadyH.cons (by rfl) ?_ AllReadyH.nil
      intro K hK
      go_simp
      have hpq := hp9.set 0 (.slice A9 n9 C9)
      have hoq := (Only.refl p w9).setCell (p := ⟨p, 0, none⟩) (.inl rfl) (.slice A9 n9 C9)
      refine hK.out _ _ ⟨hoq.blk hS3.1 (by omega), hS3.2.trans hoq⟩ (fun hS4 => ?_)
      clear hK K
      refine wpAnyH_done (by kernel_rfl) ?_ _
      have HPQ := Lib.hid hpq
      have HR8 := Lib.hid (HR9.out.only hoq (set_far hp9 HR9.out))
      have HSF2 := Lib.hid hS4
      clear cp fz hp9 hpq hoq hb9
      go_wp2_with fail
      go_ret2
      have hlen : addL l x = k.take i ++ y :: k.drop i := by rw [HZ.out, HINS.out]
      exact ⟨.inl ⟨HR.out, by rw [← HL.out, ← HA.out]; rfl, A9, C9, by rw [hlen, ← HN9.out]; exact HPQ.out, by rw [hlen, ← HN9.out]; exact HR8.out, by rw [hlen, ← HN9.out]; exact hc9⟩, HSF2.out.2⟩
    refine AllReadyH.cons (by rfl) ?_ AllReadyH.nil
    intro K hK
    go_simp
    refine hK.out _ _ ⟨(HXC.out.below HAL.out hXc).drew, (HTC.out.behind (B := wc.heap.size) HAL.out (Nat.le_trans hw6 hsz6)).drew⟩ (fun hS5 => ?_)
    clear hK K
    refine wpAnyH_ready (rs := [4]) (by kernel_rfl) (by simp) ?_
    refine AllReadyH.cons (by rfl) ?_ AllReadyH.nil
    intro K hK
    go_simp
    refine hK.out _ _ hS5 (fun hS6 => ?_)
    clear hK K
    refine wpAnyH_ready (rs := [8]) (by kernel_rfl) (by simp) ?_
    refine AllReadyH.cons (by rfl) ?_ AllReadyH.nil
    intro K hK
    go_simp
    have hG8 := HGB.out.drew
    have hK8 := (HOC.out.below HAL.out).below (Below.refl _ _).drew
    have hp8 := (HPC.out.below HAL.out (by omega)).drew
    have hz8 : (World.drew (wc.alloc (.cells #[.int .i64 y.f, .int .i64 y.t] 33))).heap.size = wc.heap.size + 1 := World.size_alloc _ _
    have hS8 := hS6
    obtain ⟨wa, hwa⟩ : ∃ wa, wa = World.drew (wc.alloc (.cells #[.int .i64 y.f, .int .i64 y.t] 33)) := ⟨_, rfl⟩
    rw [← hwa] at hG8 hK8 hp8 hz8 hS8 ⊢
    have hv8 : (Value.slice ra m rc).ownBlock ≠ some G := fun e => by have := (World.ownsRow.lt (HOC.out : wc.ownsRow _ _ _ _ _ _) G e).2; have := HGS.out; omega
    clear hwa
    rw [← HGS.out]
    refine (insert_c (.slice ra m rc) k (w6.heap.size + 1) i y G wa hK8 (by have := HM.out; omega) (by have := HM.out; omega) hG8 hv8 (by omega)).mono ?_
    rintro e w9 ⟨v9, rfl, ho9, hb9⟩
    obtain ⟨A9, C9, hv9, hc9, hr9, _⟩ := ho9.sps
    obtain ⟨n9, hn9⟩ : ∃ n9, n9 = (k.take i ++ y :: k.drop i).length := ⟨_, rfl⟩
    rw [← hn9] at hv9 hc9 hr9
    have HN9 := Lib.hid hn9
    have HR9 := Lib.hid hr9
    subst hv9
    clear hn9 ho9 hr9
    have hp9 : Blk w9 p 51 #[.slice ra m rc, .bool true] := hp8.below hb9 (by omega)
    have fz := hp9.frozen
    have cp := hp9.cell (i := 0) rfl
    refine hK.out _ _ ⟨hS8.1.below hb9 (by omega), hS8.2.behind hb9 (by omega)⟩ (fun hS7 => ?_)
    clear hK K
    refine wpAnyH_take (i := 9) (v := .pointer (some ⟨p, 0, none⟩)) rfl (by kernel_rfl) (by kernel_rfl) (by kernel_rfl) (fun _ _ _ h => h) (Or.inl ⟨by kernel_rfl, fun w0 hSw => ?_⟩) hS7 ?_
    · go_simp
    try simp only [Act.put, List.getElem_toArray, List.getElem_cons_succ, List.getElem_cons_zero, List.setIfInBounds_toArray, List.set_cons_zero, List.set_cons_succ]
    refine wpAnyH_take (i := 10) (v := .pointer (some ⟨p, 0, none⟩)) rfl (by kernel_rfl) (by kernel_rfl) (by kernel_rfl) (fun _ _ _ h => h) (Or.inl ⟨by kernel_rfl, fun w0 hSw => ?_⟩) hS7 ?_
    · go_simp
    try simp only [Act.put, List.getElem_toArray, List.getElem_cons_succ, List.getElem_cons_zero, List.setIfInBounds_toArray, List.set_cons_zero, List.set_cons_succ]
    refine wpAnyH_ready (rs := [11]) (by kernel_rfl) (by simp) ?_
    refine AllReadyH.cons (by rfl) ?_ AllReadyH.nil
    intro K hK
    go_simp
    have hpq := hp9.set 0 (.slice A9 n9 C9)
    have hoq := (Only.refl p w9).setCell (p := ⟨p, 0, none⟩) (.inl rfl) (.slice A9 n9 C9)
    refine hK.out _ _ ⟨hoq.blk hS7.1 (by omega), hS7.2.trans hoq⟩ (fun hS8 => ?_)
    clear hK K
    refine wpAnyH_done (by kernel_rfl) ?_ _
    have HPQ := Lib.hid hpq
    have HR8 := Lib.hid (HR9.out.only hoq (set_far hp9 HR9.out))
    have HSF2 := Lib.hid hS8
    clear cp fz hp9 hpq hoq hb9
    go_wp2_with fail
    go_ret2
    have hlen : addL l x = k.take i ++ y :: k.drop i := by rw [HZ.out, HINS.out]
    exact ⟨.inl ⟨HR.out, by rw [← HL.out, ← HA.out]; rfl, A9, C9, by rw [hlen, ← HN9.out]; exact HPQ.out, by rw [hlen, ← HN9.out]; exact HR8.out, by rw [hlen, ← HN9.out]; exact hc9⟩, HSF2.out.2⟩

end Go.Proofs.Ytlgpoaapmgcloaa
