/- Contracts: what of a span is ahead of another one, and behind it. -/
import Derived.Test.YtlgpoaapmgcloaaSb
namespace Go.Proofs.Ytlgpoaapmgcloaa
open Go.RowKit
set_option linter.unusedSimpArgs false
set_option linter.unusedVariables false
set_option maxRecDepth 100000

theorem isnone_c (x : Sp) (w : World) (h : x.small) : Calls Try.prog 57 #[x.val] w fun e w' => e = .returned (.bool (decide (x.len = 0))) ∧ Below w.heap.size w w' := by
  have HB := Lib.hid ((Below.refl w.heap.size w).alloc (Nat.le_refl _) (.cells #[.int .i64 x.f, .int .i64 x.t] 33))
  unfold Sp.val
  go_enter Try.func57, Try.ntmps57
  go_wp2_with fail
  change Calls Try.prog 24 #[x.val] _ _
  refine (long_c x _ h).mono ?_
  rintro e w2 ⟨rfl, hb2⟩
  have HB2 := Lib.hid (HB.out.trans (hb2.mono HB.out.size))
  clear hb2
  go_wp2_with fail
  go_ret
  refine ⟨ret_bool ?_, HB2.out⟩
  rw [Bool.eq_iff_iff, beq_iff_eq, decide_eq_true_eq]
set_option maxHeartbeats 1000000 in
theorem indexz_c (a : Option Addr) (n c : Nat) (l : List Sp) (w : World) (h : Sps w a n l) (hn : n ≤ 1000000) (hl : Smalls l) :
    Calls Try.prog 64 #[.slice a n c, .func (.func 57) #[] #[]] w fun e w' => (∃ k : Int, e = .returned (.int .i64 k) ∧ ((k = -1 ∧ ∀ x ∈ l, x.len ≠ 0) ∨ ∃ (i : Nat) (x : Sp), k = (i : Int) ∧ l[i]? = some x ∧ x.len = 0 ∧ ∀ y ∈ l.take i, y.len ≠ 0)) ∧ Below w.heap.size w w' := by
  have H := Lib.hid h
  have HSM := Lib.hid hl
  have hll := h.1
  clear h hl
  go_enter Try.func64, Try.ntmps64
  go_wp2_with fail
  go_loopw [8] (fun iv wr => ∃ i : Nat, i ≤ n ∧ iv = .int .i64 (i : Int) ∧ (∀ y ∈ l.take i, y.len ≠ 0) ∧ Below w.heap.size w wr) (fun iv _ => n - (intOf iv).toNat)
  case atStart => exact ⟨0, Nat.zero_le _, rfl, fun y hy => by simp at hy, Below.refl _ _⟩
  case round =>
  obtain ⟨i, hi, rfl, hall, hb⟩ := hrel
  have HALL := Lib.hid hall
  have HB := Lib.hid hb
  by_cases hlt : i < n
  · obtain ⟨x, hx⟩ : ∃ x, l[i]? = some x := ⟨l[i]'(by omega), List.getElem?_eq_getElem _⟩
    have HX := Lib.hid hx
    have hxs := HSM.out x (List.mem_of_getElem? hx)
    obtain ⟨g, off, rfl, hg, c0, c1⟩ := (H.out.below hb).2 i x hx
    have HXS := Lib.hid hxs
    clear hx hb hall hxs
    go_wp2_with fail
    change Calls Try.prog 57 #[x.val] wr _
    refine (isnone_c x wr HXS.out).mono ?_
    rintro e w3 ⟨rfl, hb3⟩
    have HB3 := Lib.hid (HB.out.trans (hb3.mono HB.out.size))
    clear hb3 c0 c1
    by_cases hz : x.len = 0
    · rw [decide_eq_true hz]
      have HZ := Lib.hid hz
      clear hz
      go_wp2_with fail
      go_ret
      exact ⟨⟨_, rfl, .inr ⟨i, x, rfl, HX.out, HZ.out, HALL.out⟩⟩, HB3.out⟩
    · rw [decide_eq_false hz]
      have HZ := Lib.hid hz
      clear hz
      go_wp2_with fail
      go_roundw
      case rel =>
        refine ⟨i + 1, by omega, by go_num, fun y hy => ?_, HB3.out⟩
        rw [List.take_add_one, HX.out] at hy
        rcases List.mem_append.1 hy with hy | hy
        · exact HALL.out y hy
        · simp at hy; subst hy; exact HZ.out
      case measure => simp [intOf]; omega
  · obtain rfl : i = n := by omega
    rw [List.take_of_length_le (by omega)] at hall
    have HALL2 := Lib.hid hall
    have hji : ¬ ((i : Int) < (i : Int)) := by omega
    clear hall hb
    go_wp2_with fail
    go_ret
    exact ⟨⟨_, rfl, .inl ⟨rfl, HALL2.out⟩⟩, HB.out⟩
theorem run_clear_sps (w : World) (G o n c : Nat) (ty : TypeId) (cs : Array Value) (h : Blk w G 33 cs) (hs : o + n * 2 ≤ cs.size) (hn : n = 1 ∨ n = 2) :
    (Builtin.clear_ #[22] ty #[.slice (some ⟨G, o, none⟩) n c]).run Try.prog w = .ok (.tuple #[]) (w.setCells G o (List.replicate (n * 2) (.int .i64 0))) := by
  obtain ⟨i0, hi, hz0, hz1, hz2⟩ := info_parts infoSp
  have hv : ∀ w, (zeroValue 33).run Try.prog w = .ok (.agg #[.int .i64 0, .int .i64 0]) w := fun w => by simp [zeroValue, typeInfo, hi, hz0]
  have hzc : (Builtin.zeroCells (Value.agg #[.int .i64 0, .int .i64 0]).cells n).toList = List.replicate (n * 2) (.int .i64 0) := by
    rcases hn with rfl | rfl <;> kernel_rfl
  have hth := blk_there h
  have hst := run_storeCells_cells (P := Try.prog) G o (List.replicate (n * 2) (.int .i64 0)) 0 w
    (by intro j hj; rw [List.length_replicate] at hj; have := (hth (o + j) (by omega)).1; simpa using this)
    (by intro j hj; rw [List.length_replicate] at hj; have := (hth (o + j) (by omega)).2; simpa using this)
    (by intro v hv'; rw [List.eq_of_mem_replicate hv']; rfl)
  simp only [Nat.add_zero] at hst
  rcases hn with rfl | rfl
  · simp [List.replicate] at hst
    simp [Builtin.clear_, run_underlying Try.underlying22, hv, hzc, hst]
  · simp [List.replicate] at hst
    simp [Builtin.clear_, run_underlying Try.underlying22, hv, hzc, hst]
theorem clear_tail {W : World} {G : Nat} {x y : Sp} (h : Blk W G 33 #[.int .i64 x.f, .int .i64 x.t, .int .i64 y.f, .int .i64 y.t]) : Sps (W.setCells G 2 (List.replicate 2 (.int .i64 0))) (some ⟨G, 0, none⟩) 1 [x] ∧ Only G W (W.setCells G 2 (List.replicate 2 (.int .i64 0))) := by
  obtain ⟨cs', h1, h2, h3, h4, h5⟩ := setCells_blk G 33 (List.replicate 2 (.int .i64 0)) 2 W _ h
  refine ⟨⟨rfl, fun i z hz => ⟨G, 0, rfl, h1.lt, ?_⟩⟩, h4⟩
  match i with
  | 0 =>
    simp at hz
    subst hz
    refine ⟨h1.cell ?_, h1.cell ?_⟩
    · rw [h3]; simp
    · rw [h3]; simp
  | k + 1 => simp at hz
set_option maxHeartbeats 2000000 in
theorem delete_c (G : Nat) (u v : Sp) (w : World) (h : Blk w G 33 #[.int .i64 u.f, .int .i64 u.t, .int .i64 v.f, .int .i64 v.t]) (hu : u.small) (hv : v.small) :
    Calls Try.prog 56 #[.slice (some ⟨G, 0, none⟩) 2 2, .func (.func 57) #[] #[]] w fun e w' => ∃ m, e = .returned (.slice (some ⟨G, 0, none⟩) m 2) ∧ Sps w' (some ⟨G, 0, none⟩) m ([u, v].filter (fun x => decide (x.len ≠ 0))) ∧ Only G w w' := by
  have hsp : Sps w (some ⟨G, 0, none⟩) 2 [u, v] := ⟨rfl, fun i x hx => ⟨G, 0, rfl, h.lt, by
    match i with
    | 0 => simp at hx; subst hx; exact ⟨h.cell rfl, h.cell rfl⟩
    | 1 => simp at hx; subst hx; exact ⟨h.cell rfl, h.cell rfl⟩
    | k + 2 => simp at hx⟩⟩
  have HS := Lib.hid hsp
  have H := Lib.hid h
  have HL : Hid (Smalls [u, v]) := Lib.hid (fun x hx => by simp at hx; rcases hx with rfl | rfl; exact hu; exact hv)
  clear hsp h
  go_enter Try.func56, Try.ntmps56
  go_wp2_with fail
  refine (indexz_c _ 2 2 [u, v] w HS.out (by decide) HL.out).mono ?_
  rintro e w2 ⟨⟨k, rfl, hk⟩, hb2⟩
  have H2 := Lib.hid (H.out.below hb2 H.out.lt)
  by_cases hu0 : u.len = 0
  · have hk0 : k = 0 := by
      rcases hk with ⟨_, hk⟩ | ⟨i, x, rfl, hx, hz, hall⟩
      · exact absurd hu0 (hk u (by simp))
      · match i with
        | 0 => rfl
        | j + 1 => exact absurd hu0 (hall u (by simp))
    subst hk0
    clear hk
    have HO := Lib.hid (Only.of_below hb2 G)
    clear hb2
    by_cases hv0 : v.len = 0
    · have HF : Hid ([u, v].filter (fun x => decide (x.len ≠ 0)) = []) := Lib.hid (by simp [hu0, hv0])
      have HV := Lib.hid hv0
      go_wp2_with fail
      go_loopw [6, 5] (fun jv iv wr => ∃ j : Nat, 1 ≤ j ∧ j ≤ 2 ∧ jv = .int .i64 (j : Int) ∧ iv = .int .i64 0 ∧ Blk wr G 33 #[.int .i64 u.f, .int .i64 u.t, .int .i64 v.f, .int .i64 v.t] ∧ Only G w wr) (fun jv _ _ => 2 - (intOf jv).toNat)
      case atStart => exact ⟨1, by decide, by decide, rfl, rfl, H2.out, HO.out⟩
      case round =>
      obtain ⟨j, hj1, hj2, rfl, rfl, hb, ho⟩ := hrel
      have HBK := Lib.hid hb; have HOO := Lib.hid ho
      rcases (by omega : j = 1 ∨ j = 2) with rfl | rfl
      · have c2 : wr.cell? ⟨G, 2, none⟩ = some (.int .i64 v.f) := hb.cell (i := 2) rfl
        have c3 : wr.cell? ⟨G, 3, none⟩ = some (.int .i64 v.t) := hb.cell (i := 3) rfl
        have hal := (Below.refl wr.heap.size wr).alloc (Nat.le_refl _) (.cells #[.int .i64 v.f, .int .i64 v.t] 33)
        have HA := Lib.hid hal
        clear hb ho hal
        go_wp2_with fail
        change Calls Try.prog 57 #[v.val] _ _
        refine (isnone_c v _ hv).mono ?_
        rintro e w4 ⟨rfl, hb4⟩
        rw [decide_eq_true HV.out]
        have HB4 := Lib.hid (HA.out.trans (hb4.mono HA.out.size))
        clear hb4
        go_wp2_with fail
        go_roundw
        case rel => exact ⟨2, by decide, by decide, rfl, rfl, HBK.out.below HB4.out HBK.out.lt, HOO.out.trans (Only.of_below HB4.out G)⟩
        case measure => simp [intOf]
      · have hclr := run_clear_sps wr G 0 2 2 0 _ hb (by simp) (.inr rfl)
        obtain ⟨_, _, _, _, hon, _⟩ := setCells_blk G 33 (List.replicate 4 (.int .i64 0)) 0 wr _ hb
        have HON := Lib.hid hon
        clear hb ho hon
        go_wp2_with fail
        go_ret
        exact ⟨0, rfl, by rw [HF.out]; exact Sps.nil _ _, HOO.out.trans HON.out⟩
    · have HF : Hid ([u, v].filter (fun x => decide (x.len ≠ 0)) = [v]) := Lib.hid (by simp [hu0, hv0])
      have HV := Lib.hid hv0
      go_wp2_with fail
      go_loopw [6, 5] (fun jv iv wr => ((jv = .int .i64 1 ∧ iv = .int .i64 0 ∧ Blk wr G 33 #[.int .i64 u.f, .int .i64 u.t, .int .i64 v.f, .int .i64 v.t]) ∨ (jv = .int .i64 2 ∧ iv = .int .i64 1 ∧ Blk wr G 33 #[.int .i64 v.f, .int .i64 v.t, .int .i64 v.f, .int .i64 v.t])) ∧ Only G w wr) (fun jv _ _ => 2 - (intOf jv).toNat)
      case atStart => exact ⟨.inl ⟨rfl, rfl, H2.out⟩, HO.out⟩
      case round =>
      obtain ⟨⟨rfl, rfl, hb⟩ | ⟨rfl, rfl, hb⟩, ho⟩ := hrel
      · have HBK := Lib.hid hb; have HOO := Lib.hid ho
        have c2 : wr.cell? ⟨G, 2, none⟩ = some (.int .i64 v.f) := hb.cell (i := 2) rfl
        have c3 : wr.cell? ⟨G, 3, none⟩ = some (.int .i64 v.t) := hb.cell (i := 3) rfl
        have hal := (Below.refl wr.heap.size wr).alloc (Nat.le_refl _) (.cells #[.int .i64 v.f, .int .i64 v.t] 33)
        have HA := Lib.hid hal
        have HK : Hid (Blk (wr.alloc (.cells #[.int .i64 v.f, .int .i64 v.t] 33)) wr.heap.size 33 #[.int .i64 v.f, .int .i64 v.t]) := Lib.hid (Blk.new _ _ _)
        obtain ⟨K, hK⟩ : ∃ K, K = wr.heap.size := ⟨_, rfl⟩
        have HKS := Lib.hid hK
        rw [← hK] at HK
        clear hb ho hal hK
        go_wp2_with fail
        rw [← HKS.out]
        change Calls Try.prog 57 #[v.val] _ _
        refine (isnone_c v _ hv).mono ?_
        rintro e w4 ⟨rfl, hb4⟩
        rw [decide_eq_false HV.out]
        have HB4 := Lib.hid (HA.out.trans (hb4.mono HA.out.size))
        have HK4 := HK.out.below hb4 HK.out.lt
        have HG4 := HBK.out.below HB4.out HBK.out.lt
        have k0 : w4.cell? ⟨K, 0, none⟩ = some (.int .i64 v.f) := HK4.cell (i := 0) rfl
        have k1 : w4.cell? ⟨K, 1, none⟩ = some (.int .i64 v.t) := HK4.cell (i := 1) rfl
        have d0 : w4.cell? ⟨G, 0, none⟩ = some (.int .i64 u.f) := HG4.cell (i := 0) rfl
        have d1 : w4.cell? ⟨G, 1, none⟩ = some (.int .i64 u.t) := HG4.cell (i := 1) rfl
        have fz := HG4.frozen
        have HGB := Lib.hid HG4
        have HO4 := Lib.hid (HOO.out.trans (Only.of_below HB4.out G))
        have HST : Hid (Blk ((w4.setCell ⟨G, 0, none⟩ (.int .i64 v.f)).setCell ⟨G, 1, none⟩ (.int .i64 v.t)) G 33 #[.int .i64 v.f, .int .i64 v.t, .int .i64 v.f, .int .i64 v.t]) := Lib.hid ((HG4.set 0 (.int .i64 v.f)).set 1 (.int .i64 v.t))
        clear hb4 HK4 HG4
        go_wp2_with fail
        go_roundw
        case rel => exact ⟨.inr ⟨rfl, rfl, HST.out⟩, (HO4.out.setCell (.inl rfl) _).setCell (.inl rfl) _⟩
        case measure => simp [intOf]
      · have hclr := run_clear_sps wr G 2 1 1 0 _ hb (by simp) (.inl rfl)
        have hct := clear_tail hb
        have HC := Lib.hid hct
        have HOO := Lib.hid ho
        clear hb ho hct
        go_wp2_with fail
        go_ret
        exact ⟨1, rfl, by rw [HF.out]; exact HC.out.1, HOO.out.trans HC.out.2⟩
  · by_cases hv0 : v.len = 0
    · have hk1 : k = 1 := by
        rcases hk with ⟨_, hk⟩ | ⟨i, x, rfl, hx, hz, hall⟩
        · exact absurd hv0 (hk v (by simp))
        · match i with
          | 0 => simp at hx; subst hx; exact absurd hz hu0
          | 1 => rfl
          | j + 2 => simp at hx
      subst hk1
      have HO := Lib.hid (Only.of_below hb2 G)
      have HF : Hid ([u, v].filter (fun x => decide (x.len ≠ 0)) = [u]) := Lib.hid (by simp [hu0, hv0])
      clear hk hb2
      go_wp2_with fail
      go_loopw [6, 5] (fun jv iv wr => jv = .int .i64 2 ∧ iv = .int .i64 1 ∧ Blk wr G 33 #[.int .i64 u.f, .int .i64 u.t, .int .i64 v.f, .int .i64 v.t] ∧ Only G w wr) (fun jv _ _ => 0)
      case atStart => exact ⟨rfl, rfl, H2.out, HO.out⟩
      case round =>
      obtain ⟨rfl, rfl, hb, ho⟩ := hrel
      have hclr := run_clear_sps wr G 2 1 1 0 _ hb (by simp) (.inl rfl)
      have hct := clear_tail hb
      have HC := Lib.hid hct
      have HOO := Lib.hid ho
      clear hb ho hct
      go_wp2_with fail
      go_ret
      exact ⟨1, rfl, by rw [HF.out]; exact HC.out.1, HOO.out.trans HC.out.2⟩
    · have hk2 : k = -1 := by
        rcases hk with ⟨hk, _⟩ | ⟨i, x, rfl, hx, hz, hall⟩
        · exact hk
        · match i with
          | 0 => simp at hx; subst hx; exact absurd hz hu0
          | 1 => simp at hx; subst hx; exact absurd hz hv0
          | j + 2 => simp at hx
      subst hk2
      clear hk
      have HF : Hid ([u, v].filter (fun x => decide (x.len ≠ 0)) = [u, v]) := Lib.hid (by simp [hu0, hv0])
      have HO := Lib.hid (HS.out.below hb2)
      have HB := Lib.hid hb2
      clear hb2
      go_wp2_with fail
      go_ret
      exact ⟨2, rfl, by rw [HF.out]; exact HO.out, Only.of_below HB.out G⟩
theorem delete_c' (G : Nat) (u v : Sp) (x1 x2 x3 x4 : Int) (w : World) (h : Blk w G 33 #[.int .i64 x1, .int .i64 x2, .int .i64 x3, .int .i64 x4]) (eu : u = ⟨x1, x2⟩) (ev : v = ⟨x3, x4⟩) (hu : u.small) (hv : v.small) :
    Calls Try.prog 56 #[.slice (some ⟨G, 0, none⟩) 2 2, .func (.func 57) #[] #[]] w fun e w' => ∃ m, e = .returned (.slice (some ⟨G, 0, none⟩) m 2) ∧ Sps w' (some ⟨G, 0, none⟩) m ([u, v].filter (fun x => decide (x.len ≠ 0))) ∧ Only G w w' := by
  subst eu; subst ev
  exact delete_c G _ _ w h hu hv
theorem rest_c (a b : Sp) (w : World) (ha : a.small) (hb : b.small) :
    Calls Try.prog 37 #[a.val, b.val] w fun e w' => ∃ A m c, e = .returned (.slice A m c) ∧ Sps w' A m (restL a b) ∧ (∀ g off, A = some ⟨g, off, none⟩ → w.heap.size ≤ g) ∧ Below w.heap.size w w' := by
  have HB := Lib.hid (fun cs => ((((Below.refl w.heap.size w).alloc (Nat.le_refl _) (.cells #[.int .i64 a.f, .int .i64 a.t] 33)).alloc (by simp) (.cells #[.int .i64 b.f, .int .i64 b.t] 33)).alloc (by simp; omega) (.cells cs 33)))
  have HK : Hid (∀ cs, Blk (((w.alloc (.cells #[.int .i64 a.f, .int .i64 a.t] 33)).alloc (.cells #[.int .i64 b.f, .int .i64 b.t] 33)).alloc (.cells cs 33)) (w.heap.size + 1 + 1) 33 cs) := Lib.hid (fun cs => by
    have := Blk.new ((w.alloc (.cells #[.int .i64 a.f, .int .i64 a.t] 33)).alloc (.cells #[.int .i64 b.f, .int .i64 b.t] 33)) 33 cs
    simpa using this)
  have hu : (⟨a.f, min a.t b.f⟩ : Sp).small := by unfold Sp.small at *; simp only; omega
  have hv : (⟨max a.f b.t, a.t⟩ : Sp).small := by unfold Sp.small at *; simp only; omega
  have HU := Lib.hid hu; have HV := Lib.hid hv
  unfold Sp.val
  clear hu hv ha hb
  go_enter Try.func37, Try.ntmps37
  go_wp2_with fail
  all_goals
    refine (delete_c' (w.heap.size + 1 + 1) ⟨a.f, min a.t b.f⟩ ⟨max a.f b.t, a.t⟩ _ _ _ _ _ (HK.out _) ?_ ?_ HU.out HV.out).mono ?_
    · exact Sp.ext' rfl (by simp only; omega)
    · exact Sp.ext' (by simp only; omega) rfl
    rintro e w2 ⟨m, rfl, hs, ho⟩
    have HS := Lib.hid hs
    have HB2 := Lib.hid ((HB.out _).trans (ho.below (B := w.heap.size) (HB.out _).size (by omega)))
    clear hs ho
    go_wp2_with fail
    go_ret
    exact ⟨_, m, 2, rfl, HS.out, fun g off e => by injection e with e; injection e with e1; omega, HB2.out⟩
end Go.Proofs.Ytlgpoaapmgcloaa
