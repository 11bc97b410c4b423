/- Contracts: spans. -/
import Derived.Test.YtlgpoaapmgcloaaSa
namespace Go.Proofs.Ytlgpoaapmgcloaa
open Go.RowKit
set_option linter.unusedSimpArgs false
set_option linter.unusedVariables false
set_option maxRecDepth 100000

def Sp.val (x : Sp) : Value := .agg #[.int .i64 x.f, .int .i64 x.t]
theorem none_c (p : Nat) (a : Option Addr) (n c : Nat) (w : World) (h : Blk w p 51 #[.slice a n c, .bool true]) : Calls Try.prog 26 #[.pointer (some ⟨p, 0, none⟩)] w fun e w' => e = .returned (.bool false) ∧ w = w' := by
  have c1 : w.cell? ⟨p, 1, none⟩ = some (.bool true) := h.cell (i := 1) rfl
  clear h
  go_enter Try.func26, Try.ntmps26
  go_wp2_with fail
  go_ret
  exact ⟨rfl, rfl⟩
theorem right_c (x : Sp) (w : World) : Calls Try.prog 23 #[x.val] w fun e w' => e = .returned (.bool x.right) ∧ Below w.heap.size w w' := by
  have HB := Lib.hid ((Below.refl w.heap.size w).alloc (Nat.le_refl _) (.cells #[.int .i64 x.f, .int .i64 x.t] 33))
  have HE : Hid (x.right = (decide (0 ≤ x.f) && decide (x.f ≤ x.t) && decide (x.t ≤ 4096))) := Lib.hid (by
    unfold Sp.right
    rw [Bool.eq_iff_iff]
    simp only [Bool.and_eq_true, decide_eq_true_eq]
    omega)
  rw [HE.out]
  unfold Sp.val
  by_cases h1 : 0 ≤ x.f
  rotate_left
  · go_enter Try.func23, Try.ntmps23
    go_wp2_with fail
    go_ret
    exact ⟨by simp; omega, HB.out⟩
  by_cases h2 : x.f ≤ x.t
  rotate_left
  · go_enter Try.func23, Try.ntmps23
    go_wp2_with fail
    go_ret
    exact ⟨by simp; omega, HB.out⟩
  by_cases h3 : x.t ≤ 4096
  rotate_left
  · go_enter Try.func23, Try.ntmps23
    go_wp2_with fail
    go_ret
    exact ⟨by simp; omega, HB.out⟩
  go_enter Try.func23, Try.ntmps23
  go_wp2_with fail
  go_ret
  exact ⟨by simp [h1, h2, h3], HB.out⟩
/-- A span whose ends are small. -/
def Sp.small (x : Sp) : Prop := (0 ≤ x.f ∧ x.f ≤ 4096) ∧ 0 ≤ x.t ∧ x.t ≤ 4096
theorem Sp.right_small {x : Sp} (h : x.right = true) : x.small := by
  unfold Sp.right at h; rw [decide_eq_true_eq] at h
  unfold Sp.small; omega
theorem both_small {a b : Sp} (ha : a.small) (hb : b.small) : (both a b).small := by
  unfold Sp.small both at *; simp only; omega
theorem Sp.len_le {x : Sp} (h : x.small) : 0 ≤ x.len ∧ x.len ≤ 4096 := by unfold Sp.small at h; unfold Sp.len; omega
theorem ret_int {a b : Int} (h : a = b) : Ending.returned (.int .i64 a) = Ending.returned (.int .i64 b) := by rw [h]
theorem ret_bool {a b : Bool} (h : a = b) : Ending.returned (.bool a) = Ending.returned (.bool b) := by rw [h]
theorem long_c (x : Sp) (w : World) (h : x.small) : Calls Try.prog 24 #[x.val] w fun e w' => e = .returned (.int .i64 x.len) ∧ Below w.heap.size w w' := by
  have HB := Lib.hid ((Below.refl w.heap.size w).alloc (Nat.le_refl _) (.cells #[.int .i64 x.f, .int .i64 x.t] 33))
  unfold Sp.small at h
  have e1 : wrap64 (x.t - x.f) = x.t - x.f := IntWalk.wrap64_in _ (by omega)
  unfold Sp.val
  clear h
  go_enter Try.func24, Try.ntmps24
  go_wp2_with fail
  all_goals
    go_ret
    exact ⟨ret_int (by unfold Sp.len; omega), HB.out⟩
theorem ret_span {a b c d : Int} (h : a = c) (h' : b = d) : Ending.returned (.agg #[.int .i64 a, .int .i64 b]) = Ending.returned (.agg #[.int .i64 c, .int .i64 d]) := by rw [h, h']
theorem results_c1 {P : Program} {fn : Func} {p : Tmp} {ty : TypeId} (h : fn.results = #[.cell p ty]) (tmps : Array Value) (w : World) (g : Nat) (t : TypeId) (cs : Array Value) (d : TypeDesc)
    (hp : tmps.getD p undef = .pointer (some ⟨g, 0, none⟩)) (hg : Blk w g t cs)
    (hu : P.underlying ty = some d) (hd : (match d with | .struct _ | .array _ _ => true | _ => false) = true) (hi : (P.info? ty).map (·.size) = some cs.size) :
    (results fn tmps).run P w = .ok (.agg cs) w := by
  have hp' : tmps[p]?.getD undef = .pointer (some ⟨g, 0, none⟩) := by simpa using hp
  simp [results, h, hp', asAddr, run_loadVar_row w g t ty cs (0, 0) d hg hu hd hi]
theorem both_c (a b : Sp) (w : World) : Calls Try.prog 38 #[a.val, b.val] w fun e w' => e = .returned (both a b).val ∧ Below w.heap.size w w' := by
  have HB := Lib.hid (fun cs => ((((Below.refl w.heap.size w).alloc (Nat.le_refl _) (.cells #[.int .i64 a.f, .int .i64 a.t] 33)).alloc (by simp) (.cells #[.int .i64 b.f, .int .i64 b.t] 33)).alloc (by simp; omega) (.cells cs 33)))
  have HK : Hid (∀ cs, Blk (((w.alloc (.cells #[.int .i64 a.f, .int .i64 a.t] 33)).alloc (.cells #[.int .i64 b.f, .int .i64 b.t] 33)).alloc (.cells cs 33)) (w.heap.size + 1 + 1) 33 cs) := Lib.hid (fun cs => by
    have := Blk.new ((w.alloc (.cells #[.int .i64 a.f, .int .i64 a.t] 33)).alloc (.cells #[.int .i64 b.f, .int .i64 b.t] 33)) 33 cs
    simpa using this)
  unfold Sp.val
  go_enter Try.func38, Try.ntmps38
  go_wp2_with fail
  all_goals
    refine bodyPost_ret (results_c1 rfl _ _ (w.heap.size + 1 + 1) 33 _ _ rfl (HK.out _) Try.underlying33 rfl info33) rfl ⟨ret_span (by unfold both; simp only; omega) (by unfold both; simp only; omega), HB.out _⟩
/-- Each is small. -/
def Smalls (l : List Sp) : Prop := ∀ x ∈ l, x.small
theorem sumG_take (g : Sp → Int) {l : List Sp} {i : Nat} {x : Sp} (hx : l[i]? = some x) : sumG g (l.take (i + 1)) = sumG g (l.take i) + g x := by
  rw [List.take_add_one, hx]; exact sumG_snoc g _ x
theorem sumG_bound (g : Sp → Int) (l : List Sp) (hg : ∀ x ∈ l, 0 ≤ g x ∧ g x ≤ 4096) : 0 ≤ sumG g l ∧ sumG g l ≤ 4096 * l.length := by
  induction l with
  | nil => exact ⟨Int.le_refl _, by simp [sumG_nil]⟩
  | cons a r ih =>
    have h1 := hg a (List.mem_cons_self ..)
    have h2 := ih (fun x hx => hg x (List.mem_cons_of_mem _ hx))
    rw [sumG_cons]
    simp only [List.length_cons]
    omega
theorem inone_c (a x : Sp) (X : Nat) (w : World) (ha : a.small) (hx : x.small) (h : Blk w X 33 #[.int .i64 x.f, .int .i64 x.t]) :
    Calls Try.prog 50 #[a.val, .pointer (some ⟨X, 0, none⟩)] w fun e w' => e = .returned (.int .i64 (both a x).len) ∧ Below w.heap.size w w' := by
  have hal := (Below.refl w.heap.size w).alloc (Nat.le_refl _) (.cells #[.int .i64 a.f, .int .i64 a.t] 33)
  have HB := Lib.hid hal
  have h1 := h.alloc (.cells #[.int .i64 a.f, .int .i64 a.t] 33)
  have c0 : (w.alloc (.cells #[.int .i64 a.f, .int .i64 a.t] 33)).cell? ⟨X, 0, none⟩ = some (.int .i64 x.f) := h1.cell (i := 0) rfl
  have c1 : (w.alloc (.cells #[.int .i64 a.f, .int .i64 a.t] 33)).cell? ⟨X, 1, none⟩ = some (.int .i64 x.t) := h1.cell (i := 1) rfl
  have hs := both_small ha hx
  have HS := Lib.hid hs
  unfold Sp.val
  clear hal h1 h ha hx hs
  go_enter Try.func50, Try.ntmps50
  go_wp2_with fail
  clear c0 c1
  change Calls Try.prog 38 #[a.val, x.val] _ _
  refine (both_c a x _).mono ?_
  rintro e w2 ⟨rfl, hb2⟩
  have HB2 := Lib.hid (HB.out.trans (hb2.mono HB.out.size))
  clear hb2
  unfold Sp.val
  go_wp2_with fail
  change Calls Try.prog 24 #[(both a x).val] _ _
  refine (long_c (both a x) _ HS.out).mono ?_
  rintro e w3 ⟨rfl, hb3⟩
  have HB3 := Lib.hid (HB2.out.trans (hb3.mono HB2.out.size))
  clear hb3
  go_wp2_with fail
  go_ret
  exact ⟨rfl, HB3.out⟩
set_option maxHeartbeats 1000000 in
theorem sumin_c (a : Option Addr) (n c : Nat) (l : List Sp) (x0 : Sp) (X : Nat) (w : World) (h : Sps w a n l) (hn : n ≤ 1000000) (hl : Smalls l) (hx0 : x0.small) (hX : Blk w X 33 #[.int .i64 x0.f, .int .i64 x0.t]) :
    Calls Try.prog 35 #[.slice a n c, .func (.func 50) #[] #[.pointer (some ⟨X, 0, none⟩)]] w fun e w' => e = .returned (.int .i64 (sumG (fun a => (both a x0).len) l)) ∧ Below w.heap.size w w' := by
  have H := Lib.hid h
  have HSM := Lib.hid hl
  have hll := h.1
  have HX0 := Lib.hid hX; clear hX
  clear h hl
  go_enter Try.func35, Try.ntmps35
  go_wp2_with fail
  go_loopw [9, 4] (fun iv sv wr => ∃ i : Nat, i ≤ n ∧ iv = .int .i64 (i : Int) ∧ sv = .int .i64 (sumG (fun a => (both a x0).len) (l.take i)) ∧ Below w.heap.size w wr) (fun iv _ _ => n - (intOf iv).toNat)
  case atStart => exact ⟨0, Nat.zero_le _, rfl, rfl, Below.refl _ _⟩
  case round =>
  obtain ⟨i, hi, rfl, rfl, hb⟩ := hrel
  by_cases hlt : i < n
  · obtain ⟨x, hx⟩ : ∃ x, l[i]? = some x := ⟨l[i]'(by omega), List.getElem?_eq_getElem _⟩
    have HX := Lib.hid hx
    have hxs := HSM.out x (List.mem_of_getElem? hx)
    obtain ⟨g, off, rfl, hg, c0, c1⟩ := (H.out.below hb).2 i x hx
    have hal := hb.alloc hb.size (.cells #[.int .i64 x.f, .int .i64 x.t] 33)
    have HB := Lib.hid hal
    have HXX := Lib.hid (HX0.out.below hal HX0.out.lt)
    have hsb := sumG_bound (fun a => (both a x0).len) (l.take i) (fun y hy => Sp.len_le (both_small (HSM.out y (List.mem_of_mem_take hy)) hx0))
    rw [List.length_take] at hsb
    have HXS := Lib.hid hxs
    obtain ⟨s, hs⟩ : ∃ s, s = sumG (fun a => (both a x0).len) (l.take i) := ⟨_, rfl⟩
    have HS := Lib.hid hs
    rw [← hs] at hsb ⊢
    clear hx hb hal hs hxs
    go_wp2_with fail
    generalize wr.alloc (.cells #[.int .i64 x.f, .int .i64 x.t] 33) = w2 at *
    change Calls Try.prog 50 #[x.val, .pointer (some ⟨X, 0, none⟩)] w2 _
    refine (inone_c x x0 X w2 HXS.out hx0 HXX.out).mono ?_
    rintro e w3 ⟨rfl, hb3⟩
    obtain ⟨y, hy⟩ : ∃ y, y = (both x x0).len := ⟨_, rfl⟩
    have HY := Lib.hid hy
    have hyb : 0 ≤ y ∧ y ≤ 4096 := by rw [hy]; exact (fun y hy => Sp.len_le (both_small (HSM.out y (hy)) hx0)) x (List.mem_of_getElem? HX.out)
    have e1 : wrap64 (s + y) = s + y := IntWalk.wrap64_in _ (by omega)
    have HB3 := Lib.hid (HB.out.trans (hb3.mono HB.out.size))
    rw [← hy]
    clear hy hb3
    go_wp2_with fail
    go_roundw
    case rel =>
      refine ⟨i + 1, by omega, by go_num, ?_, HB3.out⟩
      rw [sumG_take (fun a => (both a x0).len) HX.out, ← HS.out, ← HY.out]
    case measure => simp [intOf]; omega
  obtain rfl : i = n := by omega
  have HE : Hid (sumG (fun a => (both a x0).len) (l.take i) = sumG (fun a => (both a x0).len) l) := Lib.hid (by rw [List.take_of_length_le (by omega)])
  have HB := Lib.hid hb
  clear hb
  go_wp2_with fail
  go_ret
  exact ⟨ret_int HE.out, HB.out⟩
set_option maxHeartbeats 1000000 in
theorem sumlen_c (a : Option Addr) (n c : Nat) (l : List Sp)  (w : World) (h : Sps w a n l) (hn : n ≤ 1000000) (hl : Smalls l)  :
    Calls Try.prog 35 #[.slice a n c, .func (.func 24) #[] #[]] w fun e w' => e = .returned (.int .i64 (sumG Sp.len l)) ∧ Below w.heap.size w w' := by
  have H := Lib.hid h
  have HSM := Lib.hid hl
  have hll := h.1
  skip
  clear h hl
  go_enter Try.func35, Try.ntmps35
  go_wp2_with fail
  go_loopw [9, 4] (fun iv sv wr => ∃ i : Nat, i ≤ n ∧ iv = .int .i64 (i : Int) ∧ sv = .int .i64 (sumG Sp.len (l.take i)) ∧ Below w.heap.size w wr) (fun iv _ _ => n - (intOf iv).toNat)
  case atStart => exact ⟨0, Nat.zero_le _, rfl, rfl, Below.refl _ _⟩
  case round =>
  obtain ⟨i, hi, rfl, rfl, hb⟩ := hrel
  by_cases hlt : i < n
  · obtain ⟨x, hx⟩ : ∃ x, l[i]? = some x := ⟨l[i]'(by omega), List.getElem?_eq_getElem _⟩
    have HX := Lib.hid hx
    have hxs := HSM.out x (List.mem_of_getElem? hx)
    obtain ⟨g, off, rfl, hg, c0, c1⟩ := (H.out.below hb).2 i x hx
    have hal := hb.alloc hb.size (.cells #[.int .i64 x.f, .int .i64 x.t] 33)
    have HB := Lib.hid hal
    skip
    have hsb := sumG_bound Sp.len (l.take i) (fun y hy => Sp.len_le (HSM.out y (List.mem_of_mem_take hy)))
    rw [List.length_take] at hsb
    have HXS := Lib.hid hxs
    obtain ⟨s, hs⟩ : ∃ s, s = sumG Sp.len (l.take i) := ⟨_, rfl⟩
    have HS := Lib.hid hs
    rw [← hs] at hsb ⊢
    clear hx hb hal hs hxs
    go_wp2_with fail
    generalize wr.alloc (.cells #[.int .i64 x.f, .int .i64 x.t] 33) = w2 at *
    change Calls Try.prog 24 #[x.val] w2 _
    refine (long_c x w2 HXS.out).mono ?_
    rintro e w3 ⟨rfl, hb3⟩
    obtain ⟨y, hy⟩ : ∃ y, y = x.len := ⟨_, rfl⟩
    have HY := Lib.hid hy
    have hyb : 0 ≤ y ∧ y ≤ 4096 := by rw [hy]; exact (fun y hy => Sp.len_le (HSM.out y (hy))) x (List.mem_of_getElem? HX.out)
    have e1 : wrap64 (s + y) = s + y := IntWalk.wrap64_in _ (by omega)
    have HB3 := Lib.hid (HB.out.trans (hb3.mono HB.out.size))
    rw [← hy]
    clear hy hb3
    go_wp2_with fail
    go_roundw
    case rel =>
      refine ⟨i + 1, by omega, by go_num, ?_, HB3.out⟩
      rw [sumG_take Sp.len HX.out, ← HS.out, ← HY.out]
    case measure => simp [intOf]; omega
  obtain rfl : i = n := by omega
  have HE : Hid (sumG Sp.len (l.take i) = sumG Sp.len l) := Lib.hid (by rw [List.take_of_length_le (by omega)])
  have HB := Lib.hid hb
  clear hb
  go_wp2_with fail
  go_ret
  exact ⟨ret_int HE.out, HB.out⟩
theorem among_c (p : Nat) (l : List Sp) (a : Option Addr) (c : Nat) (x : Sp) (w : World) (h : IsSet w p l a c) (hn : l.length ≤ 1000000) (hl : Smalls l) (hx : x.small) :
    Calls Try.prog 30 #[.pointer (some ⟨p, 0, none⟩), x.val] w fun e w' => e = .returned (.int .i64 (among l x)) ∧ Below w.heap.size w w' := by
  have hal := (Below.refl w.heap.size w).alloc (Nat.le_refl _) (.cells #[.int .i64 x.f, .int .i64 x.t] 33)
  have HB := Lib.hid hal
  have h1 := h.below hal
  have HX := Lib.hid (Blk.new w 33 #[.int .i64 x.f, .int .i64 x.t])
  have HR := Lib.hid h1.row
  obtain ⟨m, hm⟩ : ∃ m, m = l.length := ⟨_, rfl⟩
  have hb1 := h1.blk
  rw [← hm] at hb1
  have c0 : (w.alloc (.cells #[.int .i64 x.f, .int .i64 x.t] 33)).cell? ⟨p, 0, none⟩ = some (.slice a m c) := hb1.cell (i := 0) rfl
  have HM := Lib.hid hm
  unfold Sp.val
  clear hal h1 h hb1 hm
  go_enter Try.func30, Try.ntmps30
  go_wp2_with fail
  clear c0
  have hr := HR.out
  rw [← HM.out] at hr
  refine (sumin_c a m c l x w.heap.size _ hr (by rw [HM.out]; exact hn) hl hx HX.out).mono ?_
  rintro e w2 ⟨rfl, hb2⟩
  have HB2 := Lib.hid (HB.out.trans (hb2.mono HB.out.size))
  clear hb2 hr
  go_wp2_with fail
  go_ret
  exact ⟨rfl, HB2.out⟩
theorem many_c (p : Nat) (l : List Sp) (a : Option Addr) (c : Nat) (w : World) (h : IsSet w p l a c) (hn : l.length ≤ 1000000) (hl : Smalls l) :
    Calls Try.prog 11 #[.pointer (some ⟨p, 0, none⟩)] w fun e w' => e = .returned (.int .i64 (sumG Sp.len l)) ∧ Below w.heap.size w w' := by
  have H := Lib.hid h
  obtain ⟨m, hm⟩ : ∃ m, m = l.length := ⟨_, rfl⟩
  have hb1 := h.blk
  rw [← hm] at hb1
  have HK := Lib.hid hb1
  have c0 : w.cell? ⟨p, 0, none⟩ = some (.slice a m c) := hb1.cell (i := 0) rfl
  have HM := Lib.hid hm
  clear h hb1 hm
  go_enter Try.func11, Try.ntmps11
  go_wp2_with fail
  refine (none_c p a m c _ HK.out).mono ?_
  rintro e w' ⟨rfl, rfl⟩
  go_wp2_with fail
  have hr := H.out.row
  rw [← HM.out] at hr
  refine (sumlen_c a m c l _ hr (by rw [HM.out]; exact hn) hl).mono ?_
  rintro e w2 ⟨rfl, hb2⟩
  have HB2 := Lib.hid hb2
  clear hb2 hr
  go_wp2_with fail
  go_ret
  exact ⟨rfl, HB2.out⟩
end Go.Proofs.Ytlgpoaapmgcloaa
