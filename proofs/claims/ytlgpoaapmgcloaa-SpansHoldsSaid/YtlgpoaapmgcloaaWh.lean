/- Contracts: a reader: what it takes, what it gives up with. -/
import Derived.Test.YtlgpoaapmgcloaaWg
import Derived.Test.YtlgpoaapmgcloaaSl
import Derived.Defers
import Derived.Recover
namespace Go.Proofs.Ytlgpoaapmgcloaa
open Go.RowKit
set_option linter.unusedSimpArgs false
set_option linter.unusedVariables false
set_option maxRecDepth 100000

/-- What is given up with. -/
def gaveUp : List PanicEntry := [{ v := .iface 85 (.agg #[]), recovered := false }]
theorem must_yes (w : World) : Calls Try.prog 44 #[.bool true] w fun e w' => e = .returned (.tuple #[]) ∧ w = w' := by
  go_enter Try.func44, Try.ntmps44
  go_wp2
  go_end0
  exact ⟨rfl, rfl⟩
theorem must_no (w : World) : Calls Try.prog 44 #[.bool false] w fun e w' => e = .panicked gaveUp ∧ w = w' := by
  go_enter Try.func44, Try.ntmps44
  go_wp2
  exact ⟨rfl, rfl, rfl⟩

/-- A reader at block p. -/
def IsRd (w : World) (p : Nat) (s : RS) : Prop := ∃ a c, Blk w p 70 #[.slice a s.l.length c, .int .i64 s.e, .bool true] ∧ Bys w a s.l.length s.l ∧ s.l.length ≤ c ∧ ∀ x, a = some x → 0 < s.l.length → x.block < p
theorem IsRd.lt {w : World} {p : Nat} {s : RS} (h : IsRd w p s) : p < w.heap.size := by obtain ⟨_, _, h, _⟩ := h; exact h.lt
theorem IsRd.below {w w' : World} {p : Nat} {s : RS} (h : IsRd w p s) (hb : Below w.heap.size w w') : IsRd w' p s := by
  obtain ⟨a, c, h1, h2, h3⟩ := h
  exact ⟨a, c, h1.below hb h1.lt, h2.below hb, h3⟩
/-- The reader's bytes do not lie in its block. -/
theorem rd_apart {w : World} {p : Nat} {a0 : Option Addr} {n0 c0 : Nat} {x : Int} {a : Option Addr} {n : Nat} {l : List By} (hb : Blk w p 70 #[.slice a0 n0 c0, .int .i64 x, .bool true]) (hl : Bys w a n l) :
    ∀ g off, a = some ⟨g, off, none⟩ → 0 < n → g ≠ p := by
  intro g off e h0 hg
  subst hg
  obtain ⟨g', off', e', _, hc⟩ := hl.cells h0
  rw [e] at e'
  injection e' with e'
  injection e' with e1 e2
  subst e1; subst e2
  obtain ⟨y, hy⟩ : ∃ y, l[0]? = some y := ⟨l[0]'(by rw [hl.1]; exact h0), List.getElem?_eq_getElem _⟩
  have h1 := hc 0 y hy
  have h2 : w.cell? ⟨g, off + 0, none⟩ = (#[Value.slice a0 n0 c0, .int .i64 x, .bool true] : Array Value)[off + 0]? := by
    unfold Blk at hb; simp [World.cell?, hb]
  rw [h2] at h1
  rcases (by omega : off = 0 ∨ off = 1 ∨ off = 2 ∨ 3 ≤ off) with rfl | rfl | rfl | h3
  · simp at h1
  · simp at h1
  · simp at h1
  · rw [Array.getElem?_eq_none (by simp; omega)] at h1; cases h1
theorem IsRd.tch {S : Nat → Prop} {w w' : World} {p : Nat} {s : RS} (h : IsRd w p s) (ht : Tch S w w') (hs : ∀ i, i < w.heap.size → ¬ S i) : IsRd w' p s := by
  obtain ⟨a, c, h1, h2, h3⟩ := h
  refine ⟨a, c, ht.blk h1 (hs _ h1.lt), ht.bys h2 (fun g off e hn => ?_), h3⟩
  obtain ⟨g', off', e', hg, _⟩ := h2.cells hn
  rw [e] at e'
  injection e' with e'
  injection e' with e1 e2
  subst e1
  exact hs _ hg
/-- Other bytes are put into the reader. -/
theorem IsRd.put {w : World} {p : Nat} {s : RS} (h : IsRd w p s) {a : Option Addr} {n c : Nat} {l : List By} (hl : Bys w a n l) (hc : n ≤ c) (hf : ∀ x, a = some x → 0 < n → x.block < p) : IsRd (w.setCell ⟨p, 0, none⟩ (.slice a n c)) p ⟨l, s.e⟩ := by
  obtain ⟨a0, c0, h1, h2, h3⟩ := h
  obtain rfl : n = l.length := hl.1.symm
  exact ⟨a, c, h1.set 0 _, ((Tch.refl (fun i => i = p) w).setCell (.inl rfl) _).bys hl (rd_apart h1 hl), hc, hf⟩
theorem IsRd.err {w : World} {p : Nat} {s : RS} (h : IsRd w p s) (e : Int) : IsRd (w.setCell ⟨p, 1, none⟩ (.int .i64 e)) p ⟨s.l, e⟩ := by
  obtain ⟨a0, c0, h1, h2, h3⟩ := h
  exact ⟨a0, c0, h1.set 1 _, ((Tch.refl (fun i => i = p) w).setCell (.inl rfl) _).bys h2 (rd_apart h1 h2), h3⟩

theorem slice_low2 (a : Option Addr) (n c i : Nat) (hin : i ≤ n) (hnc : n ≤ c) (hnil : a = none → n = 0) :
    ∃ A C, (∀ W, (Instr.sliceAt 23 (.slice a n c) (some (.int .i64 (i : Int))) none none).run Try.prog W = .ok (.slice A (n - i) C) W) ∧ n - i ≤ C ∧ (∀ W l, Bys W a n l → Bys W A (n - i) (l.drop i)) ∧ ∀ X, A = some X → ∃ x, a = some x ∧ X.block = x.block := by
  have q1 : ¬ (n : Int) < (i : Int) := by omega
  have q2 : (i : Int) ≤ n := by omega
  cases a with
  | none =>
    have hn0 := hnil rfl
    subst hn0
    obtain rfl : i = 0 := by omega
    refine ⟨none, c, fun W => ?_, by omega, fun W l h => ?_, fun X e => by cases e⟩
    · go_simp
    · have := List.eq_nil_of_length_eq_zero h.1
      subst this
      exact Bys.nil
  | some x =>
    by_cases hic : c = i
    · obtain rfl : n = i := by omega
      subst hic
      refine ⟨some x, c - c, fun W => ?_, by omega, fun W l h => ?_, fun X e => ⟨x, rfl, by injection e with e; rw [e]⟩⟩
      · go_simp
      · refine ⟨by simp [h.1], fun k d hk => ?_⟩
        have := (List.getElem?_eq_some_iff.1 hk).1
        simp [h.1] at this
    · refine ⟨some (x.add i), c - i, fun W => ?_, by omega, fun W l h => ?_, fun X e => ⟨x, rfl, by injection e with e; rw [← e]; unfold Addr.add; split <;> rfl⟩⟩
      · have hcc : c - i ≠ 0 := by omega
        go_simp
      · exact h.drop i (by omega)

/-! ### take -/
set_option maxHeartbeats 1000000 in
theorem take_no (p : Nat) (s : RS) (n : Nat) (w : World) (h : IsRd w p s) (hn : s.l.length < n) :
    Calls Try.prog 60 #[.pointer (some ⟨p, 0, none⟩), .int .i64 (n : Int)] w fun e w' => e = .panicked gaveUp ∧ w = w' := by
  obtain ⟨a, c, h1, h2, h3⟩ := h
  have c0 := h1.cell (i := 0) rfl
  generalize s.l.length = m at *
  have r1 : ¬ (n ≤ m) := by omega
  clear h1 h2 h3 hn
  go_enter Try.func60, Try.ntmps60
  go_wp2_with fail
  have r2 : decide (n ≤ m) = false := decide_eq_false r1
  try rw [r2]
  refine (must_no _).mono ?_
  rintro e w' ⟨rfl, rfl⟩
  exact ⟨rfl, rfl, rfl⟩
set_option maxHeartbeats 1000000 in
theorem take_ok (p : Nat) (s : RS) (n : Nat) (w : World) (h : IsRd w p s) (hn : n ≤ s.l.length) :
    Calls Try.prog 60 #[.pointer (some ⟨p, 0, none⟩), .int .i64 (n : Int)] w fun e w' => ∃ A C, e = .returned (.slice A n C) ∧ Bys w' A n (s.l.take n) ∧ n ≤ C ∧ IsRd w' p ⟨s.l.drop n, s.e⟩ ∧ Only p w w' := by
  have H := Lib.hid h
  obtain ⟨a, c, h1, h2, h3⟩ := h
  have c0 := h1.cell (i := 0) rfl
  have f0 := h1.frozen 0
  have hnil : a = none → s.l.length = 0 := by
    rintro rfl
    rcases Nat.eq_zero_or_pos s.l.length with e | e
    · exact e
    · obtain ⟨g, off, e', _⟩ := h2.cells e; cases e'
  obtain ⟨A, C, hrun, hAC, hA, hAF⟩ := slice_low2 a s.l.length c n hn h3.1 hnil
  have HF : Hid (∀ X, A = some X → 0 < s.l.length → X.block < p) := Lib.hid (fun X e h0 => by obtain ⟨x, e1, e2⟩ := hAF X e; rw [e2]; exact h3.2 x e1 h0)
  clear hAF
  replace h3 := h3.1
  have HA := Lib.hid hA
  have H1 := Lib.hid h1
  have H2 := Lib.hid h2
  obtain ⟨m, hm⟩ : ∃ m, m = s.l.length := ⟨_, rfl⟩
  rw [← hm] at c0 hn hnil hrun hAC h3
  have HM := Lib.hid hm
  have k2 : ¬ c < n := by omega
  have r1 : n ≤ m := hn
  clear hA h1 h2 hm hnil
  go_enter Try.func60, Try.ntmps60
  go_wp2_with fail
  refine (must_yes _).mono ?_
  rintro e w' ⟨rfl, rfl⟩
  go_wp2_with fail
  go_ret
  have hb2 := HA.out w s.l H2.out
  have hi := H.out.put hb2 (by rw [← HM.out]; exact hAC) (fun X e h0 => HF.out X e (by omega))
  rw [← HM.out] at hi
  refine ⟨a, c, rfl, ?_, by omega, hi, (Only.refl p w).setCell (.inl rfl) _⟩
  exact ((Tch.refl (fun i => i = p) w).setCell (.inl rfl) _).bys (H2.out.take n (by rw [← HM.out]; exact r1)) (fun g off e hn => rd_apart H1.out H2.out g off e (by have := HM.out; omega))

/-! ### number -/
/-- A number can be taken. -/
def canNum (s : RS) (most : Int) : Bool := decide (0 < (takeB s.l).2) && decide (((takeB s.l).1 : Int) ≤ most)
set_option maxHeartbeats 1000000 in
theorem number_no (p : Nat) (s : RS) (most : Int) (w : World) (h : IsRd w p s) (hl : s.l.length ≤ 1000000000) (hc : canNum s most = false) :
    Calls Try.prog 42 #[.pointer (some ⟨p, 0, none⟩), .int .i64 most] w fun e w' => e = .panicked gaveUp ∧ w = w' := by
  obtain ⟨a, c, h1, h2, h3⟩ := h
  have c0 := h1.cell (i := 0) rfl
  have H2 := Lib.hid h2
  clear h1 h2
  unfold canNum at hc
  obtain ⟨k, hk⟩ : ∃ k, k = (takeB s.l).2 := ⟨_, rfl⟩
  obtain ⟨x, hx⟩ : ∃ x, x = (takeB s.l).1 := ⟨_, rfl⟩
  rw [← hk, ← hx] at hc
  have HK := Lib.hid hk; have HX := Lib.hid hx; have HC := Lib.hid hc
  clear hk hx hc
  go_enter Try.func42, Try.ntmps42
  go_wp2_with fail
  refine (taken_c a _ c s.l _ H2.out hl).mono ?_
  rintro e w' ⟨rfl, rfl⟩
  rw [← HK.out, ← HX.out]
  by_cases k0 : 0 < k
  · have hc := HC.out
    rw [decide_eq_true k0, Bool.true_and] at hc
    have r1 : ¬ (x : Int) ≤ most := of_decide_eq_false hc
    clear hc
    have r2 : decide ((x : Int) ≤ most) = false := decide_eq_false r1
    go_wp2_with fail
    refine (must_no _).mono ?_
    rintro e w' ⟨rfl, rfl⟩
    exact ⟨rfl, rfl, rfl⟩
  · go_wp2_with fail
    refine (must_no _).mono ?_
    rintro e w' ⟨rfl, rfl⟩
    exact ⟨rfl, rfl, rfl⟩
set_option maxHeartbeats 1000000 in
theorem number_ok (p : Nat) (s : RS) (most : Int) (w : World) (h : IsRd w p s) (hl : s.l.length ≤ 1000000000) (hc : canNum s most = true) :
    Calls Try.prog 42 #[.pointer (some ⟨p, 0, none⟩), .int .i64 most] w fun e w' => e = .returned (.int .i64 ((takeB s.l).1 : Int)) ∧ IsRd w' p ⟨s.l.drop (takeB s.l).2.toNat, s.e⟩ ∧ Only p w w' := by
  have H := Lib.hid h
  obtain ⟨a, c, h1, h2, h3⟩ := h
  have c0 := h1.cell (i := 0) rfl
  have H2 := Lib.hid h2
  clear h1 h2
  unfold canNum at hc
  rw [Bool.and_eq_true, decide_eq_true_eq, decide_eq_true_eq] at hc
  have hb := takeB_bound s.l
  obtain ⟨k, hk⟩ : ∃ k : Nat, k = (takeB s.l).2.toNat := ⟨_, rfl⟩
  have hk2 : (takeB s.l).2 = (k : Int) := by omega
  obtain ⟨x, hx⟩ : ∃ x, x = (takeB s.l).1 := ⟨_, rfl⟩
  have hkl : k ≤ s.l.length := by omega
  rw [hk2, ← hx] at hc
  have HK := Lib.hid hk; have HX := Lib.hid hx; have HK2 := Lib.hid hk2
  have r0 : 0 < k := by omega
  have r1 : (x : Int) ≤ most := hc.2
  clear hk hx hc hk2 hb
  rw [← HK.out, ← HX.out]
  go_enter Try.func42, Try.ntmps42
  go_wp2_with fail
  refine (taken_c a _ c s.l _ H2.out hl).mono ?_
  rintro e w' ⟨rfl, rfl⟩
  rw [← HX.out, HK2.out]
  go_wp2_with fail
  refine (must_yes _).mono ?_
  rintro e w' ⟨rfl, rfl⟩
  go_wp2_with fail
  refine (take_ok p s k _ H.out hkl).mono ?_
  rintro e w' ⟨A, C, rfl, _, _, hi, hO⟩
  have HI := Lib.hid hi; have HO := Lib.hid hO
  clear hi hO
  go_wp2_with fail
  go_ret
  exact ⟨rfl, HI.out, HO.out⟩

/-! ### Read, Left -/
set_option maxHeartbeats 1000000 in
theorem read_c (a : Option Addr) (n c : Nat) (l : List By) (w : World) (h : Bys w a n l) (hn : n ≤ 1000000000) :
    Calls Try.prog 19 #[.slice a n c] w fun e w' => ∃ p, e = .returned (.pointer (some ⟨p, 0, none⟩)) ∧ w.heap.size ≤ p ∧ IsRd w' p ⟨l, 0⟩ ∧ Below w.heap.size w w' := by
  go_enter Try.func19, Try.ntmps19
  go_wp2_with fail
  refine (clone_c a n c l _ h hn).mono ?_
  rintro e w1 ⟨v, rfl, ho, hb⟩
  obtain ⟨a1, c1, rfl, hc1, hy⟩ := ho.bys
  obtain ⟨m, hm⟩ : ∃ m, m = l.length := ⟨_, rfl⟩
  rw [← hm] at hy hc1 ⊢
  have HY := Lib.hid hy; have HB := Lib.hid hb; have HM := Lib.hid hm
  have hz := hb.size
  clear hy hb ho hm
  go_wp2_with fail
  go_ret
  refine ⟨w1.heap.size, rfl, hz, ⟨a1, c1, ?_, ?_, ?_, ?_⟩, HB.out.alloc hz _⟩
  · rw [← HM.out]; exact Blk.new _ _ _
  · rw [← HM.out]; exact HY.out.below ((Below.refl _ _).alloc (Nat.le_refl _) _)
  · rw [← HM.out]; exact hc1
  · rw [← HM.out]; intro X e h0; obtain ⟨g', off', e', hg', _⟩ := HY.out.cells h0; rw [e] at e'; injection e' with e'; rw [e']; exact hg'
end Go.Proofs.Ytlgpoaapmgcloaa

