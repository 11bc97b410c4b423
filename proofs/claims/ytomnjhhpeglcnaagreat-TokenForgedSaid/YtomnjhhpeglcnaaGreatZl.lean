/- Contracts: a reader's door. Contracts: a reader tries something. Contracts: a reader's Number. -/
import Derived.Test.YtomnjhhpeglcnaaGreatZk
import Derived.Deep.Cut
namespace Go.Proofs.YtomnjhhpeglcnaaGreat
open Go.RowKit
set_option linter.unusedSimpArgs false
set_option linter.unusedVariables false
set_option maxRecDepth 100000

theorem catch_idle (b1 b2 : Nat) (w : World) :
    CallsD Tryz.prog 69 #[.pointer (some ⟨b1, 0, none⟩), .pointer (some ⟨b2, 0, none⟩)] .returning w fun e u' w' => e = .returned (.tuple #[]) ∧ u' = .returning ∧ w' = w := by
  refine callsD_of_wpS Tryz.func69 rfl fun c₀ cs hu => ?_
  simp only [Tryz.ntmps69, List.size_toArray, List.length_cons, List.length_nil, Nat.reduceAdd, Nat.reduceSub, Array.replicate_succ, Array.replicate_zero, List.push_toArray, List.append_toArray, List.nil_append, List.cons_append]
  apply wpS_seq
  apply wpS_region
  simp [wpOpsS, go_sem, recoverD, hu, Exit.thenS]
  refine wpS_of_wp ?_
  go_wp2
  cases c₀
  simp_all [bodyPostS, results, Tryz.results69]
theorem catch_caught (p b1 b2 : Nat) (s : RS) (x : Int) (older : List PanicEntry) (w : World) (h : IsRd w p s) (hb : w.cell? ⟨b1, 0, none⟩ = some (.pointer (some ⟨p, 0, none⟩))) (hx : Blk w b2 32 #[.int .i64 x]) :
    CallsD Tryz.prog 69 #[.pointer (some ⟨b1, 0, none⟩), .pointer (some ⟨b2, 0, none⟩)] (.panicking ({ v := .iface 121 (.agg #[]), recovered := false } :: older)) w fun e u' w' =>
      e = .returned (.tuple #[]) ∧ u' = .panicking ({ v := .iface 121 (.agg #[]), recovered := true } :: older) ∧ IsRd w' p RS.fail ∧ Blk w' b2 32 #[.int .i64 120] ∧ Tch (fun i => i = p ∨ i = b2) w w' := by
  obtain ⟨a, c, h1, h2, h3⟩ := h
  have hta : ∀ W, (Instr.typeAssert (.iface 121 (.agg #[])) 20 121 true).run Tryz.prog W = .ok (.tuple #[.agg #[], .bool true]) W := fun _ => by kernel_rfl
  have f0 := h1.frozen 0
  have f1 := h1.frozen 1
  have c0 : w.cell? ⟨p, 0, none⟩ = some (.slice a s.l.length c) := h1.cell (i := 0) rfl
  have c1 : w.cell? ⟨p, 1, none⟩ = some (.int .i64 s.e) := h1.cell (i := 1) rfl
  have g0 : w.cell? ⟨b2, 0, none⟩ = some (.int .i64 x) := hx.cell (i := 0) rfl
  have g1 := hx.frozen 0
  have l1 : b1 < w.heap.size := cell_lt hb
  have l2 : b2 < w.heap.size := hx.lt
  have l3 : p < w.heap.size := h1.lt
  refine callsD_of_wpS Tryz.func69 rfl fun c₀ cs hu => ?_
  simp only [Tryz.ntmps69, List.size_toArray, List.length_cons, List.length_nil, Nat.reduceAdd, Nat.reduceSub, Array.replicate_succ, Array.replicate_zero, List.push_toArray, List.append_toArray, List.nil_append, List.cons_append]
  apply wpS_seq
  apply wpS_region
  simp [wpOpsS, go_sem, recoverD, hu, Exit.thenS]
  refine wpS_of_wp ?_
  have HA := Lib.hid ((Below.refl w.heap.size w).alloc (Nat.le_refl _) (.cells #[] 121))
  have hb' := cell_al hb (.cells #[] 121)
  have H1 := Lib.hid (h1.alloc (.cells #[] 121))
  have HX := Lib.hid (hx.alloc (.cells #[] 121))
  have H2 := Lib.hid (h2.below HA.out)
  have n1 : p ≠ b2 := by
    rintro rfl
    unfold Blk at h1 hx
    rw [h1] at hx
    cases hx
  have n2 : b2 ≠ p := n1.symm
  have H3 := Lib.hid h3
  clear h1 h2 hx h3
  have N := Lib.hid n1
  go_upto_region 7 with (fail)
  generalize (w.alloc (.cells #[] 121)) = w1 at hb' H1 HX H2 HA ⊢
  have f0' := H1.out.frozen 0
  have f1' := H1.out.frozen 1
  have c0' : w1.cell? ⟨p, 0, none⟩ = some (.slice a s.l.length c) := H1.out.cell (i := 0) rfl
  have c1' : w1.cell? ⟨p, 1, none⟩ = some (.int .i64 s.e) := H1.out.cell (i := 1) rfl
  have g0' : w1.cell? ⟨b2, 0, none⟩ = some (.int .i64 x) := HX.out.cell (i := 0) rfl
  have g1' := HX.out.frozen 0
  clear l1 l2 l3 hta
  go_wp2
  cases c₀
  refine ⟨rfl, _, rfl, _, results_none rfl _ _ _, rfl, rfl, ⟨none, 0, ?_, Bys.nil, Nat.le_refl _⟩, ?_, ?_⟩
  · exact ((H1.out.set 0 (.slice none 0 0)).set 1 (.int .i64 120)).far N.out _
  · exact ((HX.out.far (p := ⟨p, 0, none⟩) N.out.symm _).far (p := ⟨p, 1, none⟩) N.out.symm _).set 0 _
  · exact (((Tch.of_below HA.out (Nat.le_refl _) _).setCell (.inl (.inl rfl)) _).setCell (.inl (.inl rfl)) _).setCell (.inl (.inr rfl)) _
end Go.Proofs.YtomnjhhpeglcnaaGreat

namespace Go.Proofs.YtomnjhhpeglcnaaGreat
open Go.RowKit
set_option linter.unusedSimpArgs false
set_option linter.unusedVariables false
set_option maxRecDepth 100000

/-- A cell for an error at block b. -/
def ErrAt (w : World) (b : Nat) (x : Int) : Prop := Blk w b 32 #[.int .i64 x]

set_option maxHeartbeats 1000000 in
theorem try_err (p : Nat) (s : RS) (f : Value) (w : World) (h : IsRd w p s) (he : s.e ≠ 0) :
    Calls Tryz.prog 52 #[.pointer (some ⟨p, 0, none⟩), f] w fun e w' => e = .returned (.int .i64 s.e) ∧ Below w.heap.size w w' := by
  obtain ⟨a, c, h1, h2, h3⟩ := h
  have hp := h1.lt
  have q : (s.e != 0) = true := by simpa using he
  have HA := Lib.hid (h1.below (((Below.refl w.heap.size w).alloc (Nat.le_refl _) (.cells #[.pointer (some ⟨p, 0, none⟩)] 68)).alloc (by simp) (.cells #[.int .i64 0] 32)) hp)
  have c1 : w.cell? ⟨p, 1, none⟩ = some (.int .i64 s.e) := h1.cell (i := 1) rfl
  have c2 : w.cell? ⟨p, 2, none⟩ = some (.bool true) := h1.cell (i := 2) rfl
  clear h1 h2 h3
  go_enter_defers Tryz.func52, Tryz.ntmps52
  go_wp2
  have hB := ((Below.refl w.heap.size w).alloc (Nat.le_refl _) (.cells #[.pointer (some ⟨p, 0, none⟩)] 68)).alloc (by simp) (.cells #[.int .i64 s.e] 32)
  refine ⟨_, ?_, rfl, hB⟩
  simp [results, Tryz.results52, go_sem]
/-- No reader. -/
def NoRd (w : World) (v : Option Addr) : Prop := v = none ∨ ∃ g, v = some ⟨g, 0, none⟩ ∧ w.cell? ⟨g, 2, none⟩ = some (.bool false)
theorem NoRd.below {w w' : World} {v : Option Addr} (h : NoRd w v) (hb : Below w.heap.size w w') : NoRd w' v := by
  rcases h with h | ⟨b, rfl, h⟩
  · exact .inl h
  · exact .inr ⟨b, rfl, (hb.cell (p := ⟨b, 2, none⟩) (cell_lt h)).trans h⟩
set_option maxHeartbeats 1000000 in
theorem try_none (v : Option Addr) (f : Value) (w : World) (h : NoRd w v) :
    Calls Tryz.prog 52 #[.pointer v, f] w fun e w' => e = .returned (.int .i64 1) ∧ Below w.heap.size w w' := by
  rcases h with rfl | ⟨g, rfl, c2⟩
  · go_enter_defers Tryz.func52, Tryz.ntmps52
    go_wp2
    have hB := ((Below.refl w.heap.size w).alloc (Nat.le_refl _) (.cells #[.pointer none] 68)).alloc (by simp) (.cells #[.int .i64 1] 32)
    refine ⟨_, ?_, rfl, hB⟩
    simp [results, Tryz.results52, go_sem]
  · have hp := cell_lt c2
    go_enter_defers Tryz.func52, Tryz.ntmps52
    go_wp2
    have hB := ((Below.refl w.heap.size w).alloc (Nat.le_refl _) (.cells #[.pointer (some ⟨g, 0, none⟩)] 68)).alloc (by simp) (.cells #[.int .i64 1] 32)
    refine ⟨_, ?_, rfl, hB⟩
    simp [results, Tryz.results52, go_sem]

set_option maxHeartbeats 1000000 in
theorem try_ok (p : Nat) (s : RS) (f : Nat) (caps : Array Value) (w : World) (h : IsRd w p s) (he : s.e = 0)
    (hen : ∀ args W, (callFunc f args).run Tryz.prog W = .ok (.enter f args) W)
    (S : Nat → Prop) (hS : ∀ i, S i → i < w.heap.size) (R : World → Prop)
    (hR : ∀ w1 w2 b x, R w1 → w.heap.size ≤ b → ErrAt w1 b x → Tch (fun i => i = b) w1 w2 → R w2)
    (hc : ∀ w1, Below w.heap.size w w1 → Calls Tryz.prog f caps w1 fun e w2 => e = .returned (.tuple #[]) ∧ R w2 ∧ Tch S w1 w2) :
    Calls Tryz.prog 52 #[.pointer (some ⟨p, 0, none⟩), .func (.func f) #[] caps] w fun e w' => e = .returned (.int .i64 0) ∧ R w' ∧ Tch S w w' := by
  have hmf : ∀ (fn : Fn) (first cap : Array Value) (w : World), (Instr.makeFunc fn first cap).run Tryz.prog w = .ok (.func fn first cap) w := fun _ _ _ _ => rfl
  obtain ⟨a, c, h1, h2, h3⟩ := h
  have hp := h1.lt
  have q : (s.e != 0) = false := by simpa using he
  have HB := Lib.hid (((Below.refl w.heap.size w).alloc (Nat.le_refl _) (.cells #[.pointer (some ⟨p, 0, none⟩)] 68)).alloc (by simp) (.cells #[.int .i64 0] 32))
  have HE : Hid (ErrAt ((w.alloc (.cells #[.pointer (some ⟨p, 0, none⟩)] 68)).alloc (.cells #[.int .i64 0] 32)) (w.heap.size + 1) 0) := Lib.hid (Blk.new2 _ _ _ _)
  have c1 : w.cell? ⟨p, 1, none⟩ = some (.int .i64 s.e) := h1.cell (i := 1) rfl
  have c2 : w.cell? ⟨p, 2, none⟩ = some (.bool true) := h1.cell (i := 2) rfl
  have HC := Lib.hid hc
  clear h1 h2 h3 he hc
  go_enter_defers Tryz.func52, Tryz.ntmps52
  go_wp2_with fail
  refine (HC.out _ HB.out).mono ?_
  rintro e w2 ⟨rfl, hr, ht⟩
  have hE2 : ErrAt w2 (w.heap.size + 1) 0 := ht.blk HE.out (fun e => by have := hS _ e; omega)
  have HE2 := Lib.hid hE2; have HR2 := Lib.hid hr; have HT2 := Lib.hid ht
  have c3 : w2.cell? ⟨w.heap.size + 1, 0, none⟩ = some (.int .i64 0) := hE2.cell (i := 0) rfl
  have f3 := hE2.frozen 0
  clear hE2 hr ht c1 c2 hmf
  go_wp2_with fail
  have hw : Tch (fun i => i = w.heap.size + 1) w2 (w2.setCell ⟨w.heap.size + 1, 0, none⟩ (.int .i64 0)) := (Tch.refl (fun i => i = w.heap.size + 1) w2).setCell (p := ⟨w.heap.size + 1, 0, none⟩) (.inl rfl) _
  have HR3 := Lib.hid (hR _ _ _ _ HR2.out (by omega) HE2.out hw)
  have HE3 : Hid (ErrAt (w2.setCell ⟨w.heap.size + 1, 0, none⟩ (.int .i64 0)) (w.heap.size + 1) 0) := Lib.hid (HE2.out.set 0 (.int .i64 0))
  have HT3 : Hid (Tch S w (w2.setCell ⟨w.heap.size + 1, 0, none⟩ (.int .i64 0))) := Lib.hid (((Tch.of_below HB.out (Nat.le_refl _) S).trans HT2.out (fun _ _ e => e)).setCell (.inr (by simp)) _)
  generalize w2.setCell ⟨w.heap.size + 1, 0, none⟩ (.int .i64 0) = w3 at HR3 HE3 HT3 ⊢
  refine leaves_cons (f := 69) (args := #[.pointer (some ⟨w.heap.size, 0, none⟩), .pointer (some ⟨w.heap.size + 1, 0, none⟩)]) (by simp) (by simp [go_sem]) ?_
  refine (catch_idle _ _ _).mono ?_
  rintro e u' w'' ⟨rfl, rfl, rfl⟩
  have c4 : w''.cell? ⟨w.heap.size + 1, 0, none⟩ = some (.int .i64 0) := HE3.out.cell (i := 0) rfl
  refine ⟨.int .i64 0, ?_, rfl, HR3.out, HT3.out⟩
  simp [results, Tryz.results52, go_sem, c4]
set_option maxHeartbeats 1000000 in
theorem try_no (p : Nat) (s : RS) (f : Nat) (caps : Array Value) (w : World) (h : IsRd w p s) (he : s.e = 0)
    (hen : ∀ args W, (callFunc f args).run Tryz.prog W = .ok (.enter f args) W)
    (S : Nat → Prop) (hS : ∀ i, S i → i < w.heap.size) (R : World → Prop)
    (hR : ∀ w1 w2 b, R w1 → w.heap.size ≤ b → Tch (fun i => i = p ∨ i = b) w1 w2 → R w2)
    (hc : ∀ w1, Below w.heap.size w w1 → Calls Tryz.prog f caps w1 fun e w2 => e = .panicked gaveUp ∧ (∃ s1, IsRd w2 p s1) ∧ R w2 ∧ Tch S w1 w2) :
    Calls Tryz.prog 52 #[.pointer (some ⟨p, 0, none⟩), .func (.func f) #[] caps] w fun e w' => e = .returned (.int .i64 120) ∧ IsRd w' p RS.fail ∧ R w' ∧ Tch (fun i => S i ∨ i = p) w w' := by
  have hmf : ∀ (fn : Fn) (first cap : Array Value) (w : World), (Instr.makeFunc fn first cap).run Tryz.prog w = .ok (.func fn first cap) w := fun _ _ _ _ => rfl
  obtain ⟨a, c, h1, h2, h3⟩ := h
  have hp := h1.lt
  have q : (s.e != 0) = false := by simpa using he
  have HB := Lib.hid (((Below.refl w.heap.size w).alloc (Nat.le_refl _) (.cells #[.pointer (some ⟨p, 0, none⟩)] 68)).alloc (by simp) (.cells #[.int .i64 0] 32))
  have HE : Hid (ErrAt ((w.alloc (.cells #[.pointer (some ⟨p, 0, none⟩)] 68)).alloc (.cells #[.int .i64 0] 32)) (w.heap.size + 1) 0) := Lib.hid (Blk.new2 _ _ _ _)
  have c1 : w.cell? ⟨p, 1, none⟩ = some (.int .i64 s.e) := h1.cell (i := 1) rfl
  have c2 : w.cell? ⟨p, 2, none⟩ = some (.bool true) := h1.cell (i := 2) rfl
  have HC := Lib.hid hc
  clear h1 h2 h3 he hc
  go_enter_defers Tryz.func52, Tryz.ntmps52
  go_wp2_with fail
  refine (HC.out _ HB.out).mono ?_
  rintro e w2 ⟨rfl, ⟨s1, hrd⟩, hr, ht⟩
  have hE2 : ErrAt w2 (w.heap.size + 1) 0 := ht.blk HE.out (fun e => by have := hS _ e; omega)
  have hb1 : w2.cell? ⟨w.heap.size, 0, none⟩ = some (.pointer (some ⟨p, 0, none⟩)) := (ht.blk ((Blk.new w 68 #[.pointer (some ⟨p, 0, none⟩)]).alloc _) (fun e => by have := hS _ e; omega)).cell (i := 0) rfl
  have HE2 := Lib.hid hE2; have HR2 := Lib.hid hr; have HT2 := Lib.hid ht; have HRD := Lib.hid hrd
  clear hE2 hr ht c1 c2 hmf hrd
  refine leaves_cons (f := 69) (args := #[.pointer (some ⟨w.heap.size, 0, none⟩), .pointer (some ⟨w.heap.size + 1, 0, none⟩)]) (by simp) (by simp [go_sem]) ?_
  refine (catch_caught p _ _ s1 0 [] _ HRD.out hb1 HE2.out).mono ?_
  rintro e u' w3 ⟨rfl, rfl, hi3, hE3, ht3⟩
  have c4 : w3.cell? ⟨w.heap.size + 1, 0, none⟩ = some (.int .i64 120) := hE3.cell (i := 0) rfl
  have hR3 := hR _ _ _ HR2.out (by omega) ht3
  have hT3 : Tch (fun i => S i ∨ i = p) w w3 := ((Tch.of_below HB.out (Nat.le_refl _) _).trans HT2.out (fun _ _ e => .inl e)).trans ht3 (fun i hi e => by
    rcases e with e | e
    · exact .inr e
    · omega)
  refine ⟨.int .i64 120, ?_, rfl, hi3, hR3, hT3⟩
  simp [results, Tryz.results52, go_sem, c4]
end Go.Proofs.YtomnjhhpeglcnaaGreat

namespace Go.Proofs.YtomnjhhpeglcnaaGreat
open Go.RowKit
set_option linter.unusedSimpArgs false
set_option linter.unusedVariables false
set_option maxRecDepth 100000

theorem Tch.only {p : Nat} {w w' : World} (h : Tch (fun i => i = p) w w') : Only p w w' := ⟨h.os, h.tape, h.output, h.size, fun i hi hn => h.block i hi (fun e => hn (by rw [e]))⟩
theorem Only.tch {p : Nat} {w w' : World} (h : Only p w w') : Tch (fun i => i = p) w w' := ⟨h.os, h.tape, h.output, h.size, fun i hi hn => h.block i hi (fun e => hn (by injection e))⟩
/-- Bytes do not lie in a block that holds none. -/
theorem far_cells {w : World} {b : Nat} {t : TypeId} {cs : Array Value} {a : Option Addr} {n : Nat} {l : List By} (hb : Blk w b t cs) (hc : ∀ (i : Nat) (y : Int), cs[i]? ≠ some (.int .u8 y)) (hl : Bys w a n l) :
    ∀ g off, a = some ⟨g, off, none⟩ → 0 < n → g ≠ b := by
  intro g off e h0 hg
  subst hg
  obtain ⟨g', off', e', _, hcl⟩ := hl.cells h0
  rw [e] at e'
  injection e' with e'
  injection e' with e1 e2
  subst e1; subst e2
  obtain ⟨y, hy⟩ : ∃ y, l[0]? = some y := ⟨l[0]'(by rw [hl.1]; exact h0), List.getElem?_eq_getElem _⟩
  have h1 := hcl 0 y hy
  have h2 : w.cell? ⟨g, off + 0, none⟩ = cs[off + 0]? := by
    unfold Blk at hb; simp [World.cell?, hb]
  rw [h2] at h1
  exact hc _ _ h1
theorem one_cell {v : Value} (h : ∀ y, v ≠ .int .u8 y) : ∀ (i : Nat) (y : Int), (#[v] : Array Value)[i]? ≠ some (.int .u8 y) := by
  intro i y e
  rcases Nat.eq_zero_or_pos i with rfl | hi
  · simp at e; exact h y e
  · rw [Array.getElem?_eq_none (by simp; omega)] at e; cases e
theorem IsRd.away {w w' : World} {p : Nat} {s : RS} {S : Nat → Prop} (h : IsRd w p s) (ht : Tch S w w') (hp : ¬ S p) (hS : ∀ i, S i → w.heap.size ≤ i ∨ ∃ t v, Blk w i t #[v] ∧ ∀ y, v ≠ .int .u8 y) : IsRd w' p s := by
  obtain ⟨a, c, h1, h2, h3⟩ := h
  refine ⟨a, c, ht.blk h1 hp, ht.bys h2 (fun g off e hn hs => ?_), h3⟩
  rcases hS g hs with hg | ⟨t, v, hb, hv⟩
  · obtain ⟨g', off', e', hg', _⟩ := h2.cells hn
    rw [e] at e'
    injection e' with e'
    injection e' with e1 e2
    omega
  · exact far_cells hb (one_cell hv) h2 g off e hn rfl
theorem errAt_no (x : Int) : ∀ y, Value.int .i64 x ≠ .int .u8 y := by intro y e; cases e

/-! ### Number's own -/
section
variable (bl br bg bn : Nat)
theorem numc_low (w : World) (h1 : w.cell? ⟨bl, 0, none⟩ = some (.bool true)) :
    Calls Tryz.prog 53 #[.pointer (some ⟨bl, 0, none⟩), .pointer (some ⟨br, 0, none⟩), .pointer (some ⟨bg, 0, none⟩), .pointer (some ⟨bn, 0, none⟩)] w fun e w' => e = .returned (.tuple #[]) ∧ w = w' := by
  go_enter Tryz.func53, Tryz.ntmps53
  go_wp2_with fail
  go_end0
  exact ⟨rfl, rfl⟩
theorem numc_no (p : Nat) (s : RS) (most : Int) (w : World) (h1 : w.cell? ⟨bl, 0, none⟩ = some (.bool false)) (h2 : w.cell? ⟨br, 0, none⟩ = some (.pointer (some ⟨p, 0, none⟩))) (h3 : w.cell? ⟨bg, 0, none⟩ = some (.int .i64 most))
    (h : IsRd w p s) (hl : s.l.length ≤ 1000000000) (hc : canNum s most = false) :
    Calls Tryz.prog 53 #[.pointer (some ⟨bl, 0, none⟩), .pointer (some ⟨br, 0, none⟩), .pointer (some ⟨bg, 0, none⟩), .pointer (some ⟨bn, 0, none⟩)] w fun e w' => e = .panicked gaveUp ∧ w = w' := by
  have HC := Lib.hid hc; have HL := Lib.hid hl
  clear hc hl
  go_enter Tryz.func53, Tryz.ntmps53
  go_wp2_with fail
  refine (number_no p s most _ h HL.out HC.out).mono ?_
  rintro e w' ⟨rfl, rfl⟩
  exact ⟨rfl, rfl, rfl⟩
set_option maxHeartbeats 1000000 in
theorem numc_ok (p : Nat) (s : RS) (most x : Int) (w : World) (h1 : w.cell? ⟨bl, 0, none⟩ = some (.bool false)) (h2 : w.cell? ⟨br, 0, none⟩ = some (.pointer (some ⟨p, 0, none⟩))) (h3 : w.cell? ⟨bg, 0, none⟩ = some (.int .i64 most))
    (h4 : Blk w bn 2 #[.int .i64 x]) (hp : p ≠ bn) (h : IsRd w p s) (hl : s.l.length ≤ 1000000000) (hc : canNum s most = true) :
    Calls Tryz.prog 53 #[.pointer (some ⟨bl, 0, none⟩), .pointer (some ⟨br, 0, none⟩), .pointer (some ⟨bg, 0, none⟩), .pointer (some ⟨bn, 0, none⟩)] w fun e w' => e = .returned (.tuple #[]) ∧
      (IsRd w' p ⟨s.l.drop (takeB s.l).2.toNat, s.e⟩ ∧ Blk w' bn 2 #[.int .i64 ((takeB s.l).1 : Int)]) ∧ Tch (fun i => i = p ∨ i = bn) w w' := by
  have HC := Lib.hid hc; have HL := Lib.hid hl; have H4 := Lib.hid h4; have HP := Lib.hid hp
  clear hc hl h4 hp
  obtain ⟨y, hy⟩ : ∃ y, y = (takeB s.l).1 := ⟨_, rfl⟩
  have HY := Lib.hid hy
  rw [← hy]
  clear hy
  go_enter Tryz.func53, Tryz.ntmps53
  go_wp2_with fail
  refine (number_ok p s most _ h HL.out HC.out).mono ?_
  rintro e w2 ⟨rfl, hi, hO⟩
  rw [← HY.out]
  have HI := Lib.hid hi; have HO := Lib.hid hO
  have H5 := Lib.hid (hO.blk H4.out (fun e => HP.out e.symm))
  have c5 : w2.cell? ⟨bn, 0, none⟩ = some (.int .i64 x) := H5.out.cell (i := 0) rfl
  have f5 := H5.out.frozen 0
  clear hi hO
  go_wp2_with fail
  go_end0
  have ht : Tch (fun i => i = bn) w2 (w2.setCell ⟨bn, 0, none⟩ (.int .i64 (y : Int))) := (Tch.refl (fun i => i = bn) w2).setCell (p := ⟨bn, 0, none⟩) (.inl rfl) _
  refine ⟨rfl, ⟨HI.out.away ht HP.out (fun i e => .inr ⟨_, _, e ▸ H5.out, errAt_no _⟩), H5.out.set 0 _⟩, ?_⟩
  exact (HO.out.tch.mono (fun _ _ e => .inl e)).setCell (.inl (.inr rfl)) _
end
end Go.Proofs.YtomnjhhpeglcnaaGreat
