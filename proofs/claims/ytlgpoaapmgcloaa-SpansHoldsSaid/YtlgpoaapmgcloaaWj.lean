/- Contracts: a reader tries something. -/
import Derived.Test.YtlgpoaapmgcloaaWi
namespace Go.Proofs.Ytlgpoaapmgcloaa
open Go.RowKit
set_option linter.unusedSimpArgs false
set_option linter.unusedVariables false
set_option maxRecDepth 100000

/-- A cell for an error at block b. -/
def ErrAt (w : World) (b : Nat) (x : Int) : Prop := Blk w b 26 #[.int .i64 x]

set_option maxHeartbeats 1000000 in
theorem try_err (p : Nat) (s : RS) (f : Value) (w : World) (h : IsRd w p s) (he : s.e ≠ 0) :
    Calls Try.prog 40 #[.pointer (some ⟨p, 0, none⟩), f] w fun e w' => e = .returned (.int .i64 s.e) ∧ Below w.heap.size w w' := by
  obtain ⟨a, c, h1, h2, h3⟩ := h
  have hp := h1.lt
  have q : (s.e != 0) = true := by simpa using he
  have HA := Lib.hid (h1.below (((Below.refl w.heap.size w).alloc (Nat.le_refl _) (.cells #[.pointer (some ⟨p, 0, none⟩)] 44)).alloc (by simp) (.cells #[.int .i64 0] 26)) hp)
  have c1 : w.cell? ⟨p, 1, none⟩ = some (.int .i64 s.e) := h1.cell (i := 1) rfl
  have c2 : w.cell? ⟨p, 2, none⟩ = some (.bool true) := h1.cell (i := 2) rfl
  clear h1 h2 h3
  go_enter_defers Try.func40, Try.ntmps40
  go_wp2
  have hB := ((Below.refl w.heap.size w).alloc (Nat.le_refl _) (.cells #[.pointer (some ⟨p, 0, none⟩)] 44)).alloc (by simp) (.cells #[.int .i64 s.e] 26)
  refine ⟨_, ?_, rfl, hB⟩
  simp [results, Try.results40, go_sem]
/-- No reader. -/
def NoRd (w : World) (v : Option Addr) : Prop := v = none ∨ ∃ g, v = some ⟨g, 0, none⟩ ∧ w.cell? ⟨g, 2, none⟩ = some (.bool false)
theorem NoRd.below {w w' : World} {v : Option Addr} (h : NoRd w v) (hb : Below w.heap.size w w') : NoRd w' v := by
  rcases h with h | ⟨b, rfl, h⟩
  · exact .inl h
  · exact .inr ⟨b, rfl, (hb.cell (p := ⟨b, 2, none⟩) (cell_lt h)).trans h⟩
set_option maxHeartbeats 1000000 in
theorem try_none (v : Option Addr) (f : Value) (w : World) (h : NoRd w v) :
    Calls Try.prog 40 #[.pointer v, f] w fun e w' => e = .returned (.int .i64 1) ∧ Below w.heap.size w w' := by
  rcases h with rfl | ⟨g, rfl, c2⟩
  · go_enter_defers Try.func40, Try.ntmps40
    go_wp2
    have hB := ((Below.refl w.heap.size w).alloc (Nat.le_refl _) (.cells #[.pointer none] 44)).alloc (by simp) (.cells #[.int .i64 1] 26)
    refine ⟨_, ?_, rfl, hB⟩
    simp [results, Try.results40, go_sem]
  · have hp := cell_lt c2
    go_enter_defers Try.func40, Try.ntmps40
    go_wp2
    have hB := ((Below.refl w.heap.size w).alloc (Nat.le_refl _) (.cells #[.pointer (some ⟨g, 0, none⟩)] 44)).alloc (by simp) (.cells #[.int .i64 1] 26)
    refine ⟨_, ?_, rfl, hB⟩
    simp [results, Try.results40, go_sem]

set_option maxHeartbeats 1000000 in
theorem try_ok (p : Nat) (s : RS) (f : Nat) (caps : Array Value) (w : World) (h : IsRd w p s) (he : s.e = 0)
    (hen : ∀ args W, (callFunc f args).run Try.prog W = .ok (.enter f args) W)
    (S : Nat → Prop) (hS : ∀ i, S i → i < w.heap.size) (R : World → Prop)
    (hR : ∀ w1 w2 b x, R w1 → w.heap.size ≤ b → ErrAt w1 b x → Tch (fun i => i = b) w1 w2 → R w2)
    (hc : ∀ w1, Below w.heap.size w w1 → Calls Try.prog f caps w1 fun e w2 => e = .returned (.tuple #[]) ∧ R w2 ∧ Tch S w1 w2) :
    Calls Try.prog 40 #[.pointer (some ⟨p, 0, none⟩), .func (.func f) #[] caps] w fun e w' => e = .returned (.int .i64 0) ∧ R w' ∧ Tch S w w' := by
  have hmf : ∀ (fn : Fn) (first cap : Array Value) (w : World), (Instr.makeFunc fn first cap).run Try.prog w = .ok (.func fn first cap) w := fun _ _ _ _ => rfl
  obtain ⟨a, c, h1, h2, h3⟩ := h
  have hp := h1.lt
  have q : (s.e != 0) = false := by simpa using he
  have HB := Lib.hid (((Below.refl w.heap.size w).alloc (Nat.le_refl _) (.cells #[.pointer (some ⟨p, 0, none⟩)] 44)).alloc (by simp) (.cells #[.int .i64 0] 26))
  have HE : Hid (ErrAt ((w.alloc (.cells #[.pointer (some ⟨p, 0, none⟩)] 44)).alloc (.cells #[.int .i64 0] 26)) (w.heap.size + 1) 0) := Lib.hid (Blk.new2 _ _ _ _)
  have c1 : w.cell? ⟨p, 1, none⟩ = some (.int .i64 s.e) := h1.cell (i := 1) rfl
  have c2 : w.cell? ⟨p, 2, none⟩ = some (.bool true) := h1.cell (i := 2) rfl
  have HC := Lib.hid hc
  clear h1 h2 h3 he hc
  go_enter_defers Try.func40, Try.ntmps40
  go_wp2_with fail
  refine (HC.out _ HB.out).mono ?_
  rintro e w2 ⟨rfl, hr, ht⟩
  have hE2 : ErrAt w2 (w.heap.size + 1) 0 := ht.blk HE.out (fun e => by have := hS _ e; omega)
  have HE2 := Lib.hid hE2; have HR2 := Lib.hid hr; have HT2 := Lib.hid ht
  have c3 : w2.cell? ⟨w.heap.size + 1, 0, none⟩ = some (.int .i64 0) := hE2.cell (i := 0) rfl
  have f3 := hE2.frozen 0
  clear hE2 hr ht c1 c2 hmf
  go_wp2_with fail
  have hw : Tch (fun i => i = w.heap.size + 1) w2 (w2.setCell ⟨w.heap.size + 1, 0, none⟩ (.int .i64 0)) := (Tch.refl (fun i => i = w.heap.size + 1) w2).setCell (p := ⟨w.heap.size + 1, 0, none⟩) (.inl rfl) _
  have HR3 := Lib.hid (hR _ _ _ _ HR2.out (by omega) HE2.out hw)
  have HE3 : Hid (ErrAt (w2.setCell ⟨w.heap.size + 1, 0, none⟩ (.int .i64 0)) (w.heap.size + 1) 0) := Lib.hid (HE2.out.set 0 (.int .i64 0))
  have HT3 : Hid (Tch S w (w2.setCell ⟨w.heap.size + 1, 0, none⟩ (.int .i64 0))) := Lib.hid (((Tch.of_below HB.out (Nat.le_refl _) S).trans HT2.out (fun _ _ e => e)).setCell (.inr (by simp)) _)
  generalize w2.setCell ⟨w.heap.size + 1, 0, none⟩ (.int .i64 0) = w3 at HR3 HE3 HT3 ⊢
  refine leaves_cons (f := 58) (args := #[.pointer (some ⟨w.heap.size, 0, none⟩), .pointer (some ⟨w.heap.size + 1, 0, none⟩)]) (by simp) (by simp [go_sem]) ?_
  refine (catch_idle _ _ _).mono ?_
  rintro e u' w'' ⟨rfl, rfl, rfl⟩
  have c4 : w''.cell? ⟨w.heap.size + 1, 0, none⟩ = some (.int .i64 0) := HE3.out.cell (i := 0) rfl
  refine ⟨.int .i64 0, ?_, rfl, HR3.out, HT3.out⟩
  simp [results, Try.results40, go_sem, c4]
set_option maxHeartbeats 1000000 in
theorem try_no (p : Nat) (s : RS) (f : Nat) (caps : Array Value) (w : World) (h : IsRd w p s) (he : s.e = 0)
    (hen : ∀ args W, (callFunc f args).run Try.prog W = .ok (.enter f args) W)
    (S : Nat → Prop) (hS : ∀ i, S i → i < w.heap.size) (R : World → Prop)
    (hR : ∀ w1 w2 b, R w1 → w.heap.size ≤ b → Tch (fun i => i = p ∨ i = b) w1 w2 → R w2)
    (hc : ∀ w1, Below w.heap.size w w1 → Calls Try.prog f caps w1 fun e w2 => e = .panicked gaveUp ∧ (∃ s1, IsRd w2 p s1) ∧ R w2 ∧ Tch S w1 w2) :
    Calls Try.prog 40 #[.pointer (some ⟨p, 0, none⟩), .func (.func f) #[] caps] w fun e w' => e = .returned (.int .i64 120) ∧ IsRd w' p RS.fail ∧ R w' ∧ Tch (fun i => S i ∨ i = p) w w' := by
  have hmf : ∀ (fn : Fn) (first cap : Array Value) (w : World), (Instr.makeFunc fn first cap).run Try.prog w = .ok (.func fn first cap) w := fun _ _ _ _ => rfl
  obtain ⟨a, c, h1, h2, h3⟩ := h
  have hp := h1.lt
  have q : (s.e != 0) = false := by simpa using he
  have HB := Lib.hid (((Below.refl w.heap.size w).alloc (Nat.le_refl _) (.cells #[.pointer (some ⟨p, 0, none⟩)] 44)).alloc (by simp) (.cells #[.int .i64 0] 26))
  have HE : Hid (ErrAt ((w.alloc (.cells #[.pointer (some ⟨p, 0, none⟩)] 44)).alloc (.cells #[.int .i64 0] 26)) (w.heap.size + 1) 0) := Lib.hid (Blk.new2 _ _ _ _)
  have c1 : w.cell? ⟨p, 1, none⟩ = some (.int .i64 s.e) := h1.cell (i := 1) rfl
  have c2 : w.cell? ⟨p, 2, none⟩ = some (.bool true) := h1.cell (i := 2) rfl
  have HC := Lib.hid hc
  clear h1 h2 h3 he hc
  go_enter_defers Try.func40, Try.ntmps40
  go_wp2_with fail
  refine (HC.out _ HB.out).mono ?_
  rintro e w2 ⟨rfl, ⟨s1, hrd⟩, hr, ht⟩
  have hE2 : ErrAt w2 (w.heap.size + 1) 0 := ht.blk HE.out (fun e => by have := hS _ e; omega)
  have hb1 : w2.cell? ⟨w.heap.size, 0, none⟩ = some (.pointer (some ⟨p, 0, none⟩)) := (ht.blk ((Blk.new w 44 #[.pointer (some ⟨p, 0, none⟩)]).alloc _) (fun e => by have := hS _ e; omega)).cell (i := 0) rfl
  have HE2 := Lib.hid hE2; have HR2 := Lib.hid hr; have HT2 := Lib.hid ht; have HRD := Lib.hid hrd
  clear hE2 hr ht c1 c2 hmf hrd
  refine leaves_cons (f := 58) (args := #[.pointer (some ⟨w.heap.size, 0, none⟩), .pointer (some ⟨w.heap.size + 1, 0, none⟩)]) (by simp) (by simp [go_sem]) ?_
  refine (catch_caught p _ _ s1 0 [] _ HRD.out hb1 HE2.out).mono ?_
  rintro e u' w3 ⟨rfl, rfl, hi3, hE3, ht3⟩
  have c4 : w3.cell? ⟨w.heap.size + 1, 0, none⟩ = some (.int .i64 120) := hE3.cell (i := 0) rfl
  have hR3 := hR _ _ _ HR2.out (by omega) ht3
  have hT3 : Tch (fun i => S i ∨ i = p) w w3 := ((Tch.of_below HB.out (Nat.le_refl _) _).trans HT2.out (fun _ _ e => .inl e)).trans ht3 (fun i hi e => by
    rcases e with e | e
    · exact .inr e
    · omega)
  refine ⟨.int .i64 120, ?_, rfl, hi3, hR3, hT3⟩
  simp [results, Try.results40, go_sem, c4]
end Go.Proofs.Ytlgpoaapmgcloaa

