/- Iterators over frames: the contract of an iterator value, and the law of a loop over one. -/
import Derived.Test.YtnecoapbpicloaaXn
import Derived.RangeFuncNested
import Derived.RangeFuncBound
import Derived.RangeFuncCalls
import Derived.RangeFuncLeaves
import Derived.RangeFuncBox
import Derived.Shelf.Abstract
import Derived.Shelf.RegionOpen
import Derived.OwnWalkIn
import Derived.TacticsInMore
import Derived.LoopNIn
import Derived.LoopIn
namespace Go.Proofs.Ytnecoapbpicloaa
open Go.RowKit Go.Shelf
set_option linter.unusedSimpArgs false
set_option linter.unusedVariables false

theorem RoundIn.any {m m' : Nat} {l : Nat} {f : FuncId} {tmps : Array Value} {assign body : Code} {w : World} {R : Ending → World → Prop}
    (h : RoundIn Fence.wide m Try.prog l f tmps assign body w R) : RoundIn Fence.wide m' Try.prog l f tmps assign body w R := ⟨h.1, fun c cs _ => h.2 c cs (room_wide _)⟩
/-- What abides whatever lies from B on, and what turns in the blocks of Z. -/
def Kept (B : Nat) (Z : Nat → Prop) (J : Nat → World → Prop) : Prop := ∀ k X Y, Tch (fun i => Z i ∨ B ≤ i) X Y → J k X → J k Y
/-- The block of an address. -/
def XB (a : Option Addr) (i : Nat) : Prop := ∃ off, a = some ⟨i, off, none⟩
section
variable {S : Nat → Prop} {a w : World}
theorem Tch.putObj (h : Tch S a w) {r : Nat} (hr : S r ∨ a.heap.size ≤ r) (o : Obj) : Tch S a (w.putObj r o) :=
  ⟨h.os, h.tape, h.output, by simpa using h.size, fun i hi hn => (World.putObj_heap_other (by
    rintro rfl
    rcases hr with hr | hr
    · exact hn hr
    · omega)).trans (h.block i hi hn)⟩
theorem Tch.bel {S Z : Nat → Prop} {B : Nat} {w w' : World} (h : Below B w w') : Tch (fun i => Z i ∨ B ≤ i) w w' :=
  (Tch.of_below2 h).mono (fun _ _ e => .inr e)
theorem Below.putObj {B : Nat} (W : World) {r : Nat} (hr : B ≤ r) (o : Obj) : Below B W (W.putObj r o) :=
  ⟨rfl, rfl, rfl, by simp, fun k hk => World.putObj_heap_other (by omega)⟩
end

/-- An iterator value that gives these numbers and bytes, each time rows of their own. -/
def Gives (gf : Nat) (lb : Array Value) (full : List (Nat × List By)) (It : World → Prop) (Av Z : Nat → Prop) : Prop :=
  ∀ (n l : Nat) (J Jx : Nat → World → Prop) (U : Nat → Prop) (W : World), It W → (∀ i, U i → i < W.heap.size ∧ ¬ Av i) → Kept W.heap.size Z J → Kept W.heap.size Z Jx →
    (∀ (k : Nat) (q : Nat × List By) (a : Option Addr) (c : Nat) (W1 : World), W.heap.size ≤ W1.heap.size → J k W1 → full[k]? = some q → OwnB W1 W.heap.size (.slice a q.2.length c) q.2 →
      ∀ m, YieldAt Fence.wide m Try.prog l #[.int .i64 (q.1 : Int), .slice a q.2.length c] W1 fun e W' =>
        (e = .returned (.bool true) ∧ J (k + 1) W' ∧ Tch (fun i => U i ∨ XB a i) W1 W') ∨ (e = .returned (.bool false) ∧ Jx (k + 1) W' ∧ Tch (fun i => U i ∨ XB a i) W1 W')) →
    J 0 W →
    CallsIn Fence.wide n Try.prog gf (#[.func (.yield l) #[] #[]] ++ lb) W fun e W' => (∃ v, e = .returned v) ∧ (J full.length W' ∨ ∃ k, k ≤ full.length ∧ Jx k W')

/-- How the body of a round may be left. -/
def givesPost (S : Nat → Prop) (I : Nat → World → Prop) (Ix : Code → Nat → World → Prop) (k : Nat) (W : World) : Exit → Act → World → Prop
  | .normal, _, W' => Tch S W W' ∧ I k W'
  | .ret, _, W' => Tch S W W' ∧ Ix .ret k W'
  | .exit id, _, W' => Tch S W W' ∧ Ix (.exit id) k W'
  | .goto t, _, W' => Tch S W W' ∧ Ix (.goto t) k W'
  | .panic _, _, _ => False
  | .outgrown, _, _ => False

/-- A loop over an iterator that gives. -/
theorem range_gives {gop : Operand} {p q : Tmp} {assign body : Code} {Q : Exit → Act → World → Prop} {a : Act} {w : World} {n : Nat}
    {gf : Nat} {lb : Array Value} {full : List (Nat × List By)} {It : World → Prop} {Av Z : Nat → Prop} (hseq : Gives gf lb full It Av Z)
    (hg : a.eval gop = .func (.func gf) #[] lb) (eg : ∀ args w, (callFunc gf args).run Try.prog w = .ok (.enter gf args) w)
    (hIt : ∀ W, Below w.heap.size w W → It W) (hAv : ∀ i, Av i → i < w.heap.size) (hZ : ∀ i, Z i → i < w.heap.size) (U : Nat → Prop) (hU : ∀ i, U i → i < w.heap.size ∧ ¬ Av i)
    (I : Nat → World → Prop) (Ix : Code → Nat → World → Prop) (hI : Kept w.heap.size Z I) (hIx : ∀ c, Kept w.heap.size Z (Ix c)) (h0 : I 0 w) (a₁ : Value → Value → Act)
    (hassign : ∀ (l : Nat) (v u : Value) (W : World) (K : Act → World → Prop), K (a₁ v u) W →
      assign.wpIn (Fence.wide.inRound l) (n - 1 - 1) Try.prog (Exit.then K (fun _ _ _ => False)) { tmps := (a.tmps.setIfInBounds p v).setIfInBounds q u, defers := [] } W)
    (hbody : ∀ (l k : Nat) (x : Nat × List By) (av : Option Addr) (c : Nat) (W : World), w.heap.size + 2 ≤ W.heap.size → I k W → full[k]? = some x → OwnB W (w.heap.size + 2) (.slice av x.2.length c) x.2 →
      body.wpIn (Fence.wide.inRound l) (n - 1 - 1) Try.prog (givesPost (fun i => U i ∨ XB av i) I Ix (k + 1) W) (a₁ (.int .i64 (x.1 : Int)) (.slice av x.2.length c)) W)
    (hdone : ∀ (D : Nat) (W : World), w.heap.size ≤ D → I full.length W → W.heap[D]? = some (.deferred (some [])) → Q .normal { a with defers := { target := .collected D, args := #[] } :: a.defers } W)
    (hstop : ∀ (D : Nat) (c : Code) (k : Nat) (W : World), w.heap.size ≤ D → k ≤ full.length → Ix c k W → W.heap[D]? = some (.deferred (some [])) → c.wpIn Fence.wide n Try.prog Q { a with defers := { target := .collected D, args := #[] } :: a.defers } W) :
    (Code.rangeFunc gop #[p, q] assign body).wpIn Fence.wide n Try.prog Q a w := by
  refine wpIn_rangeFunc ?_
  intro fn hfn
  rw [show Fence.wide.round = none from rfl]
  obtain ⟨rec, hrec⟩ : ∃ rec : LoopState → Option Code → Loop, rec = fun st pe => { state := st, pending := pe, fn, tmps := a.tmps, params := #[p, q], assign, body, defers := w.heap.size } := ⟨_, rfl⟩
  obtain ⟨W1, hW1⟩ : ∃ W1, (w.alloc (.deferred (some []))).alloc (.loop (rec .ready none)) = W1 := ⟨_, rfl⟩
  have hL1 : W1.heap[w.heap.size + 1]? = some (.loop (rec .ready none)) := by
    rw [← hW1]; have := World.alloc_heap_new (w.alloc (.deferred (some []))) (.loop (rec .ready none)); rwa [World.size_alloc] at this
  have hK1 : W1.heap[w.heap.size]? = some (.deferred (some [])) := by
    rw [← hW1]; exact (Below.heap_alloc _ _ _ (by simp)).trans (World.alloc_heap_new w _)
  have hb1 : Below w.heap.size w W1 := by
    rw [← hW1]; exact (((Below.refl _ w).alloc (Nat.le_refl _) _).alloc (by simp) _)
  have hz1 : W1.heap.size = w.heap.size + 2 := by rw [← hW1]; simp
  have hI1 : I 0 W1 := hI _ _ _ (Tch.bel (S := Z) hb1) h0
  refine ⟨w.heap.size + 1, [{ target := .collected w.heap.size, args := #[] }], W1, { target := .fn (.func gf) lb, args := #[.func (.yield (w.heap.size + 1)) #[] #[]] }, W1, gf,
    #[.func (.yield (w.heap.size + 1)) #[] #[]] ++ lb, W1, ?_, ?_, ?_, ?_, fun h => by simp [Fence.wide] at h, ?_⟩
  · rw [← hW1, hrec]; exact run_enterLoop_outer _ _ _ _ _
  · simp only [resolve, hg]
    simp [go_sem]
  · intro f' hf'; trivial
  · simp [invoke, go_sem, eg]
  · have fin : ∀ (S : Nat → Prop) (jump : Option Code) (W3 W : World), (∀ i, S i → i < w.heap.size ∨ w.heap.size + 2 ≤ i) → w.heap.size + 2 ≤ W.heap.size → W.heap[w.heap.size + 1]? = some (.loop { rec .ready none with state := .busy }) → W.heap[w.heap.size]? = some (.deferred (some [])) → Tch S W W3 →
          (Instr.endRound (w.heap.size + 1) jump).run Try.prog W3 = .ok (.bool jump.isNone) (W3.putObj (w.heap.size + 1) (.loop (rec (if jump.isNone then .ready else .done) jump))) ∧
          (W3.putObj (w.heap.size + 1) (.loop (rec (if jump.isNone then .ready else .done) jump))).heap[w.heap.size + 1]? = some (.loop (rec (if jump.isNone then .ready else .done) jump)) ∧
          (W3.putObj (w.heap.size + 1) (.loop (rec (if jump.isNone then .ready else .done) jump))).heap[w.heap.size]? = some (.deferred (some [])) := fun S jump W3 W hS hz hl2 hk2 ht => by
      have hl3 := (ht.block (w.heap.size + 1) (by omega) (fun e => by have := hS _ e; omega)).trans hl2
      have hk3 := (ht.block w.heap.size (by omega) (fun e => by have := hS _ e; omega)).trans hk2
      have := run_endRound (P := Try.prog) jump hl3
      rw [hrec] at this ⊢
      exact ⟨this, World.putObj_heap_same (Array.getElem?_eq_some_iff.1 hl3).1, (World.putObj_heap_other (by omega)).trans hk3⟩
    refine (hseq _ (w.heap.size + 1)
      (fun k W => I k W ∧ W.heap[w.heap.size + 1]? = some (.loop (rec .ready none)) ∧ W.heap[w.heap.size]? = some (.deferred (some [])))
      (fun k W => ∃ c, Ix c k W ∧ W.heap[w.heap.size + 1]? = some (.loop (rec .done (some c))) ∧ W.heap[w.heap.size]? = some (.deferred (some [])))
      (fun i => U i ∨ i = w.heap.size + 1) W1 (hIt _ hb1)
      (fun i hi => by
        rcases hi with hi | rfl
        · exact ⟨by have := (hU i hi).1; omega, (hU i hi).2⟩
        · exact ⟨by omega, fun e => by have := hAv _ e; omega⟩)
      (fun k X Y hb hs => ⟨hI k X Y (hb.mono (fun i _ e => by rcases e with e | e; exact .inl e; exact .inr (by omega))) hs.1, (hb.block _ (Array.getElem?_eq_some_iff.1 hs.2.1).1 (fun e => by rcases e with e | e; (have := hZ _ e; omega); omega)).trans hs.2.1, (hb.block _ (Array.getElem?_eq_some_iff.1 hs.2.2).1 (fun e => by rcases e with e | e; (have := hZ _ e; omega); omega)).trans hs.2.2⟩)
      (fun k X Y hb hs => by
        obtain ⟨c, hc, hl, hk⟩ := hs
        exact ⟨c, hIx c k X Y (hb.mono (fun i _ e => by rcases e with e | e; exact .inl e; exact .inr (by omega))) hc, (hb.block _ (Array.getElem?_eq_some_iff.1 hl).1 (fun e => by rcases e with e | e; (have := hZ _ e; omega); omega)).trans hl, (hb.block _ (Array.getElem?_eq_some_iff.1 hk).1 (fun e => by rcases e with e | e; (have := hZ _ e; omega); omega)).trans hk⟩)
      ?_ ⟨hI1, hL1, hK1⟩).mono ?_
    · -- one round
      rintro k x av c W hz ⟨hi, hl, hk⟩ hx hown m
      rw [hz1] at hz hown
      have hy := run_yield (P := Try.prog) (args := #[.int .i64 (x.1 : Int), .slice av x.2.length c]) hl (by rw [hrec]; rfl)
      rw [hrec] at hy
      refine ⟨fn, _, assign, body, hy, RoundIn.any (m := n - 1 - 1) (roundIn_of_wpIn hfn ?_)⟩
      have hfold : ∀ (ps : Array Tmp) (vs : Array Value), ps = #[p, q] → vs = #[.int .i64 (x.1 : Int), .slice av x.2.length c] → (ps.zip vs).foldl (fun t (y : Nat × Value) => match y with | (p, v) => t.setIfInBounds p v) a.tmps = (a.tmps.setIfInBounds p (.int .i64 (x.1 : Int))).setIfInBounds q (.slice av x.2.length c) := by
        intro ps vs e1 e2; subst e1; subst e2; simp
      have hfr : ∀ tmps0, tmps0 = (a.tmps.setIfInBounds p (.int .i64 (x.1 : Int))).setIfInBounds q (.slice av x.2.length c) → assign.wpIn (Fence.wide.inRound (w.heap.size + 1)) (n - 1 - 1) Try.prog (Exit.then (fun a₁ w₁ => ∃ w₂, (Instr.beginRound (w.heap.size + 1)).run Try.prog w₁ = .ok () w₂ ∧ body.wpIn (Fence.wide.inRound (w.heap.size + 1)) (n - 1 - 1) Try.prog (roundPost Try.prog (w.heap.size + 1) (fun e W' =>
        (e = .returned (.bool true) ∧ (I (k + 1) W' ∧ W'.heap[w.heap.size + 1]? = some (.loop (rec .ready none)) ∧ W'.heap[w.heap.size]? = some (.deferred (some []))) ∧ Tch (fun i => (U i ∨ i = w.heap.size + 1) ∨ XB av i) W W') ∨ (e = .returned (.bool false) ∧ (∃ c, Ix c (k + 1) W' ∧ W'.heap[w.heap.size + 1]? = some (.loop (rec .done (some c))) ∧ W'.heap[w.heap.size]? = some (.deferred (some []))) ∧ Tch (fun i => (U i ∨ i = w.heap.size + 1) ∨ XB av i) W W'))) a₁ w₂) (fun _ _ _ => False)) { tmps := tmps0, defers := [] } W := by
        rintro _ rfl
        refine hassign _ _ _ W _ ⟨_, run_beginRound hl (by rw [hrec]), ?_⟩
        have hlt : w.heap.size + 1 < W.heap.size := by omega
        have hl2 : (W.putObj (w.heap.size + 1) (.loop { rec .ready none with state := .busy })).heap[w.heap.size + 1]? = some (.loop { rec .ready none with state := .busy }) := World.putObj_heap_same hlt
        have hk2 : (W.putObj (w.heap.size + 1) (.loop { rec .ready none with state := .busy })).heap[w.heap.size]? = some (.deferred (some [])) := (World.putObj_heap_other (by omega)).trans hk
        have ht2 := (Tch.refl (fun i => i = w.heap.size + 1) W).putObj (r := w.heap.size + 1) (.inl rfl) (.loop { rec .ready none with state := .busy })
        have hz2 : w.heap.size + 2 ≤ (W.putObj (w.heap.size + 1) (.loop { rec .ready none with state := .busy })).heap.size := by simpa using hz
        have hS : ∀ i, (U i ∨ XB av i) → i < w.heap.size ∨ w.heap.size + 2 ≤ i := by
          rintro i (hi | ⟨off, hi⟩)
          · exact .inl (hU i hi).1
          · exact .inr (own_lt hown i (by rw [hi]; rfl)).1
        refine wpIn_mono (hbody _ k x av c _ hz2 (hI _ _ _ (Tch.bel (S := Z) (Below.putObj W (by omega) _)) hi) hx (ht2.own hown (fun i e e2 => by have := (own_lt hown i e).1; omega))) ?_
        generalize W.putObj (w.heap.size + 1) (.loop { rec .ready none with state := .busy }) = Wb at hl2 hk2 ht2 hz2
        have j12 : ∀ W3, Tch (fun i => U i ∨ XB av i) Wb W3 → ∀ o, Tch (fun i => (U i ∨ i = w.heap.size + 1) ∨ XB av i) W (W3.putObj (w.heap.size + 1) o) := fun W3 ht3 o => by
          have h12 : Tch (fun i => (U i ∨ i = w.heap.size + 1) ∨ XB av i) W W3 := (ht2.mono (S' := fun i => (U i ∨ i = w.heap.size + 1) ∨ XB av i) (fun i _ e => .inl (.inr e))).trans ht3 (fun i _ e => by rcases e with e | e; exact .inl (.inl e); exact .inr e)
          exact h12.putObj (.inl (.inl (.inr rfl))) _
        rintro e a3 W3 hp
        cases e with
        | normal =>
          obtain ⟨ht3, hi3⟩ := hp
          obtain ⟨hr, hl4, hk4⟩ := fin _ none W3 Wb hS hz2 hl2 hk2 ht3
          refine ⟨_, _, hr, .inl ⟨rfl, ⟨hI _ _ _ (Tch.bel (S := Z) (Below.putObj W3 (by omega) _)) hi3, hl4, hk4⟩, ?_⟩⟩
          exact j12 _ ht3 _
        | ret =>
          obtain ⟨ht3, hi3⟩ := hp
          obtain ⟨hr, hl4, hk4⟩ := fin _ (some .ret) W3 Wb hS hz2 hl2 hk2 ht3
          exact ⟨_, _, hr, .inr ⟨rfl, ⟨.ret, hIx _ _ _ _ (Tch.bel (S := Z) (Below.putObj W3 (by omega) _)) hi3, hl4, hk4⟩, j12 _ ht3 _⟩⟩
        | exit id =>
          obtain ⟨ht3, hi3⟩ := hp
          obtain ⟨hr, hl4, hk4⟩ := fin _ (some (.exit id)) W3 Wb hS hz2 hl2 hk2 ht3
          exact ⟨_, _, hr, .inr ⟨rfl, ⟨.exit id, hIx _ _ _ _ (Tch.bel (S := Z) (Below.putObj W3 (by omega) _)) hi3, hl4, hk4⟩, j12 _ ht3 _⟩⟩
        | goto t =>
          obtain ⟨ht3, hi3⟩ := hp
          obtain ⟨hr, hl4, hk4⟩ := fin _ (some (.goto t)) W3 Wb hS hz2 hl2 hk2 ht3
          exact ⟨_, _, hr, .inr ⟨rfl, ⟨.goto t, hIx _ _ _ _ (Tch.bel (S := Z) (Below.putObj W3 (by omega) _)) hi3, hl4, hk4⟩, j12 _ ht3 _⟩⟩
        | panic ch => exact hp.elim
        | outgrown => exact hp.elim
      rw [hrec]
      rw [hrec] at hfr
      exact hfr _ (hfold _ _ rfl rfl)
    · -- behind the iterator
      rintro e W2 ⟨⟨v, rfl⟩, (⟨hi, hl, hk⟩ | ⟨k, hle, c, hi, hl, hk⟩)⟩
      · exact ⟨none, _, by have := run_endLoop (P := Try.prog) hl (by rw [hrec]; simp); rw [hrec] at this; exact this, hdone _ _ (Nat.le_refl _) (hI _ _ _ (Tch.bel (S := Z) (Below.putObj W2 (by omega) _)) hi) ((World.putObj_heap_other (by omega)).trans hk)⟩
      · exact ⟨some c, _, by have := run_endLoop (P := Try.prog) hl (by rw [hrec]; simp); rw [hrec] at this; exact this, hstop _ c k _ (Nat.le_refl _) hle (hIx _ _ _ _ (Tch.bel (S := Z) (Below.putObj W2 (by omega) _)) hi) ((World.putObj_heap_other (by omega)).trans hk)⟩
end Go.Proofs.Ytnecoapbpicloaa
