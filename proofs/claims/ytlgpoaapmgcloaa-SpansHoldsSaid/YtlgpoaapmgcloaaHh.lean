/- The law of a loop over an iterator of one value whose assignment makes a box. -/
import Derived.Test.YtlgpoaapmgcloaaHg
namespace Go.Proofs.Ytlgpoaapmgcloaa
open Go.RowKit Go.Shelf
set_option maxRecDepth 100000
set_option linter.unusedSimpArgs false
set_option linter.unusedVariables false

/-- A loop over an iterator that gives; the assignment may make new blocks. -/
theorem range_gives2 {gop : Operand} {p : Tmp} {assign body : Code} {Q : Exit → Act → World → Prop} {a : Act} {w : World} {n : Nat}
    {gf : Nat} {lb : Array Value} {len : Nat} {Yv : Nat → Nat → Value → World → Prop} {It : World → (Nat → Prop) → Prop} {St : Prop} (hseq : Gives1 gf lb len Yv It St)
    (hg : a.eval gop = .func (.func gf) #[] lb) (eg : ∀ args w, (callFunc gf args).run Try.prog w = .ok (.enter gf args) w) (U : Nat → Prop)
    (hIt : ∀ W, Below w.heap.size w W → W.heap.size = w.heap.size + 2 → It W (fun i => U i ∨ i = w.heap.size + 1)) (hU : ∀ i, U i → i < w.heap.size ∨ w.heap.size + 2 ≤ i)
    (hYv : ∀ k v X Y, Tch (fun i => i < w.heap.size + 2) X Y → Yv (w.heap.size + 2) k v X → Yv (w.heap.size + 2) k v Y)
    (I : Nat → World → Prop) (Ix : Code → Nat → World → Prop) (hI : ∀ k X Y, Tch (fun i => i = w.heap.size ∨ i = w.heap.size + 1) X Y → I k X → I k Y) (hIx : ∀ c k X Y, Tch (fun i => i = w.heap.size ∨ i = w.heap.size + 1) X Y → Ix c k X → Ix c k Y) (hSt : St ∨ ∀ c k X, ¬ Ix c k X) (h0 : I 0 w) (Aq : Value → Act → World → Prop)
    (hAq : ∀ v a' X Y, Tch (fun i => i = w.heap.size ∨ i = w.heap.size + 1) X Y → Aq v a' X → Aq v a' Y)
    (hassign : ∀ (l k : Nat) (v : Value) (W : World) (K : Act → World → Prop), w.heap.size + 2 ≤ W.heap.size → Yv (w.heap.size + 2) k v W → (∀ (a' : Act) (W' : World), Below W.heap.size W W' → Aq v a' W' → K a' W') →
      assign.wpIn (Fence.wide.inRound l) (n - 1 - 1) Try.prog (Exit.then K (fun _ _ _ => False)) { tmps := a.tmps.setIfInBounds p v, defers := [] } W)
    (hbody : ∀ (l k : Nat) (v : Value) (a' : Act) (W : World), w.heap.size + 2 ≤ W.heap.size → I k W → k < len → Yv (w.heap.size + 2) k v W → Aq v a' W →
      body.wpIn (Fence.wide.inRound l) (n - 1 - 1) Try.prog (givesPost1 U I Ix (k + 1) W) a' W)
    (hdone : ∀ (D : Nat) (W : World), w.heap.size ≤ D → D < w.heap.size + 2 → w.heap.size + 2 ≤ W.heap.size → I len W → W.heap[D]? = some (.deferred (some [])) → Q .normal { a with defers := { target := .collected D, args := #[] } :: a.defers } W)
    (hstop : ∀ (D : Nat) (c : Code) (k : Nat) (W : World), w.heap.size ≤ D → D < w.heap.size + 2 → k ≤ len → Ix c k W → W.heap[D]? = some (.deferred (some [])) → c.wpIn Fence.wide n Try.prog Q { a with defers := { target := .collected D, args := #[] } :: a.defers } W) :
    (Code.rangeFunc gop #[p] assign body).wpIn Fence.wide n Try.prog Q a w := by
  refine wpIn_rangeFunc ?_
  intro fn hfn
  rw [show Fence.wide.round = none from rfl]
  obtain ⟨rec, hrec⟩ : ∃ rec : LoopState → Option Code → Loop, rec = fun st pe => { state := st, pending := pe, fn, tmps := a.tmps, params := #[p], assign, body, defers := w.heap.size } := ⟨_, rfl⟩
  obtain ⟨W1, hW1⟩ : ∃ W1, (w.alloc (.deferred (some []))).alloc (.loop (rec .ready none)) = W1 := ⟨_, rfl⟩
  have hL1 : W1.heap[w.heap.size + 1]? = some (.loop (rec .ready none)) := by
    rw [← hW1]; have := World.alloc_heap_new (w.alloc (.deferred (some []))) (.loop (rec .ready none)); rwa [World.size_alloc] at this
  have hK1 : W1.heap[w.heap.size]? = some (.deferred (some [])) := by
    rw [← hW1]; exact (Below.heap_alloc _ _ _ (by simp)).trans (World.alloc_heap_new w _)
  have hb1 : Below w.heap.size w W1 := by
    rw [← hW1]; exact (((Below.refl _ w).alloc (Nat.le_refl _) _).alloc (by simp) _)
  have hz1 : W1.heap.size = w.heap.size + 2 := by rw [← hW1]; simp
  have hI1 : I 0 W1 := hI _ _ _ (Tch.of_below hb1 (Nat.le_refl _) _) h0
  have put1 : ∀ (X : World) (o : Obj), Tch (fun i => i = w.heap.size ∨ i = w.heap.size + 1) X (X.putObj (w.heap.size + 1) o) := fun X o => (Tch.refl _ X).putObj1 (.inl (.inr rfl)) o
  refine ⟨w.heap.size + 1, [{ target := .collected w.heap.size, args := #[] }], W1, { target := .fn (.func gf) lb, args := #[.func (.yield (w.heap.size + 1)) #[] #[]] }, W1, gf,
    #[.func (.yield (w.heap.size + 1)) #[] #[]] ++ lb, W1, ?_, ?_, ?_, ?_, fun h => by simp [Fence.wide] at h, ?_⟩
  · rw [← hW1, hrec]; exact run_enterLoop_outer _ _ _ _ _
  · simp only [resolve, hg]
    simp [go_sem]
  · intro f' hf'; trivial
  · simp [invoke, go_sem, eg]
  · have fin : ∀ (jump : Option Code) (W3 W : World), w.heap.size + 2 ≤ W.heap.size → W.heap[w.heap.size + 1]? = some (.loop { rec .ready none with state := .busy }) → W.heap[w.heap.size]? = some (.deferred (some [])) → Tch U W W3 →
          (Instr.endRound (w.heap.size + 1) jump).run Try.prog W3 = .ok (.bool jump.isNone) (W3.putObj (w.heap.size + 1) (.loop (rec (if jump.isNone then .ready else .done) jump))) ∧
          (W3.putObj (w.heap.size + 1) (.loop (rec (if jump.isNone then .ready else .done) jump))).heap[w.heap.size + 1]? = some (.loop (rec (if jump.isNone then .ready else .done) jump)) ∧
          (W3.putObj (w.heap.size + 1) (.loop (rec (if jump.isNone then .ready else .done) jump))).heap[w.heap.size]? = some (.deferred (some [])) := fun jump W3 W hz hl2 hk2 ht => by
      have hl3 := (ht.block (w.heap.size + 1) (by omega) (fun e => by have := hU _ e; omega)).trans hl2
      have hk3 := (ht.block w.heap.size (by omega) (fun e => by have := hU _ e; omega)).trans hk2
      have := run_endRound (P := Try.prog) jump hl3
      rw [hrec] at this ⊢
      exact ⟨this, World.putObj_heap_same (Array.getElem?_eq_some_iff.1 hl3).1, (World.putObj_heap_other (by omega)).trans hk3⟩
    refine (hseq _ (w.heap.size + 1)
      (fun k W => I k W ∧ W.heap[w.heap.size + 1]? = some (.loop (rec .ready none)) ∧ W.heap[w.heap.size]? = some (.deferred (some [])))
      (fun k W => ∃ c, Ix c k W ∧ W.heap[w.heap.size + 1]? = some (.loop (rec .done (some c))) ∧ W.heap[w.heap.size]? = some (.deferred (some [])))
      (fun i => U i ∨ i = w.heap.size + 1) W1 (hIt _ hb1 hz1) (hSt.imp id (fun h k X e => by obtain ⟨c, hc, _⟩ := e; exact h c k X hc))
      (fun k X Y hb hs => ⟨hI k X Y (Tch.of_below hb (Nat.le_refl _) _) hs.1, (hb.block _ (Array.getElem?_eq_some_iff.1 hs.2.1).1).trans hs.2.1, (hb.block _ (Array.getElem?_eq_some_iff.1 hs.2.2).1).trans hs.2.2⟩)
      (fun k X Y hb hs => by
        obtain ⟨c, hc, hl, hk⟩ := hs
        exact ⟨c, hIx c k X Y (Tch.of_below hb (Nat.le_refl _) _) hc, (hb.block _ (Array.getElem?_eq_some_iff.1 hl).1).trans hl, (hb.block _ (Array.getElem?_eq_some_iff.1 hk).1).trans hk⟩)
      ?_ ⟨hI1, hL1, hK1⟩).mono ?_
    · -- one round
      rintro k v W hz ⟨hi, hl, hk⟩ hx hown m
      rw [hz1] at hz hown
      have hy := run_yield (P := Try.prog) (args := #[v]) hl (by rw [hrec]; rfl)
      rw [hrec] at hy
      refine ⟨fn, _, assign, body, hy, RoundIn.any1 (m := n - 1 - 1) (roundIn_of_wpIn hfn ?_)⟩
      have hfold : ∀ (ps : Array Tmp) (vs : Array Value), ps = #[p] → vs = #[v] → (ps.zip vs).foldl (fun t (y : Nat × Value) => match y with | (p, v) => t.setIfInBounds p v) a.tmps = a.tmps.setIfInBounds p v := by
        intro ps vs e1 e2; subst e1; subst e2; simp
      have hfr : ∀ tmps0, tmps0 = a.tmps.setIfInBounds p v → assign.wpIn (Fence.wide.inRound (w.heap.size + 1)) (n - 1 - 1) Try.prog (Exit.then (fun a₁ w₁ => ∃ w₂, (Instr.beginRound (w.heap.size + 1)).run Try.prog w₁ = .ok () w₂ ∧ body.wpIn (Fence.wide.inRound (w.heap.size + 1)) (n - 1 - 1) Try.prog (roundPost Try.prog (w.heap.size + 1) (fun e W' =>
        (e = .returned (.bool true) ∧ (I (k + 1) W' ∧ W'.heap[w.heap.size + 1]? = some (.loop (rec .ready none)) ∧ W'.heap[w.heap.size]? = some (.deferred (some []))) ∧ Tch (fun i => U i ∨ i = w.heap.size + 1) W W') ∨ (e = .returned (.bool false) ∧ (∃ c, Ix c (k + 1) W' ∧ W'.heap[w.heap.size + 1]? = some (.loop (rec .done (some c))) ∧ W'.heap[w.heap.size]? = some (.deferred (some []))) ∧ Tch (fun i => U i ∨ i = w.heap.size + 1) W W'))) a₁ w₂) (fun _ _ _ => False)) { tmps := tmps0, defers := [] } W := by
        rintro _ rfl
        refine hassign _ k _ W _ hz hown ?_
        intro a2 Wn hbel haq
        have hi' : I k Wn := hI _ _ _ (Tch.of_below hbel (Nat.le_refl _) _) hi
        have hl' := (hbel.block _ (Array.getElem?_eq_some_iff.1 hl).1).trans hl
        have hk' := (hbel.block _ (Array.getElem?_eq_some_iff.1 hk).1).trans hk
        have hx' := hYv k v _ _ (Tch.of_below hbel (Nat.le_refl _) _) hown
        have hz' : w.heap.size + 2 ≤ Wn.heap.size := Nat.le_trans hz hbel.size
        refine ⟨_, run_beginRound hl' (by rw [hrec]), ?_⟩
        have hlt : w.heap.size + 1 < Wn.heap.size := by omega
        have hl2 : (Wn.putObj (w.heap.size + 1) (.loop { rec .ready none with state := .busy })).heap[w.heap.size + 1]? = some (.loop { rec .ready none with state := .busy }) := World.putObj_heap_same hlt
        have hk2 : (Wn.putObj (w.heap.size + 1) (.loop { rec .ready none with state := .busy })).heap[w.heap.size]? = some (.deferred (some [])) := (World.putObj_heap_other (by omega)).trans hk'
        have ht1 : Tch (fun i => i = w.heap.size + 1) W Wn := Tch.of_below hbel (Nat.le_refl _) _
        have ht1b := (Tch.refl (fun i => i = w.heap.size + 1) Wn).putObj1 (r := w.heap.size + 1) (.inl rfl) (.loop { rec .ready none with state := .busy })
        have ht2 := ht1.trans ht1b (fun i _ e => e)
        have hz2 : w.heap.size + 2 ≤ (Wn.putObj (w.heap.size + 1) (.loop { rec .ready none with state := .busy })).heap.size := by simpa using hz'
        refine wpIn_mono (hbody _ k v _ _ hz2 (hI _ _ _ (put1 Wn _) hi') hx (hYv _ _ _ _ (ht1b.mono (fun i _ e => by omega)) hx') (hAq _ _ _ _ (put1 Wn _) haq)) ?_
        generalize Wn.putObj (w.heap.size + 1) (.loop { rec .ready none with state := .busy }) = Wb at hl2 hk2 ht2 hz2
        have j12 : ∀ W3, Tch U Wb W3 → ∀ o, Tch (fun i => U i ∨ i = w.heap.size + 1) W (W3.putObj (w.heap.size + 1) o) := fun W3 ht3 o => by
          have h12 : Tch (fun i => U i ∨ i = w.heap.size + 1) W W3 := (ht2.mono (S' := fun i => U i ∨ i = w.heap.size + 1) (fun i _ e => .inr e)).trans ht3 (fun i _ e => .inl e)
          exact h12.putObj1 (.inl (.inr rfl)) _
        rintro e a3 W3 hp
        cases e with
        | normal =>
          obtain ⟨ht3, hi3⟩ := hp
          obtain ⟨hr, hl4, hk4⟩ := fin none W3 Wb hz2 hl2 hk2 ht3
          refine ⟨_, _, hr, .inl ⟨rfl, ⟨hI _ _ _ (put1 W3 _) hi3, hl4, hk4⟩, ?_⟩⟩
          exact j12 _ ht3 _
        | ret =>
          obtain ⟨ht3, hi3⟩ := hp
          obtain ⟨hr, hl4, hk4⟩ := fin (some .ret) W3 Wb hz2 hl2 hk2 ht3
          exact ⟨_, _, hr, .inr ⟨rfl, ⟨.ret, hIx _ _ _ _ (put1 W3 _) hi3, hl4, hk4⟩, j12 _ ht3 _⟩⟩
        | exit id =>
          obtain ⟨ht3, hi3⟩ := hp
          obtain ⟨hr, hl4, hk4⟩ := fin (some (.exit id)) W3 Wb hz2 hl2 hk2 ht3
          exact ⟨_, _, hr, .inr ⟨rfl, ⟨.exit id, hIx _ _ _ _ (put1 W3 _) hi3, hl4, hk4⟩, j12 _ ht3 _⟩⟩
        | goto t =>
          obtain ⟨ht3, hi3⟩ := hp
          obtain ⟨hr, hl4, hk4⟩ := fin (some (.goto t)) W3 Wb hz2 hl2 hk2 ht3
          exact ⟨_, _, hr, .inr ⟨rfl, ⟨.goto t, hIx _ _ _ _ (put1 W3 _) hi3, hl4, hk4⟩, j12 _ ht3 _⟩⟩
        | panic ch => exact hp.elim
        | outgrown => exact hp.elim
      rw [hrec]
      rw [hrec] at hfr
      exact hfr _ (hfold _ _ rfl rfl)
    · -- behind the iterator
      rintro e W2 ⟨⟨v, rfl⟩, (⟨hi, hl, hk⟩ | ⟨k, hle, c, hi, hl, hk⟩)⟩
      · exact ⟨none, _, by have := run_endLoop (P := Try.prog) hl (by rw [hrec]; simp); rw [hrec] at this; exact this, hdone _ _ (Nat.le_refl _) (by omega) (by have := (Array.getElem?_eq_some_iff.1 hl).1; simp; omega) (hI _ _ _ (put1 W2 _) hi) ((World.putObj_heap_other (by omega)).trans hk)⟩
      · exact ⟨some c, _, by have := run_endLoop (P := Try.prog) hl (by rw [hrec]; simp); rw [hrec] at this; exact this, hstop _ c k _ (Nat.le_refl _) (by omega) hle (hIx _ _ _ _ (put1 W2 _) hi) ((World.putObj_heap_other (by omega)).trans hk)⟩
end Go.Proofs.Ytlgpoaapmgcloaa

