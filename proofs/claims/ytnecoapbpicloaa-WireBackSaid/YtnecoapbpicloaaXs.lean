/- Contracts: the iterator value over frames. -/
import Derived.Test.YtnecoapbpicloaaXr
namespace Go.Proofs.Ytnecoapbpicloaa
open Go.RowKit Go.Shelf
set_option linter.unusedSimpArgs false
set_option linter.unusedVariables false
set_option maxRecDepth 100000

/-- What an iterator value over frames holds. -/
structure FrIt (W : World) (Bb : Nat) (A : Option Addr) (n C : Nat) (l : List By) : Prop where
  box : Boxed W Bb 22 (.slice A n C)
  own : OwnB W (Bb + 1) (.slice A n C) l
  cap : n ≤ C
theorem OwnB.bysP {W : World} {base n C : Nat} {A : Option Addr} {l : List By} (h : OwnB W base (.slice A n C) l) : Bys W A n l ∧ l.length = n := by
  obtain ⟨a9, c9, e9, _, hy9⟩ := h.bys
  cases e9
  exact ⟨hy9, rfl⟩
theorem FrIt.xb {W : World} {Bb : Nat} {A : Option Addr} {n C : Nat} {l : List By} (h : FrIt W Bb A n C l) : ∀ i, XB A i → Bb < i ∧ i < W.heap.size := fun i ⟨off, e⟩ => by
  have := own_lt h.own i (by rw [e]; rfl); omega
theorem FrIt.below {W W' : World} {Bb : Nat} {A : Option Addr} {n C : Nat} {l : List By} (h : FrIt W Bb A n C l) (hb : Below W.heap.size W W') : FrIt W' Bb A n C l :=
  ⟨boxed_below h.box hb h.box.lt, h.own.below hb, h.cap⟩
theorem Gives.mono {gf : Nat} {lb : Array Value} {full : List (Nat × List By)} {It It' : World → Prop} {Av Z : Nat → Prop} (h : Gives gf lb full It Av Z) (hi : ∀ W, It' W → It W) : Gives gf lb full It' Av Z :=
  fun n l J Jx U W h1 => h n l J Jx U W (hi W h1)
theorem FrIt.gives {W : World} {Bb : Nat} {A : Option Addr} {n C : Nat} {l : List By} (h : FrIt W Bb A n C l) (hn : n ≤ 1000000) :
    Gives 58 #[.pointer (some ⟨Bb, 0, none⟩)] (partsB l) (fun X => FrIt X Bb A n C l) (fun i => i = Bb ∨ XB A i) (fun _ => False) :=
  (frames1_gives Bb A n C l hn h.cap (fun e => by have := h.xb _ e; omega)).mono fun X hX => ⟨hX.box, hX.own.bysP.1, fun g e => (hX.xb g e).2⟩

theorem frames_c (a : Option Addr) (n c : Nat) (l : List By) (w : World) (h : Bys w a n l) (hn : n ≤ 1000000) :
    Calls Try.prog 30 #[.slice a n c] w fun e w' => ∃ A C, e = .returned (.func (.func 58) #[] #[.pointer (some ⟨w.heap.size, 0, none⟩)]) ∧ FrIt w' w.heap.size A n C l ∧ Below w.heap.size w w' := by
  have hmf : ∀ (fn : Fn) (first cap : Array Value) (w : World), (Instr.makeFunc fn first cap).run Try.prog w = .ok (.func fn first cap) w := fun _ _ _ _ => rfl
  have H := Lib.hid h
  have hl := h.1
  have HBX := Lib.hid (Boxed.new w 22 (.slice a n c))
  have HB := Lib.hid ((Below.refl w.heap.size w).alloc (Nat.le_refl _) (.cells #[.slice a n c] 22))
  clear h
  go_enter Try.func30, Try.ntmps30
  go_wp2_with fail
  refine (clone_c a n c l _ (H.out.below ((Below.refl _ _).alloc (Nat.le_refl _) _)) (by omega)).mono ?_
  rintro e w2 ⟨v, rfl, ho, hb⟩
  obtain ⟨A, C, rfl, hC, hy⟩ := ho.bys
  rw [hl] at ho hC ⊢
  have hbx := boxed_below HBX.out hb HBX.out.lt
  have hc := hbx.cell
  have hf := hbx.frozen
  have hw0 : (w.alloc (.cells #[.slice a n c] 22)).heap.size = w.heap.size + 1 := by simp
  rw [hw0] at ho
  have hB2 := HB.out.trans (hb.mono (by rw [hw0]; omega))
  have HIT : Hid (FrIt (w2.setCell ⟨w.heap.size, 0, none⟩ (.slice A n C)) w.heap.size A n C l) := Lib.hid ⟨Boxed.set _ hbx, ((Tch.refl (fun i => i = w.heap.size) w2).setCell (p := ⟨w.heap.size, 0, none⟩) (.inl rfl) (.slice A n C)).own ho (fun i e e2 => by have := (own_lt ho i e).1; omega), hC⟩
  have HB3 := Lib.hid (hB2.setCell (p := ⟨w.heap.size, 0, none⟩) (Nat.le_refl _) (.slice A n C))
  clear ho hb hy hbx hw0 hB2
  go_wp2_with fail
  go_ret
  exact ⟨A, C, rfl, HIT.out, HB3.out⟩

/-- A loop over an iterator that gives, whose variables lie in slots. -/
theorem range_gives2 {gop : Operand} {p q : Tmp} {assign body : Code} {Q : Exit → Act → World → Prop} {a : Act} {w : World} {n : Nat}
    {gf : Nat} {lb : Array Value} {full : List (Nat × List By)} {It : World → Prop} {Av Z : Nat → Prop} (hseq : Gives gf lb full It Av Z)
    (hg : a.eval gop = .func (.func gf) #[] lb) (eg : ∀ args w, (callFunc gf args).run Try.prog w = .ok (.enter gf args) w)
    (hIt : ∀ W, Below w.heap.size w W → It W) (hAv : ∀ i, Av i → i < w.heap.size) (hZ : ∀ i, Z i → i < w.heap.size) (U : Nat → Prop) (hU : ∀ i, U i → i < w.heap.size ∧ ¬ Av i)
    (p' q' : Tmp) (I : Nat → World → Prop) (Ix : Code → Nat → World → Prop) (hI : Kept w.heap.size Z I) (hIx : ∀ c, Kept w.heap.size Z (Ix c)) (h0 : I 0 w)
    (hassign : ∀ (l : Nat) (v u : Value) (W : World) (K : Act → World → Prop), K { tmps := (((a.tmps.setIfInBounds p v).setIfInBounds q u).setIfInBounds p' v).setIfInBounds q' u, defers := [] } W →
      assign.wpIn (Fence.wide.inRound l) (n - 1 - 1) Try.prog (Exit.then K (fun _ _ _ => False)) { tmps := (a.tmps.setIfInBounds p v).setIfInBounds q u, defers := [] } W)
    (hbody : ∀ (l k : Nat) (d : Nat) (lx : List By) (mx : Nat) (av : Option Addr) (c : Nat) (W : World), mx = lx.length → w.heap.size + 2 ≤ W.heap.size → I k W → full[k]? = some (d, lx) → OwnB W (w.heap.size + 2) (.slice av mx c) lx →
      body.wpIn (Fence.wide.inRound l) (n - 1 - 1) Try.prog (givesPost (fun i => U i ∨ XB av i) I Ix (k + 1) W) { tmps := (((a.tmps.setIfInBounds p (.int .i64 (d : Int))).setIfInBounds q (.slice av mx c)).setIfInBounds p' (.int .i64 (d : Int))).setIfInBounds q' (.slice av mx c), defers := [] } W)
    (hdone : ∀ (D : Nat) (W : World), w.heap.size ≤ D → I full.length W → W.heap[D]? = some (.deferred (some [])) → Q .normal { a with defers := { target := .collected D, args := #[] } :: a.defers } W)
    (hstop : ∀ (D : Nat) (c : Code) (k : Nat) (W : World), w.heap.size ≤ D → k ≤ full.length → Ix c k W → W.heap[D]? = some (.deferred (some [])) → c.wpIn Fence.wide n Try.prog Q { a with defers := { target := .collected D, args := #[] } :: a.defers } W) :
    (Code.rangeFunc gop #[p, q] assign body).wpIn Fence.wide n Try.prog Q a w :=
  range_gives hseq hg eg hIt hAv hZ U hU I Ix hI hIx h0 (fun v u => { tmps := (((a.tmps.setIfInBounds p v).setIfInBounds q u).setIfInBounds p' v).setIfInBounds q' u, defers := [] }) hassign
    (fun l k x av c W hz hi hx ho => hbody l k x.1 x.2 _ av c W rfl hz hi hx ho) hdone hstop
end Go.Proofs.Ytnecoapbpicloaa
