/- What the walk of SuspectLeaves keeps. -/
import Derived.Test.YtgajbaipkhopkaaXr
namespace Go.Proofs.Ytgajbaipkhopkaa
open Go.RowKit Go.Shelf

/-- Blocks of the walk, in the order in which they were made: many, a call, the result, the watch, the reference's. -/
structure LP (w W : World) (b G : Nat) (s : St) (cs : Array Value) (many : Int) (x : Ac) : Prop where
  isw : IsW W b s
  blk : Blk W G 35 cs
  bel : Below w.heap.size w W
  bm : Boxed W w.heap.size 3 (.int .i64 many)
  bx : Blk W (w.heap.size + 1) 24 x.cells
  br : Boxed W (w.heap.size + 2) 4 (.bool false)
  o1 : w.heap.size + 2 < b
  o2 : b < G
section
variable {w W W' : World} {b G : Nat} {s : St} {cs : Array Value} {many : Int} {x : Ac}
theorem Boxed.below {W W' : World} {B N : Nat} {t : TypeId} {v : Value} (h : Boxed W B t v) (hb : Below N W W') (hB : B < N) : Boxed W' B t v := (hb.block B hB).trans h
theorem Boxed.only {W W' : World} {B k : Nat} {t : TypeId} {v : Value} (h : Boxed W B t v) (hO : Only k W W') (hB : B ≠ k) : Boxed W' B t v := (hO.block B h.lt (fun e => hB (by injection e))).trans h
theorem LP.below (h : LP w W b G s cs many x) (hb : Below W.heap.size W W') : LP w W' b G s cs many x :=
  ⟨h.isw.below hb h.isw.lt, h.blk.below hb h.blk.lt, h.bel.trans (hb.mono h.bel.size), Boxed.below h.bm hb h.bm.lt, h.bx.below hb h.bx.lt, Boxed.below h.br hb h.br.lt, h.o1, h.o2⟩
theorem LP.act (h : LP w W b G s cs many x) {s' : St} (hW : IsW W' b s') (hO : Only b W W') : LP w W' b G s' cs many x := by
  have o1 := h.o1; have o2 := h.o2
  exact ⟨hW, hO.blk h.blk (by omega), h.bel.trans (hO.below h.bel.size (by omega)), Boxed.only h.bm hO (by omega), hO.blk h.bx (by omega), Boxed.only h.br hO (by omega), h.o1, h.o2⟩
theorem LP.put (h : LP w W b G s cs many x) {cs2 : Array Value} (hB : Blk W' G 35 cs2) (hO : Only G W W') : LP w W' b G s cs2 many x := by
  have o1 := h.o1; have o2 := h.o2
  exact ⟨h.isw.far2 hO (by omega), hB, h.bel.trans (hO.below h.bel.size (by omega)), Boxed.only h.bm hO (by omega), hO.blk h.bx (by omega), Boxed.only h.br hO (by omega), h.o1, h.o2⟩
theorem LP.far (h : LP w W b G s cs many x) {k : Nat} (hO : Only k W W') (hk : G < k) : LP w W' b G s cs many x := by
  have o1 := h.o1; have o2 := h.o2
  exact ⟨h.isw.far2 hO (by omega), hO.blk h.blk (by omega), h.bel.trans (hO.below h.bel.size (by omega)), Boxed.only h.bm hO (by omega), hO.blk h.bx (by omega), Boxed.only h.br hO (by omega), h.o1, h.o2⟩
theorem LP.cx (h : LP w W b G s cs many x) : W.cell? ⟨w.heap.size + 1, 0, none⟩ = some (.bool x.hear) ∧ W.cell? ⟨w.heap.size + 1, 1, none⟩ = some (.int .i64 x.place) ∧ W.cell? ⟨w.heap.size + 1, 2, none⟩ = some (.int .i64 x.n) :=
  ⟨h.bx.cell rfl, h.bx.cell rfl, h.bx.cell rfl⟩
end
theorem LP.start {w : World} (many : Int) (x : Ac) : Boxed (((w.alloc (.cells #[.int .i64 many] 3)).alloc (.cells x.cells 24)).alloc (.cells #[.bool false] 4)) w.heap.size 3 (.int .i64 many) ∧ Blk (((w.alloc (.cells #[.int .i64 many] 3)).alloc (.cells x.cells 24)).alloc (.cells #[.bool false] 4)) (w.heap.size + 1) 24 x.cells ∧ Boxed (((w.alloc (.cells #[.int .i64 many] 3)).alloc (.cells x.cells 24)).alloc (.cells #[.bool false] 4)) (w.heap.size + 2) 4 (.bool false) ∧ Below w.heap.size w (((w.alloc (.cells #[.int .i64 many] 3)).alloc (.cells x.cells 24)).alloc (.cells #[.bool false] 4)) ∧ (((w.alloc (.cells #[.int .i64 many] 3)).alloc (.cells x.cells 24)).alloc (.cells #[.bool false] 4)).heap.size = w.heap.size + 3 :=
  ⟨((Boxed.new w _ _).alloc _).alloc _, (Blk.new2 w _ _ _).alloc _, by have := Boxed.new ((w.alloc (.cells #[.int .i64 many] 3)).alloc (.cells x.cells 24)) 4 (.bool false); simpa using this, (((Below.refl _ _).alloc (Nat.le_refl _) _).alloc (by simp) _).alloc (by simp; omega) _, by simp⟩
theorem new945 : newOk 9 4 5 = true := by decide +kernel

/-- A slice of ints in memory reads as these numbers; its block lies from base on. -/
def NatsAt (W : World) (base : Nat) (a : Option Addr) (L : List Nat) : Prop := ∀ (k x : Nat), L[k]? = some x → ∃ g, a = some ⟨g, 0, none⟩ ∧ base ≤ g ∧ g < W.heap.size ∧ W.cell? ⟨g, k, none⟩ = some (.int .i64 (x : Int))
theorem NatsAt.below {W W' : World} {base : Nat} {a : Option Addr} {L : List Nat} (h : NatsAt W base a L) (hb : Below W.heap.size W W') : NatsAt W' base a L := fun k x hk => by
  obtain ⟨g, e, h0, hg, hc⟩ := h k x hk
  exact ⟨g, e, h0, Nat.lt_of_lt_of_le hg hb.size, (hb.cell (p := ⟨g, k, none⟩) hg).trans hc⟩
theorem NatsAt.only {W W' : World} {base b : Nat} {a : Option Addr} {L : List Nat} (h : NatsAt W base a L) (hO : Only b W W') (hb : b < base) : NatsAt W' base a L := fun k x hk => by
  obtain ⟨g, e, h0, hg, hc⟩ := h k x hk
  exact ⟨g, e, h0, Nat.lt_of_lt_of_le hg hO.size, (World.cell?_of_block (a := ⟨g, k, none⟩) (hO.block g hg (fun e => by injection e; omega))).trans hc⟩
theorem nats_of {W : World} {base : Nat} {v : Value} {L : List Nat} (h : Ints W base v (L.map Int.ofNat)) : ∃ a cap, v = .slice a L.length cap ∧ NatsAt W base a L := by
  have hh := h
  obtain ⟨_, h2⟩ := h
  rcases h2 with ⟨rfl, h2⟩ | ⟨g, cap, cur, rfl, hg, hb, hc, _⟩
  · have h0 : L = [] := by cases L <;> simp_all
    subst h0
    exact ⟨none, 0, rfl, fun k x hk => by simp at hk⟩
  · refine ⟨some ⟨g, 0, none⟩, cap, by simp, fun k x hk => ⟨g, rfl, hg, (Array.getElem?_eq_some_iff.1 hb).1, ?_⟩⟩
    have := World.ownsRow.cells hh (g := g) rfl k (.int .i64 (x : Int)) (by simp [hk])
    unfold Addr.add at this
    split at this
    · rename_i e; rw [e]; exact this
    · simpa using this
/-- What lies while the suspects are gone over. -/
structure LV (w W : World) (BL Bs g base : Nat) (al : Option Addr) (cl : Nat) (L : List Nat) (xs : List Wd) (many : Int) : Prop where
  bel : Below w.heap.size w W
  bm : Boxed W w.heap.size 3 (.int .i64 many)
  br : Boxed W (w.heap.size + 2) 4 (.bool false)
  bl : Boxed W BL 40 (.slice al L.length cl)
  na : NatsAt W base al L
  it : SusIt W Bs g xs
theorem LV.below {w W W' : World} {BL Bs g base : Nat} {al : Option Addr} {cl : Nat} {L : List Nat} {xs : List Wd} {many : Int} (h : LV w W BL Bs g base al cl L xs many) (hb : Below W.heap.size W W') : LV w W' BL Bs g base al cl L xs many :=
  ⟨h.bel.trans (hb.mono h.bel.size), Boxed.below h.bm hb h.bm.lt, Boxed.below h.br hb h.br.lt, Boxed.below h.bl hb h.bl.lt, h.na.below hb, h.it.below hb⟩
theorem fold1 (t : Array Value) (p : Nat) (v : Value) : (#[p].zip #[v]).foldl (fun t (x : Nat × Value) => match x with | (p, v) => t.setIfInBounds p v) t = t.setIfInBounds p v := by simp
/-- The suspects are gone over, one after another. -/
theorem range_sus {assign body : Code} {Q : Exit → Act → World → Prop} {a : Act} {w : World} (gop : Operand) (p q Bs gb : Nat) (xs : List Wd)
    (hg : a.eval gop = .func (.func 34) #[] #[.pointer (some ⟨Bs, 0, none⟩)]) (hIt : SusIt w Bs gb xs)
    (I : List Nat → World → Prop) (Ix : Code → List Nat → World → Prop) (hI : OwnFrom w.heap.size I) (hIx : ∀ c, OwnFrom w.heap.size (Ix c)) (h0 : I [] w)
    (hassign : ∀ (l : Nat) (x : Nat) (W : World) (K : Act → World → Prop), K { tmps := (a.tmps.setIfInBounds p (.int .i64 x)).setIfInBounds q (.int .i64 x), defers := [] } W →
      assign.wpIn (Fence.wide.inRound l) 3 Try.prog (Exit.then K (fun _ _ _ => False)) { tmps := a.tmps.setIfInBounds p (.int .i64 x), defers := [] } W)
    (hbody : ∀ (l : Nat) (pre : List Nat) (x : Nat) (W : World), I pre W → pre.length < xs.length → body.wpIn (Fence.wide.inRound l) 3 Try.prog (ownPostG w.heap.size (Hold gb) I Ix (pre ++ [x]) W) { tmps := (a.tmps.setIfInBounds p (.int .i64 x)).setIfInBounds q (.int .i64 x), defers := [] } W)
    (hdone : ∀ (D : Nat) (W : World), w.heap.size ≤ D → I (sus xs xs.length) W → W.heap[D]? = some (.deferred (some [])) → Q .normal { a with defers := { target := .collected D, args := #[] } :: a.defers } W)
    (hstop : ∀ (D : Nat) (c : Code) (pre : List Nat) (W : World), w.heap.size ≤ D → pre <+: sus xs xs.length → Ix c pre W → W.heap[D]? = some (.deferred (some [])) → c.wpIn Fence.wide 5 Try.prog Q { a with defers := { target := .collected D, args := #[] } :: a.defers } W) :
    (Code.rangeFunc gop #[p] assign body).wpIn Fence.wide 5 Try.prog Q a w :=
  wpIn_rangeFunc_ownG rfl (by omega) (gf := 34) (lb := #[.pointer (some ⟨Bs, 0, none⟩)]) hg trivial (enters_of Try.func34 (by kernel_rfl) rfl)
    (sus_stops 4 Bs gb xs w hIt) Hold.trans (hold_b hIt.2.1) (Below.refl _ _) (fun _ => rfl) I Ix hI hIx h0 (fun x => { tmps := (a.tmps.setIfInBounds p (.int .i64 x)).setIfInBounds q (.int .i64 x), defers := [] }) (fun l x W K hK => by have h := hassign l x W K hK; rw [← fold1] at h; exact h) hbody (fun D ys W hD e hi hK => by subst e; exact hdone D W hD hi hK) hstop
/-- .. with no panic among the ways out. -/
def NoPan (Q : Exit → Act → World → Prop) : Exit → Act → World → Prop := fun e a w => (∀ c, e ≠ .panic c) ∧ Q e a w
theorem NoPan.no {Q : Exit → Act → World → Prop} {c : List PanicEntry} {a : Act} {w : World} {p : Prop} (h : NoPan Q (.panic c) a w) : p := absurd rfl (h.1 c)
theorem NoPan.mk {Q : Exit → Act → World → Prop} {a : Act} {w : World} (h : Q .ret a w) : NoPan Q .ret a w := ⟨fun c => by simp, h⟩
theorem pre_next {L pre : List Nat} {x : Nat} (h : pre <+: L) : (pre ++ [x] <+: L) ↔ L[pre.length]? = some x := by
  obtain ⟨t, rfl⟩ := h
  constructor
  · rintro ⟨u, hu⟩
    rw [List.append_assoc] at hu
    have := List.append_cancel_left hu
    subst this
    simp
  · intro hx
    cases t with
    | nil => simp at hx
    | cons y t =>
      simp at hx
      subst hx
      exact ⟨t, by simp⟩
theorem pre_all {L pre : List Nat} (h : pre <+: L) (hl : pre.length = L.length) : pre = L := List.IsPrefix.eq_of_length h hl
end Go.Proofs.Ytgajbaipkhopkaa
