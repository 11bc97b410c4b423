/- Small facts on worlds, and what a watch in memory reads as. No condition. -/
import Derived.Test.YtgajbaipkhopkaaRows
import Derived.WalkKit
import Derived.WalkSpells
import Derived.WalkLawsBesides
import Derived.BigQuiet
import Derived.Deep.QuietTactic
import Derived.StillTailTactics
import Derived.Lib.Hide
import Derived.Maps.AppendAt
namespace Go.Proofs.Ytgajbaipkhopkaa
open Go.RowKit

theorem cell_lt {w : World} {a : Addr} {v : Value} (h : w.cell? a = some v) : a.block < w.heap.size := by
  unfold World.cell? at h
  rcases Nat.lt_or_ge a.block w.heap.size with hlt | hge
  · exact hlt
  · rw [Array.getElem?_eq_none hge] at h; cases h
theorem cell_al {w : World} {a : Addr} {v : Value} (h : w.cell? a = some v) (o : Obj) : (w.alloc o).cell? a = some v := by
  rw [← h]; exact World.cell?_alloc_lt w o a (cell_lt h)
theorem blk0 {w : World} {t : TypeId} {c : Array Value} {v : Value} {i : Nat} (h : c[i]? = some v) : (w.alloc (.cells c t)).cell? ⟨w.heap.size, i, none⟩ = some v :=
  (World.cell?_alloc_at _ _ _ _ rfl).trans h

/-- Block g is just the cells cs. -/
def Blk (w : World) (g : Nat) (t : TypeId) (cs : Array Value) : Prop := w.heap[g]? = some (.cells cs t (0, 0))

section
variable {w w' : World} {g : Nat} {t : TypeId} {cs : Array Value}
theorem Blk.lt (h : Blk w g t cs) : g < w.heap.size := by
  unfold Blk at h
  rcases Nat.lt_or_ge g w.heap.size with hlt | hge
  · exact hlt
  · rw [Array.getElem?_eq_none hge] at h; cases h
theorem Blk.cell {i : Nat} {v : Value} (h : Blk w g t cs) (hv : cs[i]? = some v) : w.cell? ⟨g, i, none⟩ = some v := by
  unfold Blk at h; simp [World.cell?, h, hv]
theorem Blk.frozen (h : Blk w g t cs) (i : Nat) : w.frozen? ⟨g, i, none⟩ = false := by
  unfold Blk at h; simp [World.frozen?, h]
theorem Blk.new (w : World) (t : TypeId) (cs : Array Value) : Blk (w.alloc (.cells cs t)) w.heap.size t cs := heap_alloc_new w _
theorem Blk.alloc (h : Blk w g t cs) (o : Obj) : Blk (w.alloc o) g t cs := (Below.heap_alloc w o g h.lt).trans h
theorem Blk.drew (h : Blk w g t cs) : Blk w.drew g t cs := h
theorem Blk.set (h : Blk w g t cs) (i : Nat) (u : Value) : Blk (w.setCell ⟨g, i, none⟩ u) g t (cs.setIfInBounds i u) := by
  unfold Blk at h ⊢; simp [World.setCell, Array.getElem?_modify, h]
theorem Blk.far (h : Blk w g t cs) {p : Addr} (hp : g ≠ p.block) (u : Value) : Blk (w.setCell p u) g t cs := (Below.heap_setCell w p u g hp).trans h
theorem Blk.below {B : Nat} (h : Blk w g t cs) (hb : Below B w w') (hg : g < B) : Blk w' g t cs := (hb.block g hg).trans h
theorem Blk.grown {row : Option Nat} (h : Blk w g t cs) (hb : w.grownBy w' row) (hg : some g ≠ row) : Blk w' g t cs := (hb.block g h.lt hg).trans h
end

/-- 'w' is w, but for block g and what is new'. -/
def Only (g : Nat) (w w' : World) : Prop := w.grownBy w' (some g)
section
variable {g : Nat} {a w w' : World}
theorem Only.refl (g : Nat) (w : World) : Only g w w := ⟨rfl, rfl, rfl, Nat.le_refl _, fun _ _ _ => rfl⟩
theorem Only.trans {b c : World} (h : Only g a b) (k : Only g b c) : Only g a c :=
  ⟨k.os.trans h.os, k.tape.trans h.tape, k.output.trans h.output, Nat.le_trans h.size k.size, fun i hi hn => (k.block i (Nat.lt_of_lt_of_le hi h.size) hn).trans (h.block i hi hn)⟩
theorem Only.of_below (h : Below a.heap.size a w) (g : Nat) : Only g a w := ⟨h.os, h.tape, h.output, h.size, fun i hi _ => h.block i hi⟩
theorem Only.setCell (h : Only g a w) {p : Addr} (hp : p.block = g ∨ a.heap.size ≤ p.block) (u : Value) : Only g a (w.setCell p u) :=
  ⟨h.os, h.tape, h.output, by simpa using h.size, fun i hi hn => (Below.heap_setCell w p u i (by
    rintro rfl
    rcases hp with hp | hp
    · exact hn (by rw [hp])
    · omega)).trans (h.block i hi hn)⟩
theorem Only.alloc (h : Only g a w) (o : Obj) : Only g a (w.alloc o) :=
  ⟨h.os, h.tape, h.output, Nat.le_trans h.size (by simp), fun i hi hn => (Below.heap_alloc w o i (Nat.lt_of_lt_of_le hi h.size)).trans (h.block i hi hn)⟩
theorem Only.drew (h : Only g a w) : Only g a w.drew := ⟨h.os, h.tape, h.output, h.size, h.block⟩
theorem Only.grown {row : Option Nat} (h : Only g a w) (hg : w.grownBy w' row) (hr : ∀ k, row = some k → k = g ∨ a.heap.size ≤ k) : Only g a w' :=
  ⟨hg.os.trans h.os, hg.tape.trans h.tape, hg.output.trans h.output, Nat.le_trans h.size hg.size, fun i hi hn =>
    (hg.block i (Nat.lt_of_lt_of_le hi h.size) (fun e => by
      rcases hr i e.symm with k | k
      · exact hn (by rw [k])
      · omega)).trans (h.block i hi hn)⟩
/-- Where block g is itself new, all that was there is as it was. -/
theorem Only.below {B : Nat} (h : Only g a w) (hB : B ≤ a.heap.size) (hg : B ≤ g) : Below B a w :=
  ⟨h.os, h.tape, h.output, h.size, fun k hk => h.block k (Nat.lt_of_lt_of_le hk hB) (fun e => by cases e; omega)⟩
theorem Only.blk {k : Nat} {t : TypeId} {cs : Array Value} (h : Only g a w) (hb : Blk a k t cs) (hk : k ≠ g) : Blk w k t cs :=
  (h.block k hb.lt (fun e => hk (by injection e))).trans hb
end

/-- A list of ints in memory of the call's own. -/
def Ints (w : World) (base : Nat) (v : Value) (xs : List Int) : Prop := w.ownsRow base 3 1 v xs.length (xs.map (Value.int .i64))
theorem Ints.kept {w w' : World} {base : Nat} {v : Value} {xs : List Int} {row : Option Nat} (h : Ints w base v xs) (hg : w.grownBy w' row) (hne : v.ownBlock = none ∨ v.ownBlock ≠ row) : Ints w' base v xs :=
  World.ownsRow.kept h hg hne
theorem Ints.low {w : World} {base base' : Nat} {v : Value} {xs : List Int} (h : Ints w base v xs) (hb : base' ≤ base) : Ints w base' v xs := by
  obtain ⟨h1, h2⟩ := h
  refine ⟨h1, ?_⟩
  rcases h2 with h2 | ⟨g, cap, cur, hv, hg, r⟩
  · exact .inl h2
  · exact .inr ⟨g, cap, cur, hv, Nat.le_trans hb hg, r⟩
/-- .. as it is kept where only block g turns, g below it. -/
theorem Ints.only {w w' : World} {base g : Nat} {v : Value} {xs : List Int} (h : Ints w base v xs) (hg : Only g w w') (hlt : g < base) : Ints w' base v xs := by
  refine Ints.kept h hg ?_
  cases hv : v.ownBlock with
  | none => exact .inl rfl
  | some k =>
    right
    intro e
    injection e with e
    have := (World.ownsRow.lt h k hv).1
    omega

/-! ### A watch -/
/-- Of one place: when it was heard of, how long it is waited for, whether it is suspected. -/
structure Wd where
  since : Int
  wait : Int
  susp : Bool
/-- A watch. -/
structure St where
  now : Int
  c : Int
  self : Int
  wait : Int
  pl : Nat → Wd

structure WCells (cs : Array Value) (s : St) : Prop where
  size : cs.size = 31
  now : cs[0]? = some (.int .i64 s.now)
  c : cs[1]? = some (.int .i64 s.c)
  self : cs[2]? = some (.int .i64 s.self)
  wait : cs[3]? = some (.int .i64 s.wait)
  since : ∀ p, p < 9 → cs[4 + p * 3]? = some (.int .i64 (s.pl p).since)
  waits : ∀ p, p < 9 → cs[4 + p * 3 + 1]? = some (.int .i64 (s.pl p).wait)
  susp : ∀ p, p < 9 → cs[4 + p * 3 + 2]? = some (.bool (s.pl p).susp)

def IsW (w : World) (b : Nat) (s : St) : Prop := ∃ cs, Blk w b 58 cs ∧ WCells cs s

def St.setNow (s : St) (n : Int) : St := { s with now := n }
def St.put (s : St) (p : Nat) (x : Wd) : St := { s with pl := fun q => if q = p then x else s.pl q }

theorem WCells.setNow {cs : Array Value} {s : St} (h : WCells cs s) (n : Int) : WCells (cs.setIfInBounds 0 (.int .i64 n)) (s.setNow n) where
  size := by simp [h.size]
  now := by simp [h.size, St.setNow]
  c := by simp [h.c, St.setNow]
  self := by simp [h.self, St.setNow]
  wait := by simp [h.wait, St.setNow]
  since := fun p hp => by rw [Array.getElem?_setIfInBounds, if_neg (by omega)]; exact h.since p hp
  waits := fun p hp => by rw [Array.getElem?_setIfInBounds, if_neg (by omega)]; exact h.waits p hp
  susp := fun p hp => by rw [Array.getElem?_setIfInBounds, if_neg (by omega)]; exact h.susp p hp

theorem WCells.put {cs cs' : Array Value} {s : St} {p : Nat} {x : Wd} (h : WCells cs s) (hs : cs'.size = 31)
    (h0 : ∀ i, i < 31 → i ≠ 4 + p * 3 → i ≠ 4 + p * 3 + 1 → i ≠ 4 + p * 3 + 2 → cs'[i]? = cs[i]?)
    (h1 : cs'[4 + p * 3]? = some (.int .i64 x.since)) (h2 : cs'[4 + p * 3 + 1]? = some (.int .i64 x.wait)) (h3 : cs'[4 + p * 3 + 2]? = some (.bool x.susp)) : WCells cs' (s.put p x) where
  size := hs
  now := (h0 0 (by omega) (by omega) (by omega) (by omega)).trans h.now
  c := (h0 1 (by omega) (by omega) (by omega) (by omega)).trans h.c
  self := (h0 2 (by omega) (by omega) (by omega) (by omega)).trans h.self
  wait := (h0 3 (by omega) (by omega) (by omega) (by omega)).trans h.wait
  since := fun q hq => by
    by_cases e : q = p
    · subst e; simpa [St.put] using h1
    · simp only [St.put, e, if_false]; exact (h0 _ (by omega) (by omega) (by omega) (by omega)).trans (h.since q hq)
  waits := fun q hq => by
    by_cases e : q = p
    · subst e; simpa [St.put] using h2
    · simp only [St.put, e, if_false]; exact (h0 _ (by omega) (by omega) (by omega) (by omega)).trans (h.waits q hq)
  susp := fun q hq => by
    by_cases e : q = p
    · subst e; simpa [St.put] using h3
    · simp only [St.put, e, if_false]; exact (h0 _ (by omega) (by omega) (by omega) (by omega)).trans (h.susp q hq)

theorem WCells.setWait {cs : Array Value} {s : St} {p : Nat} (h : WCells cs s) (hp : p < 9) (n : Int) : WCells (cs.setIfInBounds (4 + p * 3 + 1) (.int .i64 n)) (s.put p { s.pl p with wait := n }) := by
  refine h.put (by simp [h.size]) (fun i _ _ h2 _ => ?_) ?_ ?_ ?_
  · rw [Array.getElem?_setIfInBounds, if_neg (by omega)]
  · rw [Array.getElem?_setIfInBounds, if_neg (by omega)]; exact h.since p hp
  · rw [Array.getElem?_setIfInBounds, if_pos rfl, if_pos (by rw [h.size]; omega)]
  · rw [Array.getElem?_setIfInBounds, if_neg (by omega)]; exact h.susp p hp
theorem WCells.setSince {cs : Array Value} {s : St} {p : Nat} (h : WCells cs s) (hp : p < 9) (n : Int) : WCells (cs.setIfInBounds (4 + p * 3) (.int .i64 n)) (s.put p { s.pl p with since := n }) := by
  refine h.put (by simp [h.size]) (fun i _ h2 _ _ => ?_) ?_ ?_ ?_
  · rw [Array.getElem?_setIfInBounds, if_neg (by omega)]
  · rw [Array.getElem?_setIfInBounds, if_pos rfl, if_pos (by rw [h.size]; omega)]
  · rw [Array.getElem?_setIfInBounds, if_neg (by omega)]; exact h.waits p hp
  · rw [Array.getElem?_setIfInBounds, if_neg (by omega)]; exact h.susp p hp
theorem WCells.setSusp {cs : Array Value} {s : St} {p : Nat} (h : WCells cs s) (hp : p < 9) (u : Bool) : WCells (cs.setIfInBounds (4 + p * 3 + 2) (.bool u)) (s.put p { s.pl p with susp := u }) := by
  refine h.put (by simp [h.size]) (fun i _ _ _ h2 => ?_) ?_ ?_ ?_
  · rw [Array.getElem?_setIfInBounds, if_neg (by omega)]
  · rw [Array.getElem?_setIfInBounds, if_neg (by omega)]; exact h.since p hp
  · rw [Array.getElem?_setIfInBounds, if_neg (by omega)]; exact h.waits p hp
  · rw [Array.getElem?_setIfInBounds, if_pos rfl, if_pos (by rw [h.size]; omega)]

section
variable {w w' : World} {b : Nat} {s : St}
theorem IsW.lt (h : IsW w b s) : b < w.heap.size := by obtain ⟨_, hb, _⟩ := h; exact hb.lt
theorem IsW.c0 (h : IsW w b s) : w.cell? ⟨b, 0, none⟩ = some (.int .i64 s.now) := by obtain ⟨_, hb, hc⟩ := h; exact hb.cell hc.now
theorem IsW.c1 (h : IsW w b s) : w.cell? ⟨b, 1, none⟩ = some (.int .i64 s.c) := by obtain ⟨_, hb, hc⟩ := h; exact hb.cell hc.c
theorem IsW.c2 (h : IsW w b s) : w.cell? ⟨b, 2, none⟩ = some (.int .i64 s.self) := by obtain ⟨_, hb, hc⟩ := h; exact hb.cell hc.self
theorem IsW.c3 (h : IsW w b s) : w.cell? ⟨b, 3, none⟩ = some (.int .i64 s.wait) := by obtain ⟨_, hb, hc⟩ := h; exact hb.cell hc.wait
theorem IsW.p0 (h : IsW w b s) {p : Nat} (hp : p < 9) : w.cell? ⟨b, 4 + p * 3, none⟩ = some (.int .i64 (s.pl p).since) := by obtain ⟨_, hb, hc⟩ := h; exact hb.cell (hc.since p hp)
theorem IsW.p1 (h : IsW w b s) {p : Nat} (hp : p < 9) : w.cell? ⟨b, 4 + p * 3 + 1, none⟩ = some (.int .i64 (s.pl p).wait) := by obtain ⟨_, hb, hc⟩ := h; exact hb.cell (hc.waits p hp)
theorem IsW.p2 (h : IsW w b s) {p : Nat} (hp : p < 9) : w.cell? ⟨b, 4 + p * 3 + 2, none⟩ = some (.bool (s.pl p).susp) := by obtain ⟨_, hb, hc⟩ := h; exact hb.cell (hc.susp p hp)
theorem IsW.fz (h : IsW w b s) (o : Nat) : w.frozen? ⟨b, o, none⟩ = false := by obtain ⟨_, hb, _⟩ := h; exact hb.frozen o
theorem IsW.alloc (h : IsW w b s) (o : Obj) : IsW (w.alloc o) b s := by obtain ⟨cs, hb, hc⟩ := h; exact ⟨cs, hb.alloc o, hc⟩
theorem IsW.drew (h : IsW w b s) : IsW w.drew b s := h
theorem IsW.below {B : Nat} (h : IsW w b s) (hb : Below B w w') (hg : b < B) : IsW w' b s := by obtain ⟨cs, h1, hc⟩ := h; exact ⟨cs, h1.below hb hg, hc⟩
theorem IsW.grown {row : Option Nat} (h : IsW w b s) (hg : w.grownBy w' row) (hne : some b ≠ row) : IsW w' b s := by obtain ⟨cs, h1, hc⟩ := h; exact ⟨cs, h1.grown hg hne, hc⟩
theorem IsW.far (h : IsW w b s) {p : Addr} (hp : b ≠ p.block) (u : Value) : IsW (w.setCell p u) b s := by obtain ⟨cs, h1, hc⟩ := h; exact ⟨cs, h1.far hp u, hc⟩
theorem IsW.setNow (h : IsW w b s) (n : Int) : IsW (w.setCell ⟨b, 0, none⟩ (.int .i64 n)) b (s.setNow n) := by obtain ⟨cs, h1, hc⟩ := h; exact ⟨_, h1.set _ _, hc.setNow n⟩
theorem IsW.setSince (h : IsW w b s) {p : Nat} (hp : p < 9) (n : Int) : IsW (w.setCell ⟨b, 4 + p * 3, none⟩ (.int .i64 n)) b (s.put p { s.pl p with since := n }) := by obtain ⟨cs, h1, hc⟩ := h; exact ⟨_, h1.set _ _, hc.setSince hp n⟩
theorem IsW.setWait (h : IsW w b s) {p : Nat} (hp : p < 9) (n : Int) : IsW (w.setCell ⟨b, 4 + p * 3 + 1, none⟩ (.int .i64 n)) b (s.put p { s.pl p with wait := n }) := by obtain ⟨cs, h1, hc⟩ := h; exact ⟨_, h1.set _ _, hc.setWait hp n⟩
theorem IsW.setSusp (h : IsW w b s) {p : Nat} (hp : p < 9) (u : Bool) : IsW (w.setCell ⟨b, 4 + p * 3 + 2, none⟩ (.bool u)) b (s.put p { s.pl p with susp := u }) := by obtain ⟨cs, h1, hc⟩ := h; exact ⟨_, h1.set _ _, hc.setSusp hp u⟩
end
end Go.Proofs.Ytgajbaipkhopkaa
