/- Sums, sealed bytes: what the code computes. -/
import Derived.Test.YtlgpoaapmgcloaaBz
namespace Go.Proofs.Ytlgpoaapmgcloaa
open Go.RowKit
set_option linter.unusedSimpArgs false
set_option linter.unusedVariables false
set_option maxRecDepth 100000

theorem lt32 (x : Wo) : x.toNat < 4294967296 := x.isLt

theorem bx (x y : Wo) : bits .xor .u32 (x.toNat : Int) (y.toNat : Int) = ((x ^^^ y).toNat : Int) := by
  rw [u32_xor_nat _ _ (lt32 x) (lt32 y), BitVec.toNat_xor]

theorem ba (x y : Wo) : bits .and .u32 (x.toNat : Int) (y.toNat : Int) = ((x &&& y).toNat : Int) := by
  rw [u32_and_nat _ _ (lt32 x) (lt32 y), BitVec.toNat_and]

theorem half (x : Wo) : (x.toNat : Int) / (2 : Int) = ((x >>> 1).toNat : Int) := by
  rw [BitVec.toNat_ushiftRight, Nat.shiftRight_eq_div_pow]; simp

theorem low_bit (x : Wo) : bits .and .u32 (x.toNat : Int) 1 = if x.getLsbD 0 then 1 else 0 := by
  have h := ba x 1#32
  rw [show ((1#32 : Wo).toNat : Int) = 1 from rfl] at h
  rw [h, BitVec.toNat_and]
  simp only [BitVec.getLsbD, Nat.testBit_zero]
  have e : x.toNat &&& (1#32 : Wo).toNat = x.toNat % 2 := by
    show x.toNat &&& 1 = _
    exact Nat.and_one_is_mod _
  rw [e]
  have : x.toNat % 2 = 0 ∨ x.toNat % 2 = 1 := by omega
  rcases this with h | h <;> simp [h]

theorem times_eq (x : Wo) : bits .xor .u32 ((x.toNat : Int) / 2) (bits .and .u32 (x.toNat : Int) 1 * 3988292384 % 4294967296) = ((tx x).toNat : Int) := by
  rw [low_bit, half]
  have e : ((if x.getLsbD 0 then (1 : Int) else 0) * 3988292384 % 4294967296) = (((if x.getLsbD 0 then poly else 0#32) : Wo).toNat : Int) := by
    cases x.getLsbD 0
    · simp
    · simp [poly]
  rw [e, bx]
  rfl

theorem rtimes_yes (x : Wo) (h : ((x.toNat : Int) % 2 == 1) = true) : bits .xor .u32 ((x.toNat : Int) / 2) 3988292384 = ((tx x).toNat : Int) := by
  have hb : x.getLsbD 0 = true := by
    simp only [BitVec.getLsbD, Nat.testBit_zero]
    simp at h
    simp; omega
  have := bx (x >>> 1) poly
  rw [half, show (3988292384 : Int) = (poly.toNat : Int) from rfl, this]
  simp [tx, hb]

theorem rtimes_no (x : Wo) (h : ((x.toNat : Int) % 2 == 1) = false) : ((x.toNat : Int) / 2) = ((tx x).toNat : Int) := by
  have hb : x.getLsbD 0 = false := by
    simp only [BitVec.getLsbD, Nat.testBit_zero]
    simp at h
    simp; omega
  have e : tx x = x >>> 1 := by unfold tx; rw [hb]; simp
  rw [half, e]

/-- The word at the head of block b. -/
def WordAt (w : World) (b : Nat) (x : Wo) : Prop := w.cell? ⟨b, 0, none⟩ = some (.int .u32 (x.toNat : Int)) ∧ w.frozen? ⟨b, 0, none⟩ = false

theorem WordAt.set {w : World} {b : Nat} {x : Wo} (h : WordAt w b x) (y : Wo) : WordAt (w.setCell ⟨b, 0, none⟩ (.int .u32 (y.toNat : Int))) b y :=
  ⟨World.cell?_setCell_same _ _ _ h.1, by rw [World.frozen?_setCell]; exact h.2⟩

theorem WordAt.lt {w : World} {b : Nat} {x : Wo} (h : WordAt w b x) : b < w.heap.size := cell_lt h.1

theorem WordAt.below {w w' : World} {b B : Nat} {x : Wo} (h : WordAt w b x) (hb : Below B w w') (hlt : b < B) : WordAt w' b x :=
  ⟨(hb.cell (p := ⟨b, 0, none⟩) hlt).trans h.1, (hb.frozen (p := ⟨b, 0, none⟩) hlt).trans h.2⟩

theorem byte_word (c : BitVec 8) : (c.toNat : Int) = ((c.setWidth 32).toNat : Int) := by
  rw [BitVec.toNat_setWidth]; have := c.isLt; omega

theorem bsub (x : Wo) : (4294967295 - (x.toNat : Int)) = ((~~~ x).toNat : Int) := by
  rw [BitVec.toNat_not]; have := lt32 x; omega

theorem bnot (x : Wo) : bits .xor .u32 IntKind.u32.max (x.toNat : Int) = ((~~~ x).toNat : Int) := by
  have h := bx (BitVec.allOnes 32) x
  rw [show ((BitVec.allOnes 32).toNat : Int) = IntKind.u32.max from rfl, BitVec.allOnes_xor] at h
  exact h

theorem more_nil : (moreB 0#32 []).toNat = 0 := by decide +kernel

theorem more_flat (s : Wo) (ps : List (List By)) (k : Nat) (p : List By) (h : ps[k]? = some p) : moreB (moreB s (ps.take k).flatten) p = moreB s (ps.take (k + 1)).flatten := by
  rw [List.take_add_one, h, more_append]; simp

theorem bnat (x y : By) : ((x.toNat : Int) != (y.toNat : Int)) = decide (x ≠ y) := by
  by_cases h : x = y
  · subst h; simp
  · have : x.toNat ≠ y.toNat := fun e => h (BitVec.eq_of_toNat_eq e)
    simp [h]; omega

/-- A word's four bytes, the lowest first. -/
def lowB (x : Wo) : List By := [BitVec.ofNat 8 x.toNat, BitVec.ofNat 8 (x.toNat / 256), BitVec.ofNat 8 (x.toNat / 65536), BitVec.ofNat 8 (x.toNat / 16777216)]

theorem run_make4 (W : World) : (Instr.makeSlice 23 (.int .i64 4) (.int .i64 4)).run Try.prog W = .ok (.slice (some ⟨W.heap.size, 0, none⟩) 4 4) (W.alloc (.cells #[.int .u8 0, .int .u8 0, .int .u8 0, .int .u8 0] 5)) := by
  obtain ⟨i0, hi, hz0, hz1, hz2⟩ := info_parts info5
  have h := run_make (P := Try.prog) W 23 5 i0 _ Try.underlying23 hi hz0 .i64 .i64 4 4 (by decide) (by decide) (by rw [hz2]; decide) (by decide)
  have e : madeCells (Value.int .u8 0).cells (Int.toNat 4 * 1) = #[.int .u8 0, .int .u8 0, .int .u8 0, .int .u8 0] := by kernel_rfl
  rw [hz1, e] at h
  exact h

def sealB (l : List By) : List By := l ++ lowB (sumB l)

theorem low_len (x : Wo) : (lowB x).length = 4 := rfl

/-- Whether bytes are sealed ones. -/
def openB (l : List By) : Bool := decide (4 ≤ l.length) && decide (lowB (sumB (l.take (l.length - 4))) = l.drop (l.length - 4))

theorem seal_eq (l : List By) (h : 4 ≤ l.length) : decide (sealB (l.take (l.length - 4)) = l) = openB l := by
  unfold openB
  rw [Bool.eq_iff_iff]
  simp only [decide_eq_true_eq, Bool.and_eq_true]
  constructor
  · intro e
    refine ⟨h, ?_⟩
    have := congrArg (List.drop (l.length - 4)) e
    unfold sealB at this
    rw [List.drop_append] at this
    simpa using this
  · rintro ⟨_, e⟩
    unfold sealB
    rw [e, List.take_append_drop]

theorem str_ne (a b : List By) : ((strOf a).toList != (strOf b).toList) = !decide (a = b) := by rw [bne, str_eq]

/-- What Open gives, and its error. -/
def openL (l : List By) : List By := if openB l then l.take (l.length - 4) else []

def openE (l : List By) : Int := if openB l then 0 else 110

theorem own_nil (w : World) (base : Nat) : OwnB w base (.slice none 0 0) [] := World.ownsRow_nil w base 5 1

def OpenRes (B : Nat) (l : List By) (e : Ending) (w' : World) : Prop := ∃ a c, e = .returned (.tuple #[.slice a (openL l).length c, .int .i64 (openE l)]) ∧ OwnB w' B (.slice a (openL l).length c) (openL l)

theorem openB_short {l : List By} (h : l.length < 4) : openB l = false := by unfold openB; rw [decide_eq_false (by omega)]; rfl

theorem res_no {B : Nat} {l : List By} {e : Ending} {w' : World} (h : openB l = false) (he : e = .returned (.tuple #[.slice none 0 0, .int .i64 110])) : OpenRes B l e w' := by
  have h1 : openL l = [] := by simp [openL, h]
  have h2 : openE l = 110 := by simp [openE, h]
  unfold OpenRes
  rw [h1, h2]
  exact ⟨none, 0, he, own_nil _ _⟩

theorem res_yes {B : Nat} {l : List By} {e : Ending} {w' : World} {v : Value} (h : openB l = true) (he : e = .returned (.tuple #[v, .int .i64 0])) (ho : OwnB w' B v (l.take (l.length - 4))) : OpenRes B l e w' := by
  have h1 : openL l = l.take (l.length - 4) := by simp [openL, h]
  have h2 : openE l = 0 := by simp [openE, h]
  unfold OpenRes
  rw [h1, h2]
  obtain ⟨a, c, rfl, _, _⟩ := ho.bys
  exact ⟨a, c, he, ho⟩

theorem OwnB.at_ {w : World} {base g n c : Nat} {l : List By} (h : OwnB w base (.slice (some ⟨g, 0, none⟩) n c) l) {k : Nat} {x : By} (hx : l[k]? = some x) : w.cell? ⟨g, k, none⟩ = some (.int .u8 (x.toNat : Int)) ∧ w.frozen? ⟨g, k, none⟩ = false := by
  obtain ⟨a, c', e, _, _⟩ := h.bys
  injection e with e1 e2 e3
  subst e2
  have hlt := (List.getElem?_eq_some_iff.1 hx).1
  refine ⟨?_, World.ownsRow.frozenAt (h : w.ownsRow _ _ _ _ _ _) k⟩
  rw [World.ownsRow.cellAt (h : w.ownsRow _ _ _ _ _ _) k (by omega)]
  simp [bl, hx]

theorem OwnB.put {w : World} {base g n c : Nat} {l : List By} (h : OwnB w base (.slice (some ⟨g, 0, none⟩) n c) l) (k : Nat) (x : By) : OwnB (w.setCell ⟨g, k, none⟩ (.int .u8 (x.toNat : Int))) base (.slice (some ⟨g, 0, none⟩) n c) (l.set k x) := by
  obtain ⟨a, c', e, _, _⟩ := h.bys
  injection e with e1 e2 e3
  subst e2
  have := (World.ownsRow.stored (h : w.ownsRow _ _ _ _ _ _) k (.int .u8 (x.toNat : Int))).1
  unfold OwnB
  rw [List.length_set]
  have hb : bl (l.set k x) = (bl l).set k (.int .u8 (x.toNat : Int)) := by simp [bl, List.map_set]
  rw [hb]
  exact this

theorem OwnB.only {w w' : World} {base g : Nat} {v : Value} {l : List By} (h : OwnB w base v l) (hg : Only g w w') (hlt : g < base) : OwnB w' base v l := by
  refine World.ownsRow.kept (h : w.ownsRow _ _ _ _ _ _) hg ?_
  cases hv : v.ownBlock with
  | none => exact .inl rfl
  | some k =>
    have := (World.ownsRow.lt (h : w.ownsRow _ _ _ _ _ _) k hv).1
    exact .inr (fun e => by injection e with e; omega)

theorem OwnB.base {w : World} {base g n c : Nat} {l : List By} (h : OwnB w base (.slice (some ⟨g, 0, none⟩) n c) l) : base ≤ g ∧ g < w.heap.size := World.ownsRow.lt (h : w.ownsRow _ _ _ _ _ _) g rfl

theorem OwnB.here {w : World} {base : Nat} {v : Value} {l : List By} (h : OwnB w base v l) (hn : v ≠ .slice none 0 0) : ∃ g c, v = .slice (some ⟨g, 0, none⟩) l.length c ∧ l.length ≤ c := by
  obtain ⟨a, c, hv, hc, hy⟩ := h.bys
  rcases h.2 with ⟨e, _⟩ | ⟨g, cap, cur, e, _⟩
  · exact absurd e hn
  · rw [e] at hv
    injection hv with h1 h2 h3
    subst h1
    exact ⟨g, cap, e, by rw [h3]; exact hc⟩
end Go.Proofs.Ytlgpoaapmgcloaa

