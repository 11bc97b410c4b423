/- Rows of texts; what the walks of WireBent and WireBack keep. -/
import Derived.Test.YtnecoapbpicloaaXt
import Derived.Test.YtnecoapbpicloaaXh
import Derived.Deep.Strs
namespace Go.Proofs.Ytnecoapbpicloaa
open Go.RowKit Go.Shelf Go.ChangeShapes Go.WideShapes Go.Deep
set_option linter.unusedSimpArgs false
set_option linter.unusedVariables false
set_option maxRecDepth 100000

def Strs (w : World) (a : Option Addr) (n : Nat) (ss : List ByteArray) : Prop := ss.length = n ∧ ∀ (i : Nat) (s : ByteArray), ss[i]? = some s → ∃ g off, a = some ⟨g, off, none⟩ ∧ g < w.heap.size ∧ w.cell? ⟨g, off + i, none⟩ = some (.string s)
theorem Strs.at_ {w W : World} (hb : Below w.heap.size w W) {ga off n k : Nat} {ss : List ByteArray} {s : ByteArray} (h : Strs w (some ⟨ga, off, none⟩) n ss) (hs : ss[k]? = some s) : W.cell? ⟨ga, off + k, none⟩ = some (.string s) := by
  obtain ⟨g, o, e, hg, c0⟩ := h.2 k s hs
  injection e with e; injection e with e1 e2 _; subst e1; subst e2
  exact (hb.cell (p := ⟨ga, _, none⟩) hg).trans c0
section
variable {H : Type} {enc : TypeId × Value → H} {w : World} {base : Nat} {held : Bool} {fuel : Nat}
theorem strs_open {a : Option Addr} {len cap : Nat} {x : DataW H × List MemPlace} (h : DataW.trod enc Try.prog w base (fun _ => true) held fuel 75 [.slice a len cap] = some x) : ∃ xs, Strs w a len xs ∧ len ≤ maxLen := by
  rcases Go.Deep.open_strs Try.underlying75 Try.underlying9 (by kernel_rfl) h with ⟨h0, _⟩ | ⟨ad, len', cap', m, Sx, hcs, hb, hl, hm, hmm, hx, hi⟩
  · simp at h0
    obtain ⟨rfl, rfl, rfl⟩ := h0
    exact ⟨[], ⟨rfl, fun i x hx => by simp at hx⟩, Nat.zero_le _⟩
  · simp at hcs
    obtain ⟨rfl, rfl, rfl⟩ := hcs
    rw [if_pos rfl] at hmm
    subst hmm
    refine ⟨(List.range len).map Sx, ⟨by simp, fun i s hs => ?_⟩, Nat.le_trans hl hm⟩
    have hlt : i < len := by have := (List.getElem?_eq_some_iff.1 hs).1; simpa using this
    simp [hlt] at hs
    subst hs
    have hc := (hi i (by omega)).1
    obtain ⟨b, off, spot⟩ := ad
    have hc0 := (hi 0 (by omega)).1
    have hsp : spot = none := by simpa [Addr.add] using World.cell?_spot hc0
    subst hsp
    have had : (⟨b, off, none⟩ : Addr).add i = ⟨b, off + i, none⟩ := by
      unfold Addr.add
      split
      · simp_all
      · simp
    rw [had] at hc
    exact ⟨b, off, rfl, cell_lt hc, hc⟩
end

/-- The frames of texts, one behind another. -/
def jn (ss : List ByteArray) : List By := ss.flatMap fun s => frameB (strB s)
theorem jn_snoc {ss : List ByteArray} {k : Nat} {s : ByteArray} (h : ss[k]? = some s) : jn (ss.take (k + 1)) = jn (ss.take k) ++ frameB (strB s) := by
  unfold jn
  rw [List.take_add_one, h]
  simp
theorem jn_len (ss : List ByteArray) (h : ∀ (j : Nat) (s : ByteArray), ss[j]? = some s → s.size ≤ 100) : (jn ss).length ≤ ss.length * 113 := by
  induction ss with
  | nil => simp [jn]
  | cons s t ih =>
    have h1 := h 0 s rfl
    have h2 := ih (fun j s hs => h (j + 1) s (by simpa using hs))
    have h3 := frame_len (l := strB s) (by rw [strB_len]; omega)
    rw [strB_len] at h3
    unfold jn at h2 ⊢
    rw [List.flatMap_cons, List.length_append, List.length_cons]
    omega

/-! ### A box of a number is no row of anything else -/
theorem Boxed.ne {W : World} {B B' : Nat} {t t' : TypeId} {v v' : Value} (h : Boxed W B t v) (h' : Boxed W B' t' v') (ht : t ≠ t') : B ≠ B' := by
  rintro rfl
  have := (show W.heap[B]? = _ from h).symm.trans h'
  simp at this
  exact ht this.2
theorem bys_ne_box {W : World} {B : Nat} {z : Int} (h : Boxed W B 3 (.int .i64 z)) {g off n : Nat} {l : List By} (hy : Bys W (some ⟨g, off, none⟩) n l) (hn : 0 < n) : g ≠ B := by
  rintro rfl
  obtain ⟨x, hx⟩ : ∃ x, l[0]? = some x := ⟨l[0]'(by rw [hy.1]; exact hn), List.getElem?_eq_getElem _⟩
  obtain ⟨g', off', e, _, hc⟩ := hy.2 0 x hx
  injection e with e
  injection e with e1 e2 _
  subst e1; subst e2
  simp [World.cell?, show W.heap[g]? = _ from h] at hc
  cases off <;> simp at hc
structure BSt (w W : World) (R B5 Bb : Nat) (u : Value) (fs : List (Nat × Value)) (vm : Value) (A : Option Addr) (C n : Nat) (l : List By) : Prop where
  bel : Below w.heap.size w W
  br : Boxed W R 4 (.bool false)
  bw : Boxed W B5 67 u
  row : OwnF W w.heap.size u fs
  bod : Bodies W u fs (partsB l)
  m : OwnB W w.heap.size vm l
  it : FrIt W Bb A n C l
theorem BSt.below {w W W' : World} {R B5 Bb : Nat} {u : Value} {fs : List (Nat × Value)} {vm : Value} {A : Option Addr} {C n : Nat} {l : List By}
    (h : BSt w W R B5 Bb u fs vm A C n l) (hb : Below W.heap.size W W') : BSt w W' R B5 Bb u fs vm A C n l :=
  ⟨h.bel.trans (hb.mono h.bel.size), boxed_below h.br hb h.br.lt, boxed_below h.bw hb h.bw.lt, h.row.below hb, h.bod.below hb, h.m.below hb, h.it.below hb⟩
theorem own_box {W : World} {B : Nat} {z : Int} (h : Boxed W B 3 (.int .i64 z)) {base : Nat} {v : Value} {l : List By} (ho : OwnB W base v l) : ∀ i, v.ownBlock = some i → i ≠ B := by
  rintro i e rfl
  exact Boxed.not_row h (by decide) (ho : W.ownsRow _ 5 _ _ _ _) e.symm
/-- .. behind stores into a number's box. -/
theorem BSt.box {w W W' : World} {R B5 Bb N : Nat} {u : Value} {fs : List (Nat × Value)} {vm : Value} {A : Option Addr} {C n : Nat} {l : List By} {z : Int}
    (h : BSt w W R B5 Bb u fs vm A C n l) (hN : Boxed W N 3 (.int .i64 z)) (hw : w.heap.size ≤ N) (ht : Tch (fun i => i = N ∨ W.heap.size ≤ i) W W') : BSt w W' R B5 Bb u fs vm A C n l := by
  have far : ∀ i, i < W.heap.size → i ≠ N → ¬ (i = N ∨ W.heap.size ≤ i) := fun i h1 h2 e => by rcases e with e | e; exact h2 e; omega
  have fbx : ∀ {B t v}, Boxed W B t v → t ≠ 3 → ¬ (B = N ∨ W.heap.size ≤ B) := fun hb ht => far _ hb.lt (Boxed.ne hb hN ht)
  refine ⟨h.bel.trans (ht.below h.bel.size (fun i e => by rcases e with e | e; omega; have := h.bel.size; omega)), ht.boxed h.br (fbx h.br (by decide)), ht.boxed h.bw (fbx h.bw (by decide)), ?_, ⟨h.bod.1, fun i f q h1 h2 => ?_⟩, ht.own h.m (fun i e => far i (own_lt h.m i e).2 (own_box hN h.m i e)), ht.boxed h.it.box (fbx h.it.box (by decide)), ht.own h.it.own (fun i e => far i (own_lt h.it.own i e).2 (own_box hN h.it.own i e)), h.it.cap⟩
  · obtain ⟨h1, h2⟩ := h.row
    refine ⟨h1, ?_⟩
    rcases h2 with h2 | ⟨g, cap, cur, e, hg, hh, r⟩
    · exact .inl h2
    · refine .inr ⟨g, cap, cur, e, hg, (ht.block g (Array.getElem?_eq_some_iff.1 hh).1 (far g (Array.getElem?_eq_some_iff.1 hh).1 ?_)).trans hh, r⟩
      rintro rfl
      have := (show W.heap[g]? = _ from hN).symm.trans hh
      simp at this
  · obtain ⟨e, a, c, h3, h4, h5⟩ := h.bod.2 i f q h1 h2
    refine ⟨e, a, c, h3, ht.bys h4 (fun g off e hn => ?_), h5⟩
    subst e
    obtain ⟨g', off', e', hg', _⟩ := h4.cells hn
    injection e' with e'
    injection e' with e1 _ _
    subst e1
    exact far g hg' (bys_ne_box hN h4 hn)
theorem u8_bits {z : Int} (h : (Lit.int .u8 z).wf = true) : ∃ c : By, (c.toNat : Int) = z := by
  have h1 : IntKind.u8.min ≤ z ∧ z ≤ IntKind.u8.max := by simpa [Lit.wf] using h
  have e1 : IntKind.u8.min = 0 := rfl
  have e2 : IntKind.u8.max = 255 := rfl
  have h2 : 0 ≤ z ∧ z ≤ 255 := by omega
  exact ⟨BitVec.ofNat 8 z.toNat, by simp; omega⟩
end Go.Proofs.Ytnecoapbpicloaa
