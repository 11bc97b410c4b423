/- Rows of calls of a reader; what stays in the turns of WireReads. -/
import Derived.Test.YtnecoapbpicloaaXe
import Derived.Test.YtnecoapbpicloaaXc
import Derived.Deep.Slices
import Derived.Deep.Fields
namespace Go.Proofs.Ytnecoapbpicloaa
open Go.RowKit Go.ChangeShapes Go.WideShapes Go.Deep
set_option linter.unusedSimpArgs false
set_option linter.unusedVariables false
set_option maxRecDepth 100000

def Asks (w : World) (a : Option Addr) (n : Nat) (xs : List (Int × Int)) : Prop := xs.length = n ∧ ∀ (i : Nat) (x : Int × Int), xs[i]? = some x → ∃ g off, a = some ⟨g, off, none⟩ ∧ g < w.heap.size ∧
  w.cell? ⟨g, off + i * 2, none⟩ = some (.int .i64 x.1) ∧ w.cell? ⟨g, off + i * 2 + 1, none⟩ = some (.int .i64 x.2)
theorem asks_at {w W : World} (hb : Below w.heap.size w W) {ga off n k : Nat} {xs : List (Int × Int)} {x : Int × Int} (h : Asks w (some ⟨ga, off, none⟩) n xs) (hx : xs[k]? = some x) :
    W.cell? ⟨ga, off + k * 2, none⟩ = some (.int .i64 x.1) ∧ W.cell? ⟨ga, off + k * 2 + 1, none⟩ = some (.int .i64 x.2) := by
  obtain ⟨g, o, e, hg, c0, c1⟩ := h.2 k x hx
  injection e with e; injection e with e1 e2 _; subst e1; subst e2
  exact ⟨(hb.cell (p := ⟨ga, _, none⟩) hg).trans c0, (hb.cell (p := ⟨ga, _, none⟩) hg).trans c1⟩

theorem cellsAsk : Try.prog.cellsOf 56 = 2 := by kernel_rfl
theorem cellsInt : Try.prog.cellsOf 3 = 1 := by kernel_rfl
theorem cellsI64 : Try.prog.cellsOf 2 = 1 := by kernel_rfl
section
variable {H : Type} {enc : TypeId × Value → H} {w : World} {base : Nat} {held : Bool} {fuel : Nat}
theorem ask_cells {cs : List Value} {x : DataW H × List MemPlace} {spare : Nat → Bool} (h : DataW.trod enc Try.prog w base spare held fuel 56 cs = some x) :
    ∃ c : Int × Int, cs[0]? = some (.int .i64 c.1) ∧ cs[1]? = some (.int .i64 c.2) := by
  obtain ⟨xs, n, _, _, hlen, hxl, hf⟩ := DataW.trod_struct Try.underlying56 h
  rw [cellsAsk] at hlen
  have h0 : DataW.trod enc Try.prog w base spare held n 3 ((cs.drop 0).take (Try.prog.cellsOf 3)) = xs[0]? := hf 0 _ rfl
  have h1 : DataW.trod enc Try.prog w base spare held n 2 ((cs.drop 1).take (Try.prog.cellsOf 2)) = xs[1]? := hf 1 _ rfl
  rw [cellsInt] at h0
  rw [cellsI64] at h1
  match cs, hlen with
  | [c0, c1], _ =>
    match xs, hxl with
    | [y0, y1], _ =>
      obtain ⟨p, e1, _⟩ := DataW.trod_int Try.underlying3 h0
      obtain ⟨m, e2, _⟩ := DataW.trod_int Try.underlying2 h1
      simp at e1 e2
      subst e1; subst e2
      exact ⟨⟨p, m⟩, rfl, rfl⟩
theorem asks_open {a : Option Addr} {len cap : Nat} {x : DataW H × List MemPlace} (h : DataW.trod enc Try.prog w base (fun _ => true) held fuel 52 [.slice a len cap] = some x) : ∃ xs, Asks w a len xs ∧ len ≤ cap := by
  rcases open_slice Try.underlying52 h with ⟨h0, _⟩ | ⟨ad, len', cap', m, n, D, Pl, hcs, hb, hl, hm, hmm, hx, hi⟩
  · simp at h0
    obtain ⟨rfl, rfl, rfl⟩ := h0
    exact ⟨[], ⟨rfl, fun i x hx => by simp at hx⟩, Nat.le_refl _⟩
  · simp at hcs
    obtain ⟨rfl, rfl, rfl⟩ := hcs
    rw [if_pos rfl] at hmm
    subst hmm
    have key : ∀ i, i < len → ∃ c : Int × Int, w.cell? (ad.add (i * 2)) = some (.int .i64 c.1) ∧ w.cell? (ad.add (i * 2 + 1)) = some (.int .i64 c.2) := by
      intro i hlt
      obtain ⟨cs', hc, ht⟩ := hi i (by omega)
      rw [cellsAsk] at hc
      obtain ⟨c, c0, c1⟩ := ask_cells ht
      obtain ⟨_, hcl, hat⟩ := World.cells?_some hc
      refine ⟨c, ?_, ?_⟩
      · have := hat 0 (by omega); rw [Go.Deep.add_add, c0] at this; exact this
      · have := hat 1 (by omega); rw [Go.Deep.add_add, c1] at this; exact this
    refine ⟨(List.range len).pmap (fun i hi => (key i hi).choose) (fun i hi => by simpa using hi), ⟨by simp, fun i c hc => ?_⟩, hl⟩
    have hlt : i < len := by have := (List.getElem?_eq_some_iff.1 hc).1; simpa using this
    rw [List.getElem?_pmap] at hc
    simp [hlt] at hc
    have hk := (key i hlt).choose_spec
    rw [hc] at hk
    obtain ⟨k0, k1⟩ := hk
    obtain ⟨b, off, spot⟩ := ad
    have hz := key 0 (by omega)
    obtain ⟨_, z0, _⟩ := hz
    have hs : spot = none := by simpa [Addr.add] using World.cell?_spot z0
    subst hs
    have had : ∀ j, (⟨b, off, none⟩ : Addr).add j = ⟨b, off + j, none⟩ := fun j => by
      unfold Addr.add
      split
      · simp_all
      · simp
    rw [had] at k0 k1 z0
    exact ⟨b, off, rfl, cell_lt z0, k0, by rw [Nat.add_assoc]; exact k1⟩
end

theorem only_cell {w w' : World} {p g k : Nat} {v : Value} (ho : Only p w w') (hg : g ≠ p) (hc : w.cell? ⟨g, k, none⟩ = some v) : w'.cell? ⟨g, k, none⟩ = some v :=
  (World.cell?_of_block (a := ⟨g, k, none⟩) (ho.block g (cell_lt hc) (fun e => hg (by injection e)))).trans hc

structure St (w0 W : World) (p nb g : Nat) (s : RS) (v : Value) : Prop where
  rv : RV W v s
  rd : IsRd W p s
  len : s.l.length ≤ nb
  c77 : W.cell? ⟨g, nb, none⟩ = some (.int .u8 77)
  bel : Below w0.heap.size w0 W
  hp : w0.heap.size ≤ p
  hg : g ≠ p
theorem St.drew {w0 W : World} {p nb g : Nat} {s : RS} {v : Value} (h : St w0 W p nb g s v) : St w0 W.drew p nb g s v :=
  ⟨h.rv.below (Below.refl _ _).drew, h.rd.below (Below.refl _ _).drew, h.len, h.c77, h.bel.drew, h.hp, h.hg⟩
theorem St.below {w0 W W' : World} {p nb g : Nat} {s : RS} {v : Value} (h : St w0 W p nb g s v) (hb : Below W.heap.size W W') : St w0 W' p nb g s v :=
  ⟨h.rv.below hb, h.rd.below hb, h.len, (hb.cell (p := ⟨g, nb, none⟩) (cell_lt h.c77)).trans h.c77, h.bel.trans (hb.mono h.bel.size), h.hp, h.hg⟩
theorem St.ask {w0 W W' : World} {p nb g : Nat} {s : RS} {v v' : Value} {s' : RS} (h : St w0 W p nb g s v) (hv : RV W' v' s') (hr : IsRd W' p s') (hl : s'.l.length ≤ s.l.length) (ho : Only p W W') : St w0 W' p nb g s' v' :=
  ⟨hv, hr, Nat.le_trans hl h.len, only_cell ho h.hg h.c77, h.bel.trans (ho.below h.bel.size h.hp), h.hp, h.hg⟩
theorem set2_tch (W : World) (q : Nat) (x y : Value) : Tch (fun i => i = q) W ((W.setCell ⟨q, 0, none⟩ x).setCell ⟨q, 1, none⟩ y) :=
  ((Tch.refl (fun i => i = q) W).setCell (p := ⟨q, 0, none⟩) (.inl rfl) x).setCell (p := ⟨q, 1, none⟩) (.inl rfl) y
theorem St.put {w0 W W' : World} {p nb g q : Nat} {s : RS} {v : Value} {t : TypeId} {a0 : Option Addr} {n0 c0 : Nat} {x0 : Int} (h : St w0 W p nb g s v) (hb : Blk W q t #[.slice a0 n0 c0, .int .i64 x0])
    (hq : p ≠ q) (hg : g ≠ q) (h0 : w0.heap.size ≤ q) (ht : Tch (fun i => i = q) W W') : St w0 W' p nb g s v :=
  ⟨h.rv.far6 hb ht, h.rd.far6 hb ht hq, h.len, only_cell ht.only hg h.c77, h.bel.trans (ht.below h.bel.size (fun i e => e ▸ h0)), h.hp, h.hg⟩
theorem St.cell {w0 W : World} {p nb g b : Nat} {s : RS} {v : Value} {cs : Array Value} (h : St w0 W p nb g s v) (hb : Blk W b 40 cs) :
    St w0 (W.alloc (.cells #[.slice none 0 0, .int .i64 0] 40)) p nb g s v ∧ Blk (W.alloc (.cells #[.slice none 0 0, .int .i64 0] 40)) b 40 cs ∧
    Blk (W.alloc (.cells #[.slice none 0 0, .int .i64 0] 40)) W.heap.size 40 #[.slice none 0 0, .int .i64 0] ∧ p ≠ W.heap.size ∧ b ≠ W.heap.size ∧ g ≠ W.heap.size ∧ w0.heap.size ≤ W.heap.size :=
  ⟨h.below ((Below.refl _ _).alloc (Nat.le_refl _) _), hb.alloc _, Blk.new _ _ _, Nat.ne_of_lt h.rd.lt, Nat.ne_of_lt hb.lt, Nat.ne_of_lt (cell_lt h.c77), h.bel.size⟩
set_option maxHeartbeats 1000000 in
theorem read_c2 (a : Option Addr) (n c : Nat) (l : List By) (w : World) (h : Bys w a n l) (hn : n ≤ 1000000000) :
    Calls Try.prog 17 #[.slice a n c] w fun e w' => ∃ p, e = .returned (.pointer (some ⟨p, 0, none⟩)) ∧ w.heap.size ≤ p ∧ (∀ g W, g < w.heap.size → Only g w' W → IsRd W p ⟨l, 0⟩) ∧ Below w.heap.size w w' := by
  go_enter Try.func17, Try.ntmps17
  go_wp2_with fail
  refine (clone_c a n c l _ h hn).mono ?_
  rintro e w1 ⟨v, rfl, ho, hb⟩
  have HO := Lib.hid ho
  obtain ⟨a1, c1, rfl, hc1, hy⟩ := ho.bys
  obtain ⟨m, hm⟩ : ∃ m, m = l.length := ⟨_, rfl⟩
  rw [← hm] at hy hc1 HO ⊢
  have HB := Lib.hid hb; have HM := Lib.hid hm
  have hz := hb.size
  clear hy hb ho hm
  go_wp2_with fail
  go_ret
  refine ⟨w1.heap.size, rfl, hz, fun g W hg ho => ⟨a1, c1, ?_, ?_, ?_⟩, HB.out.alloc hz _⟩
  · rw [← HM.out]; exact ho.blk (Blk.new _ _ _) (by omega)
  · rw [← HM.out]
    have h1 := (HO.out.below ((Below.refl w1.heap.size w1).alloc (Nat.le_refl _) (.cells #[.slice a1 m c1, .int .i64 0, .bool true] 60))).only ho hg
    obtain ⟨a9, c9, e9, _, hy9⟩ := h1.bys
    cases e9
    rw [← HM.out] at hy9
    exact hy9
  · rw [← HM.out]; exact hc1
end Go.Proofs.Ytnecoapbpicloaa
