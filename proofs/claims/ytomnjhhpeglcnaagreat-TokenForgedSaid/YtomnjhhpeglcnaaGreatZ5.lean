/- What is made opens, as long as its key is kept. A token that comes in. -/
import Derived.Test.YtomnjhhpeglcnaaGreatZ4
namespace Go.Proofs.YtomnjhhpeglcnaaGreat
open Go.RowKit
set_option linter.unusedSimpArgs false
set_option linter.unusedVariables false
set_option maxRecDepth 100000

theorem beq_str (a b : ByteArray) : (a.toList == b.toList) = decide (a = b) := by
  rw [Bool.eq_iff_iff, Lib.bytes_beq_iff, decide_eq_true_eq]
/-- What Open tells, cell by cell. -/
theorem open_v (p : Nat) (k : KS) (s : ByteArray) (w : World) (h : IsKeys w p k) (hf : k.first ≤ 1000000000) (hs : s.size ≤ 1000000) :
    Calls Tryz.prog 10 #[.pointer (some ⟨p, 0, none⟩), .string s] w fun r w' => (∃ (t : Tok) (e : Int), k.open_ (strB s) = (t, e) ∧ r = .returned (.tuple #[.agg #[.int .i64 t.m, .int .i64 t.s, .int .i64 t.i], .int .i64 e])) ∧ Below w.heap.size w w' := by
  refine (open_c p k s w h hf hs).mono ?_
  rintro r w' ⟨rfl, hb⟩
  exact ⟨⟨_, _, rfl, rfl⟩, hb⟩
theorem fewB_parts {f : ByteArray} {l : List ByteArray} (h : fewB f l = true) : f.size ≤ 100 ∧ l.length ≤ 12 ∧ ∀ s ∈ l, s.size ≤ 100 := by
  unfold fewB at h
  simp only [Bool.and_eq_true, decide_eq_true_eq, List.all_eq_true] at h
  exact ⟨h.2.1, h.2.2, h.1⟩
theorem Strs.only {w W : World} {a : Option Addr} {n p : Nat} {ss : List ByteArray} (h : Strs w a n ss) (ho : Only p w W) (hp : ∀ g off, a = some ⟨g, off, none⟩ → 0 < n → g ≠ p) : Strs W a n ss := by
  refine ⟨h.1, fun i s hs => ?_⟩
  obtain ⟨g, off, e, hg, hc⟩ := h.2 i s hs
  have hn : 0 < n := by have := (List.getElem?_eq_some_iff.1 hs).1; rw [← h.1]; omega
  exact ⟨g, off, e, Nat.lt_of_lt_of_le hg ho.size, (World.cell?_of_block (a := ⟨g, off + i, none⟩) (ho.block g hg (fun q => hp g off e hn (by injection q)))).trans hc⟩
end Go.Proofs.YtomnjhhpeglcnaaGreat

namespace Go.Proofs.YtomnjhhpeglcnaaGreat
open Go.RowKit Go.ChangeShapes Go.WideShapes
set_option linter.unusedSimpArgs false
set_option linter.unusedVariables false
set_option maxRecDepth 100000

theorem cells36 : Tryz.prog.cellsOf 31 = 3 := by kernel_rfl
theorem cells3 : Tryz.prog.cellsOf 3 = 1 := by kernel_rfl
theorem cells2 : Tryz.prog.cellsOf 2 = 1 := by kernel_rfl
section
variable {H : Type} {enc : TypeId × Value → H} {w : World} {base : Nat} {held : Bool} {fuel : Nat}
theorem tok_cells {cs : List Value} {x : DataW H × List MemPlace} {spare : Nat → Bool} (h : DataW.trod enc Tryz.prog w base spare held fuel 31 cs = some x) :
    ∃ c : Tok, cs[0]? = some (.int .i64 c.m) ∧ cs[1]? = some (.int .i64 c.s) ∧ cs[2]? = some (.int .i64 c.i) := by
  obtain ⟨xs, n, _, _, hlen, hxl, hf⟩ := DataW.trod_struct Tryz.underlying31 h
  rw [cells36] at hlen
  have h0 : DataW.trod enc Tryz.prog w base spare held n 3 ((cs.drop 0).take (Tryz.prog.cellsOf 3)) = xs[0]? := hf 0 _ rfl
  have h1 : DataW.trod enc Tryz.prog w base spare held n 2 ((cs.drop 1).take (Tryz.prog.cellsOf 2)) = xs[1]? := hf 1 _ rfl
  have h2 : DataW.trod enc Tryz.prog w base spare held n 2 ((cs.drop 2).take (Tryz.prog.cellsOf 2)) = xs[2]? := hf 2 _ rfl
  rw [cells3] at h0
  rw [cells2] at h1 h2
  match cs, hlen with
  | [c0, c1, c2], _ =>
    match xs, hxl with
    | [y0, y1, y2], _ =>
      obtain ⟨b, e0, _⟩ := DataW.trod_int Tryz.underlying3 h0
      obtain ⟨p, e1, _⟩ := DataW.trod_int Tryz.underlying2 h1
      obtain ⟨m, e2, _⟩ := DataW.trod_int Tryz.underlying2 h2
      simp at e0 e1 e2
      subst e0; subst e1; subst e2
      exact ⟨⟨b, p, m⟩, rfl, rfl, rfl⟩
end
theorem tok_open {H : Type} {enc : TypeId × Value → H} {w : World} {base b0 : Nat} {spare : Nat → Bool} {held : Bool} {r : Reach} {v : Value} {d : DataW H} {p : List MemPlace}
    (hv : Value.okWide Tryz.prog w r b0 31 v) (h : DataW.Trod enc Tryz.prog w base spare held 31 v d p) : ∃ x : Tok, v = x.val := by
  obtain ⟨cs, rfl, hsz⟩ := Go.WideShapes.okWide_struct Tryz.underlying31 hv
  obtain ⟨fuel, hf⟩ := h
  obtain ⟨x, c0, c1, c2⟩ := tok_cells hf
  refine ⟨x, ?_⟩
  have hl : cs.size = 3 := hsz.trans cells36
  unfold Tok.val
  congr 1
  apply Array.ext_getElem?
  intro i
  simp only [Value.cells] at c0 c1 c2
  rcases (by omega : i = 0 ∨ i = 1 ∨ i = 2 ∨ 3 ≤ i) with rfl | rfl | rfl | hi
  · simpa using c0
  · simpa using c1
  · simpa using c2
  · rw [Array.getElem?_eq_none (by omega), Array.getElem?_eq_none (by simpa using hi)]
end Go.Proofs.YtomnjhhpeglcnaaGreat
