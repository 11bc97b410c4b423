/- What the law's walk holds. -/
import Derived.Test.YtlgpoaapmgcloaaCe
namespace Go.Proofs.Ytlgpoaapmgcloaa
open Go.RowKit
set_option linter.unusedSimpArgs false
set_option linter.unusedVariables false
set_option maxRecDepth 100000

theorem Can.tight {b : Int} {l : List Sp} (h : Can b l) : 2 * (l.length : Int) ≤ max 0 (4096 - b) := by
  induction l generalizing b with
  | nil => simp only [List.length_nil]; omega
  | cons a r ih =>
    obtain ⟨h1, h2, h3, h4⟩ := h
    have := ih h4
    simp only [List.length_cons]
    omega
theorem IsSet.only {w w' : World} {p p' : Nat} {l : List Sp} {a : Option Addr} {c : Nat} (h : IsSet w p l a c) (ho : Only p' w w') (hne : p ≠ p') {a' : Option Addr} {n' c' : Nat} {b : Bool} (hb : Blk w p' 51 #[.slice a' n' c', .bool b]) : IsSet w' p l a c :=
  ⟨ho.blk h.blk hne, h.row.only ho (set_far hb h.row), h.cap⟩
/-- What the law holds while it adds. -/
structure HoSt (w : World) (a0 : Option Addr) (n : Nat) (l : List Sp) (p1 : Nat) (A : List Sp) (a1 : Option Addr) (c1 : Nat) (p2 : Nat) (O : List Sp) (a2 : Option Addr) (c2 : Nat) (W : World) : Prop where
  row : Sps W a0 n l
  sa : IsSet W p1 A a1 c1
  so : IsSet W p2 O a2 c2
  bel : Below w.heap.size w W
  h1 : w.heap.size ≤ p1
  h2 : p1 < p2
theorem HoSt.below {w W W' : World} {a0 : Option Addr} {n : Nat} {l : List Sp} {p1 : Nat} {A : List Sp} {a1 : Option Addr} {c1 : Nat} {p2 : Nat} {O : List Sp} {a2 : Option Addr} {c2 : Nat} (h : HoSt w a0 n l p1 A a1 c1 p2 O a2 c2 W) (hb : Below W.heap.size W W') : HoSt w a0 n l p1 A a1 c1 p2 O a2 c2 W' :=
  ⟨h.row.below hb, h.sa.below hb, h.so.below hb, h.bel.trans (hb.mono h.bel.size), h.h1, h.h2⟩
theorem HoSt.add {w W W' : World} {a0 : Option Addr} {n : Nat} {l : List Sp} {p1 : Nat} {A : List Sp} {a1 : Option Addr} {c1 : Nat} {p2 : Nat} {O O' : List Sp} {a2 a2' : Option Addr} {c2 c2' : Nat} (h : HoSt w a0 n l p1 A a1 c1 p2 O a2 c2 W) (hs : IsSet W' p2 O' a2' c2') (ho : Only p2 W W') : HoSt w a0 n l p1 A a1 c1 p2 O' a2' c2' W' := by
  have h1 := h.h1; have h2 := h.h2
  exact ⟨h.row.only ho (set_far h.so.blk h.row), h.sa.only ho (by omega) h.so.blk, hs, h.bel.trans (ho.below h.bel.size (by omega)), h1, h2⟩
/-- And what it holds then. -/
structure HoSu (w : World) (a0 : Option Addr) (n : Nat) (l : List Sp) (p1 : Nat) (A : List Sp) (a1 : Option Addr) (c1 : Nat) (p2 : Nat) (O : List Sp) (a2 : Option Addr) (c2 : Nat) (p3 : Nat) (a3 : Option Addr) (c3 B : Nat) (ag : Option Addr) (ng : Nat) (G : List Sp) (W : World) : Prop where
  o : HoSt w a0 n l p1 A a1 c1 p2 O a2 c2 W
  sx : IsSet W p3 A a3 c3
  bw : Blk W B 33 #[.int .i64 0, .int .i64 4096]
  gr : Sps W ag ng G
  h3 : p2 < p3
  hB : p2 < B
theorem HoSu.below {w W W' : World} {a0 : Option Addr} {n : Nat} {l : List Sp} {p1 : Nat} {A : List Sp} {a1 : Option Addr} {c1 : Nat} {p2 : Nat} {O : List Sp} {a2 : Option Addr} {c2 p3 : Nat} {a3 : Option Addr} {c3 B : Nat} {ag : Option Addr} {ng : Nat} {G : List Sp} (h : HoSu w a0 n l p1 A a1 c1 p2 O a2 c2 p3 a3 c3 B ag ng G W) (hb : Below W.heap.size W W') : HoSu w a0 n l p1 A a1 c1 p2 O a2 c2 p3 a3 c3 B ag ng G W' :=
  ⟨h.o.below hb, h.sx.below hb, h.bw.below hb h.bw.lt, h.gr.below hb, h.h3, h.hB⟩
theorem HoSu.add {w W W' : World} {a0 : Option Addr} {n : Nat} {l : List Sp} {p1 : Nat} {A : List Sp} {a1 : Option Addr} {c1 : Nat} {p2 : Nat} {O O' : List Sp} {a2 a2' : Option Addr} {c2 c2' p3 : Nat} {a3 : Option Addr} {c3 B : Nat} {ag : Option Addr} {ng : Nat} {G : List Sp} (h : HoSu w a0 n l p1 A a1 c1 p2 O a2 c2 p3 a3 c3 B ag ng G W) (hs : IsSet W' p2 O' a2' c2') (ho : Only p2 W W') : HoSu w a0 n l p1 A a1 c1 p2 O' a2' c2' p3 a3 c3 B ag ng G W' := by
  have h3 := h.h3; have hB := h.hB
  exact ⟨h.o.add hs ho, h.sx.only ho (by omega) h.o.so.blk, ho.blk h.bw (by omega), h.gr.only ho (set_far h.o.so.blk h.gr), h3, hB⟩
/-- The pieces of the last spans. -/
def lastP (cut : Int) (l : List Sp) (j : Nat) : List Sp := (l.reverse.take j).flatMap (pieces cut)
theorem lastP_succ (cut : Int) {l : List Sp} {j i : Nat} {x : Sp} (hx : l[i]? = some x) (hj : i + j + 1 = l.length) : lastP cut l (j + 1) = lastP cut l j ++ pieces cut x := by
  have h : l.reverse[j]? = some x := by rw [List.getElem?_reverse (by omega), show l.length - 1 - j = i by omega]; exact hx
  unfold lastP
  rw [List.take_add_one, h]
  simp
theorem lastP_all (cut : Int) (l : List Sp) : lastP cut l l.length = l.reverse.flatMap (pieces cut) := by
  unfold lastP
  rw [List.take_of_length_le (by simp)]
theorem lastP_right (cut : Int) {l : List Sp} (h : Rights l = true) (j : Nat) : ∀ y ∈ lastP cut l j, y.right = true := fun y hy => by
  obtain ⟨x, hx, hy⟩ := List.mem_flatMap.1 hy
  exact pieces_right (rights_all h x (List.mem_reverse.1 (List.mem_of_mem_take hx))) y hy
theorem adds_can {l : List Sp} (h : ∀ x ∈ l, x.right = true) : Can (-1) (l.foldl addL []) := (adds (m := []) trivial l h).1
end Go.Proofs.Ytlgpoaapmgcloaa
