/- Contracts: a reader's Number. -/
import Derived.Test.YtlgpoaapmgcloaaWj
namespace Go.Proofs.Ytlgpoaapmgcloaa
open Go.RowKit
set_option linter.unusedSimpArgs false
set_option linter.unusedVariables false
set_option maxRecDepth 100000

theorem Tch.only {p : Nat} {w w' : World} (h : Tch (fun i => i = p) w w') : Only p w w' := ⟨h.os, h.tape, h.output, h.size, fun i hi hn => h.block i hi (fun e => hn (by rw [e]))⟩
theorem Only.tch {p : Nat} {w w' : World} (h : Only p w w') : Tch (fun i => i = p) w w' := ⟨h.os, h.tape, h.output, h.size, fun i hi hn => h.block i hi (fun e => hn (by injection e))⟩
/-- Bytes do not lie in a block that holds none. -/
theorem far_cells {w : World} {b : Nat} {t : TypeId} {cs : Array Value} {a : Option Addr} {n : Nat} {l : List By} (hb : Blk w b t cs) (hc : ∀ (i : Nat) (y : Int), cs[i]? ≠ some (.int .u8 y)) (hl : Bys w a n l) :
    ∀ g off, a = some ⟨g, off, none⟩ → 0 < n → g ≠ b := by
  intro g off e h0 hg
  subst hg
  obtain ⟨g', off', e', _, hcl⟩ := hl.cells h0
  rw [e] at e'
  injection e' with e'
  injection e' with e1 e2
  subst e1; subst e2
  obtain ⟨y, hy⟩ : ∃ y, l[0]? = some y := ⟨l[0]'(by rw [hl.1]; exact h0), List.getElem?_eq_getElem _⟩
  have h1 := hcl 0 y hy
  have h2 : w.cell? ⟨g, off + 0, none⟩ = cs[off + 0]? := by
    unfold Blk at hb; simp [World.cell?, hb]
  rw [h2] at h1
  exact hc _ _ h1
theorem one_cell {v : Value} (h : ∀ y, v ≠ .int .u8 y) : ∀ (i : Nat) (y : Int), (#[v] : Array Value)[i]? ≠ some (.int .u8 y) := by
  intro i y e
  rcases Nat.eq_zero_or_pos i with rfl | hi
  · simp at e; exact h y e
  · rw [Array.getElem?_eq_none (by simp; omega)] at e; cases e
theorem IsRd.away {w w' : World} {p : Nat} {s : RS} {S : Nat → Prop} (h : IsRd w p s) (ht : Tch S w w') (hp : ¬ S p) (hS : ∀ i, S i → w.heap.size ≤ i ∨ ∃ t v, Blk w i t #[v] ∧ ∀ y, v ≠ .int .u8 y) : IsRd w' p s := by
  obtain ⟨a, c, h1, h2, h3⟩ := h
  refine ⟨a, c, ht.blk h1 hp, ht.bys h2 (fun g off e hn hs => ?_), h3⟩
  rcases hS g hs with hg | ⟨t, v, hb, hv⟩
  · obtain ⟨g', off', e', hg', _⟩ := h2.cells hn
    rw [e] at e'
    injection e' with e'
    injection e' with e1 e2
    omega
  · exact far_cells hb (one_cell hv) h2 g off e hn rfl
theorem errAt_no (x : Int) : ∀ y, Value.int .i64 x ≠ .int .u8 y := by intro y e; cases e

/-! ### Number's own -/
section
variable (bl br bg bn : Nat)
theorem numc_low (w : World) (h1 : w.cell? ⟨bl, 0, none⟩ = some (.bool true)) :
    Calls Try.prog 41 #[.pointer (some ⟨bl, 0, none⟩), .pointer (some ⟨br, 0, none⟩), .pointer (some ⟨bg, 0, none⟩), .pointer (some ⟨bn, 0, none⟩)] w fun e w' => e = .returned (.tuple #[]) ∧ w = w' := by
  go_enter Try.func41, Try.ntmps41
  go_wp2_with fail
  go_end0
  exact ⟨rfl, rfl⟩
theorem numc_no (p : Nat) (s : RS) (most : Int) (w : World) (h1 : w.cell? ⟨bl, 0, none⟩ = some (.bool false)) (h2 : w.cell? ⟨br, 0, none⟩ = some (.pointer (some ⟨p, 0, none⟩))) (h3 : w.cell? ⟨bg, 0, none⟩ = some (.int .i64 most))
    (h : IsRd w p s) (hl : s.l.length ≤ 1000000000) (hc : canNum s most = false) :
    Calls Try.prog 41 #[.pointer (some ⟨bl, 0, none⟩), .pointer (some ⟨br, 0, none⟩), .pointer (some ⟨bg, 0, none⟩), .pointer (some ⟨bn, 0, none⟩)] w fun e w' => e = .panicked gaveUp ∧ w = w' := by
  have HC := Lib.hid hc; have HL := Lib.hid hl
  clear hc hl
  go_enter Try.func41, Try.ntmps41
  go_wp2_with fail
  refine (number_no p s most _ h HL.out HC.out).mono ?_
  rintro e w' ⟨rfl, rfl⟩
  exact ⟨rfl, rfl, rfl⟩
set_option maxHeartbeats 1000000 in
theorem numc_ok (p : Nat) (s : RS) (most x : Int) (w : World) (h1 : w.cell? ⟨bl, 0, none⟩ = some (.bool false)) (h2 : w.cell? ⟨br, 0, none⟩ = some (.pointer (some ⟨p, 0, none⟩))) (h3 : w.cell? ⟨bg, 0, none⟩ = some (.int .i64 most))
    (h4 : Blk w bn 2 #[.int .i64 x]) (hp : p ≠ bn) (h : IsRd w p s) (hl : s.l.length ≤ 1000000000) (hc : canNum s most = true) :
    Calls Try.prog 41 #[.pointer (some ⟨bl, 0, none⟩), .pointer (some ⟨br, 0, none⟩), .pointer (some ⟨bg, 0, none⟩), .pointer (some ⟨bn, 0, none⟩)] w fun e w' => e = .returned (.tuple #[]) ∧
      (IsRd w' p ⟨s.l.drop (takeB s.l).2.toNat, s.e⟩ ∧ Blk w' bn 2 #[.int .i64 ((takeB s.l).1 : Int)]) ∧ Tch (fun i => i = p ∨ i = bn) w w' := by
  have HC := Lib.hid hc; have HL := Lib.hid hl; have H4 := Lib.hid h4; have HP := Lib.hid hp
  clear hc hl h4 hp
  obtain ⟨y, hy⟩ : ∃ y, y = (takeB s.l).1 := ⟨_, rfl⟩
  have HY := Lib.hid hy
  rw [← hy]
  clear hy
  go_enter Try.func41, Try.ntmps41
  go_wp2_with fail
  refine (number_ok p s most _ h HL.out HC.out).mono ?_
  rintro e w2 ⟨rfl, hi, hO⟩
  rw [← HY.out]
  have HI := Lib.hid hi; have HO := Lib.hid hO
  have H5 := Lib.hid (hO.blk H4.out (fun e => HP.out e.symm))
  have c5 : w2.cell? ⟨bn, 0, none⟩ = some (.int .i64 x) := H5.out.cell (i := 0) rfl
  have f5 := H5.out.frozen 0
  clear hi hO
  go_wp2_with fail
  go_end0
  have ht : Tch (fun i => i = bn) w2 (w2.setCell ⟨bn, 0, none⟩ (.int .i64 (y : Int))) := (Tch.refl (fun i => i = bn) w2).setCell (p := ⟨bn, 0, none⟩) (.inl rfl) _
  refine ⟨rfl, ⟨HI.out.away ht HP.out (fun i e => .inr ⟨_, _, e ▸ H5.out, errAt_no _⟩), H5.out.set 0 _⟩, ?_⟩
  exact (HO.out.tch.mono (fun _ _ e => .inl e)).setCell (.inl (.inr rfl)) _
end
end Go.Proofs.Ytlgpoaapmgcloaa

