/- Contracts: a hash in memory; none, Len, Right. -/
import Derived.Test.YticgknjjhkgggaaMb
import Derived.Test.YticgknjjhkgggaaWl
namespace Go.Proofs.Yticgknjjhkgggaa
open Go.RowKit
set_option linter.unusedSimpArgs false
set_option linter.unusedVariables false

/-- A hash lies here: it began at h0, and d has been put into it. -/
def IsHash (w : World) (b : Nat) (h0 : List Wo) (d : List By) (wide len : Nat) : Prop :=
  h0.length = 8 ∧ 1 ≤ wide ∧ wide ≤ 32 ∧ d.length ≤ 100000000000 ∧ ∃ a c, Blk w b 0057 (scells (pressN h0 0 d (full d)) (64 * full d) [.slice a (leftOf d).length c, .int .i64 (wide : Int), .int .i64 (len : Int)]) ∧
    Bys w a (leftOf d).length (leftOf d) ∧ ∀ x off, a = some ⟨x, off, none⟩ → 0 < (leftOf d).length → x ≠ b
theorem IsHash.lt {w : World} {b : Nat} {h0 : List Wo} {d : List By} {wide len : Nat} (h : IsHash w b h0 d wide len) : b < w.heap.size := by
  obtain ⟨_, _, _, _, a, c, hb, _⟩ := h
  exact hb.lt
theorem Bys.grown {w w' : World} {a : Option Addr} {n : Nat} {row : Option Nat} {l : List By} (h : Bys w a n l) (hO : w.grownBy w' row) (hg : ∀ x off, a = some ⟨x, off, none⟩ → 0 < n → some x ≠ row) : Bys w' a n l := by
  refine ⟨h.1, fun i c hi => ?_⟩
  obtain ⟨x, off, e, hx, hc⟩ := h.2 i c hi
  have hn : 0 < n := by have := (List.getElem?_eq_some_iff.1 hi).1; have := h.1; omega
  exact ⟨x, off, e, Nat.lt_of_lt_of_le hx hO.size, (World.cell?_of_block (a := ⟨x, off + i, none⟩) (hO.block x hx (hg x off e hn))).trans hc⟩
theorem IsHash.below {w w' : World} {b : Nat} {h0 : List Wo} {d : List By} {wide len : Nat} (h : IsHash w b h0 d wide len) (hb : Below w.heap.size w w') : IsHash w' b h0 d wide len := by
  obtain ⟨h1, h2, h3, h4, a, c, h5, h6, h7⟩ := h
  exact ⟨h1, h2, h3, h4, a, c, h5.below hb h5.lt, h6.below hb, h7⟩
section
variable {w : World} {b : Nat} {t : TypeId} {h : List Wo} {n : Nat} {v0 v1 v2 : Value}
theorem cell9 (hb : Blk w b t (scells h n [v0, v1, v2])) (hh : h.length = 8) : w.cell? ⟨b, 9, none⟩ = some v0 := hb.cell (by have := scells_rest (h := h) (n := n) (rest := [v0, v1, v2]) hh 0; simpa using this)
theorem cell10 (hb : Blk w b t (scells h n [v0, v1, v2])) (hh : h.length = 8) : w.cell? ⟨b, 10, none⟩ = some v1 := hb.cell (by have := scells_rest (h := h) (n := n) (rest := [v0, v1, v2]) hh 1; simpa using this)
theorem cell11 (hb : Blk w b t (scells h n [v0, v1, v2])) (hh : h.length = 8) : w.cell? ⟨b, 11, none⟩ = some v2 := hb.cell (by have := scells_rest (h := h) (n := n) (rest := [v0, v1, v2]) hh 2; simpa using this)
theorem set9 (hb : Blk w b t (scells h n [v0, v1, v2])) (hh : h.length = 8) (v : Value) : Blk (w.setCell ⟨b, 9, none⟩ v) b t (scells h n [v, v1, v2]) := by
  have := hb.set 9 v
  rwa [show (9 : Nat) = 9 + 0 from rfl, scells_rest_set hh] at this
theorem set11 (hb : Blk w b t (scells h n [v0, v1, v2])) (hh : h.length = 8) (v : Value) : Blk (w.setCell ⟨b, 11, none⟩ v) b t (scells h n [v0, v1, v]) := by
  have := hb.set 11 v
  rwa [show (11 : Nat) = 9 + 2 from rfl, scells_rest_set hh] at this
end
/-- No hash: nil, or one that nobody made. -/
def NoHash (w : World) (p : Option Addr) : Prop := p = none ∨ ∃ b, p = some ⟨b, 0, none⟩ ∧ w.cell? ⟨b, 10, none⟩ = some (.int .i64 0)
theorem none_yes (p : Option Addr) (w : World) (h : NoHash w p) : Calls Try.prog 37 #[.pointer p] w fun e w' => e = .returned (.bool true) ∧ w = w' := by
  rcases h with rfl | ⟨b, rfl, h10⟩
  · go_enter Try.func37, Try.ntmps37
    go_wp2
    go_ret
    exact ⟨rfl, rfl⟩
  · go_enter Try.func37, Try.ntmps37
    go_wp2
    go_ret
    exact ⟨rfl, rfl⟩
theorem none_no (b : Nat) (h0 : List Wo) (d : List By) (wide len : Nat) (w : World) (h : IsHash w b h0 d wide len) : Calls Try.prog 37 #[.pointer (some ⟨b, 0, none⟩)] w fun e w' => e = .returned (.bool false) ∧ w = w' := by
  obtain ⟨h1, h2, h3, h4, a, c, h5, h6, h7⟩ := h
  have hc := cell10 h5 (by rw [pressN_len]; exact h1)
  have hw : ((wide : Int) == 0) = false := by simp; omega
  clear h1 h4 h5 h6 h7
  go_enter Try.func37, Try.ntmps37
  go_wp2
  go_ret
  exact ⟨rfl, rfl⟩
theorem len_c (b : Nat) (h0 : List Wo) (d : List By) (wide len : Nat) (w : World) (h : IsHash w b h0 d wide len) : Calls Try.prog 25 #[.pointer (some ⟨b, 0, none⟩)] w fun e w' => e = .returned (.int .i64 (len : Int)) ∧ w = w' := by
  have H := Lib.hid h
  obtain ⟨h1, h2, h3, h4, a, c, h5, h6, h7⟩ := h
  have hc := cell11 h5 (by rw [pressN_len]; exact h1)
  clear h1 h2 h3 h4 h5 h6 h7
  go_enter Try.func25, Try.ntmps25
  go_wp2_with fail
  refine (none_no b _ _ _ _ _ H.out).mono ?_
  rintro e w' ⟨rfl, rfl⟩
  go_wp2_with fail
  go_ret
  exact ⟨rfl, rfl⟩
theorem len_none (p : Option Addr) (w : World) (h : NoHash w p) : Calls Try.prog 25 #[.pointer p] w fun e w' => e = .returned (.int .i64 0) ∧ w = w' := by
  have H := Lib.hid h; clear h
  go_enter Try.func25, Try.ntmps25
  go_wp2_with fail
  refine (none_yes p _ H.out).mono ?_
  rintro e w' ⟨rfl, rfl⟩
  go_wp2_with fail
  go_ret
  exact ⟨rfl, rfl⟩
def rightB (size : Int) (klen : Nat) : Bool := decide (1 ≤ size ∧ size ≤ 32 ∧ klen ≤ 32)
theorem right_c (size : Int) (a : Option Addr) (n c : Nat) (w : World) : Calls Try.prog 19 #[.int .i64 size, .slice a n c] w fun e w' => e = .returned (.bool (rightB size n)) ∧ w = w' := by
  have hr : Hid (rightB size n = (decide (1 ≤ size) && (decide (size ≤ 32) && decide (n ≤ 32)))) := Lib.hid (by unfold rightB; simp)
  by_cases p1 : 1 ≤ size
  · by_cases p2 : size ≤ 32
    · by_cases p3 : n ≤ 32
      · have q3 : (n : Int) ≤ 32 := by omega
        go_enter Try.func19, Try.ntmps19
        go_wp2
        go_ret
        exact ⟨by rw [hr.out]; simp [p1, p2, p3], rfl⟩
      · have q3 : ¬ (n : Int) ≤ 32 := by omega
        go_enter Try.func19, Try.ntmps19
        go_wp2
        go_ret
        exact ⟨by rw [hr.out]; simp; omega, rfl⟩
    · go_enter Try.func19, Try.ntmps19
      go_wp2
      go_ret
      exact ⟨by rw [hr.out]; simp; omega, rfl⟩
  · go_enter Try.func19, Try.ntmps19
    go_wp2
    go_ret
    exact ⟨by rw [hr.out]; simp; omega, rfl⟩
theorem num_c (x : Int) (w : World) : Calls Try.prog 20 #[.int .i64 x] w fun e w' => e = .returned (.int .i64 x) ∧ w = w' := by
  go_enter Try.func20, Try.ntmps20
  go_wp2
  go_ret
  exact ⟨rfl, rfl⟩
end Go.Proofs.Yticgknjjhkgggaa
