/- Contracts: a writer. -/
import Derived.Test.YtlgpoaapmgcloaaWb
namespace Go.Proofs.Ytlgpoaapmgcloaa
open Go.RowKit
set_option linter.unusedSimpArgs false
set_option linter.unusedVariables false
set_option maxRecDepth 100000

theorem in_c (n a b : Int) (w : World) : Calls Try.prog 48 #[.int .i64 n, .int .i64 a, .int .i64 b] w fun e w' => e = .returned (.bool (decide (a ≤ n ∧ n ≤ b))) ∧ w = w' := by
  by_cases h1 : a ≤ n
  · by_cases h2 : n ≤ b
    · go_enter Try.func48, Try.ntmps48
      go_wp2
      go_ret
      exact ⟨by simp [h1, h2], rfl⟩
    · have h2' : decide (n ≤ b) = false := decide_eq_false h2
      go_enter Try.func48, Try.ntmps48
      go_wp2
      go_ret
      exact ⟨by simp [h1, h2], rfl⟩
  · have h1' : decide (a ≤ n) = false := decide_eq_false h1
    go_enter Try.func48, Try.ntmps48
    go_wp2
    go_ret
    exact ⟨by simp [h1], rfl⟩

/-- May a number be laid? -/
def numOk (n : Int) : Bool := decide (0 ≤ n ∧ n ≤ 4611686018427387904)
def okN (zs : List Int) : Bool := zs.all numOk
def laidN (zs : List Int) : List By := (zs.map fun n => numB n.toNat).flatten
theorem outside_c (n : Int) (w : World) : Calls Try.prog 47 #[.int .i64 n] w fun e w' => e = .returned (.bool (!numOk n)) ∧ w = w' := by
  go_enter Try.func47, Try.ntmps47
  go_wp2_with fail
  refine (in_c n 0 4611686018427387904 _).mono ?_
  rintro e w' ⟨rfl, rfl⟩
  have e1 : decide (0 ≤ n ∧ n ≤ 4611686018427387904) = numOk n := rfl
  rw [e1]
  clear e1
  go_wp2_with fail
  go_ret
  exact ⟨rfl, rfl⟩

/-- A slice of int64 in memory reads as these. -/
def I64s (w : World) (a : Option Addr) (n : Nat) (zs : List Int) : Prop :=
  zs.length = n ∧ ∀ (i : Nat) (x : Int), zs[i]? = some x → ∃ g off, a = some ⟨g, off, none⟩ ∧ g < w.heap.size ∧ w.cell? ⟨g, off + i, none⟩ = some (.int .i64 x)
theorem I64s.below {w w' : World} {a : Option Addr} {n : Nat} {zs : List Int} (h : I64s w a n zs) (hb : Below w.heap.size w w') : I64s w' a n zs := by
  refine ⟨h.1, fun i c hi => ?_⟩
  obtain ⟨g, off, e, hg, hc⟩ := h.2 i c hi
  exact ⟨g, off, e, Nat.lt_of_lt_of_le hg hb.size, (hb.cell (p := ⟨g, off + i, none⟩) hg).trans hc⟩
theorem I64s.tch {S : Nat → Prop} {w w' : World} {a : Option Addr} {n : Nat} {zs : List Int} (h : I64s w a n zs) (ht : Tch S w w') (hv : ∀ g off, a = some ⟨g, off, none⟩ → 0 < n → ¬ S g) : I64s w' a n zs := by
  refine ⟨h.1, fun i c hi => ?_⟩
  obtain ⟨g, off, e, hg, hc⟩ := h.2 i c hi
  have hn : 0 < n := by have := (List.getElem?_eq_some_iff.1 hi).1; rw [← h.1]; omega
  exact ⟨g, off, e, Nat.lt_of_lt_of_le hg ht.size, (World.cell?_of_block (a := ⟨g, off + i, none⟩) (ht.block g hg (hv g off e hn))).trans hc⟩
theorem I64s.lit {W : World} {cs : Array Value} {zs : List Int} {n : Nat} (t : TypeId) (h : cs.toList = zs.map (Value.int .i64)) (hn : zs.length = n) : I64s (W.alloc (.cells cs t)) (some ⟨W.heap.size, 0, none⟩) n zs := by
  refine ⟨hn, fun i c hi => ⟨W.heap.size, 0, rfl, by simp, ?_⟩⟩
  rw [Nat.zero_add]
  refine blk0 ?_
  rw [← Array.getElem?_toList, h]
  simp [hi]

set_option maxHeartbeats 1000000 in
theorem index_c (a : Option Addr) (n c : Nat) (zs : List Int) (w : World) (h : I64s w a n zs) (hn : n ≤ 1000000) :
    Calls Try.prog 61 #[.slice a n c, .func (.func 47) #[] #[]] w fun e w' => (∃ k : Int, e = .returned (.int .i64 k) ∧ (decide (0 ≤ k) = !okN zs)) ∧ w = w' := by
  have H := Lib.hid h; clear h
  go_enter Try.func61, Try.ntmps61
  go_wp2
  go_loop [8] (fun i => ∃ k : Nat, k ≤ n ∧ i = .int .i64 k ∧ okN (zs.take k) = true) (fun i => n - (intOf i).toNat)
  case atStart => exact ⟨0, Nat.zero_le _, rfl, rfl⟩
  case round =>
    obtain ⟨k, hk, rfl, ho⟩ := hrel
    have HO := Lib.hid ho; clear ho
    by_cases hlt : k < n
    · obtain ⟨x, hx⟩ : ∃ x, zs[k]? = some x := ⟨zs[k]'(by rw [H.out.1]; exact hlt), List.getElem?_eq_getElem _⟩
      obtain ⟨g, off, rfl, hg, hc⟩ := H.out.2 k x hx
      have HX := Lib.hid hx; clear hx
      go_wp2_with fail
      refine (outside_c x _).mono ?_
      rintro e w' ⟨rfl, rfl⟩
      cases hok : numOk x
      · have HK := Lib.hid hok; clear hok
        go_wp2_with fail
        go_ret
        refine ⟨⟨_, rfl, ?_⟩, rfl⟩
        have : okN zs = false := by
          unfold okN
          rw [List.all_eq_false]
          exact ⟨x, List.mem_of_getElem? HX.out, by rw [HK.out]; simp⟩
        rw [this]
        simp
      · have HK := Lib.hid hok; clear hok
        go_wp2_with fail
        go_round
        case rel =>
          refine ⟨k + 1, by omega, by go_num, ?_⟩
          unfold okN
          rw [List.take_add_one, HX.out, List.all_append]
          have h1 := HO.out
          unfold okN at h1
          rw [h1]
          simp [HK.out]
        case measure => simp [intOf]; omega
    · obtain rfl : k = n := by omega
      go_wp2_with fail
      go_ret
      refine ⟨⟨_, rfl, ?_⟩, rfl⟩
      have h1 := HO.out
      rw [List.take_of_length_le (by rw [H.out.1]; exact Nat.le_refl _)] at h1
      rw [h1]
      simp
theorem contains_c (a : Option Addr) (n c : Nat) (zs : List Int) (w : World) (h : I64s w a n zs) (hn : n ≤ 1000000) :
    Calls Try.prog 46 #[.slice a n c, .func (.func 47) #[] #[]] w fun e w' => e = .returned (.bool (!okN zs)) ∧ w = w' := by
  go_enter Try.func46, Try.ntmps46
  go_wp2_with fail
  refine (index_c a n c zs _ h hn).mono ?_
  rintro e w' ⟨⟨k, rfl, hk⟩, rfl⟩
  have HK := Lib.hid hk; clear hk
  go_wp2_with fail
  go_ret
  exact ⟨by rw [← HK.out]; rfl, rfl⟩
end Go.Proofs.Ytlgpoaapmgcloaa

