/- Contracts: a writer, call by call. -/
import Derived.Test.YtlgpoaapmgcloaaWc
namespace Go.Proofs.Ytlgpoaapmgcloaa
open Go.RowKit
set_option linter.unusedSimpArgs false
set_option linter.unusedVariables false
set_option maxRecDepth 100000

/-- The writer at block p holds these bytes, in the row v. -/
def IsWr (w : World) (p : Nat) (v : Value) (l : List By) : Prop := Blk w p 74 #[v, .bool true] ∧ OwnB w (p + 1) v l
/-- What a writer's call touches. -/
def WS (p : Nat) (v : Value) (i : Nat) : Prop := i = p ∨ v.ownBlock = some i
theorem IsWr.lt {w : World} {p : Nat} {v : Value} {l : List By} (h : IsWr w p v l) : p < w.heap.size := h.1.lt
theorem IsWr.below {w w' : World} {p : Nat} {v : Value} {l : List By} (h : IsWr w p v l) (hb : Below w.heap.size w w') : IsWr w' p v l := ⟨h.1.below hb h.lt, h.2.below hb⟩
theorem IsWr.tch {S : Nat → Prop} {w w' : World} {p : Nat} {v : Value} {l : List By} (h : IsWr w p v l) (ht : Tch S w w') (hp : ¬ S p) (hv : ∀ i, v.ownBlock = some i → ¬ S i) : IsWr w' p v l := ⟨ht.blk h.1 hp, ht.own h.2 hv⟩
theorem IsWr.c0 {w : World} {p : Nat} {v : Value} {l : List By} (h : IsWr w p v l) : w.cell? ⟨p, 0, none⟩ = some v := h.1.cell rfl
theorem IsWr.c1 {w : World} {p : Nat} {v : Value} {l : List By} (h : IsWr w p v l) : w.cell? ⟨p, 1, none⟩ = some (.bool true) := h.1.cell rfl
theorem IsWr.form {w : World} {p : Nat} {v : Value} {l : List By} (h : IsWr w p v l) : ∃ a n c, v = .slice a n c := by
  obtain ⟨a, c, e, _, _⟩ := h.2.bys
  exact ⟨a, _, c, e⟩
/-- The row is put back into the writer. -/
theorem IsWr.put {w w1 : World} {p : Nat} {v v1 : Value} {l l1 : List By} (h : IsWr w p v l) (ht : Tch (fun i => v.ownBlock = some i) w w1) (ho : OwnB w1 (p + 1) v1 l1) : IsWr (w1.setCell ⟨p, 0, none⟩ v1) p v1 l1 ∧ Tch (WS p v) w (w1.setCell ⟨p, 0, none⟩ v1) := by
  have hb : Blk w1 p 74 #[v, .bool true] := ht.blk h.1 (fun e => by have := (own_lt h.2 p e).1; omega)
  refine ⟨⟨hb.set 0 v1, ?_⟩, (ht.mono (fun i _ e => .inr e)).setCell (.inl (.inl rfl)) _⟩
  exact ((Tch.refl (fun i => i = p) w1).setCell (.inl rfl) v1).own ho (fun i e ei => by have := (own_lt ho i e).1; omega)

/-- No writer. -/
def NoWr (w : World) (v : Option Addr) : Prop := v = none ∨ ∃ g, v = some ⟨g, 0, none⟩ ∧ w.cell? ⟨g, 1, none⟩ = some (.bool false)
theorem NoWr.below {w w' : World} {v : Option Addr} (h : NoWr w v) (hb : Below w.heap.size w w') : NoWr w' v := by
  rcases h with h | ⟨b, rfl, h⟩
  · exact .inl h
  · exact .inr ⟨b, rfl, (hb.cell (p := ⟨b, 1, none⟩) (cell_lt h)).trans h⟩

theorem num_c (n : Int) (w : World) : Calls Try.prog 6 #[.int .i64 n] w fun e w' => e = .returned (.int .i64 n) ∧ w = w' := by
  go_enter Try.func6, Try.ntmps6
  go_wp2
  go_ret
  exact ⟨rfl, rfl⟩
theorem wnew_c (w : World) : Calls Try.prog 27 #[] w fun e w' => e = .returned (.pointer (some ⟨w.heap.size, 0, none⟩)) ∧ IsWr w' w.heap.size (.slice none 0 0) [] ∧ Below w.heap.size w w' := by
  go_enter Try.func27, Try.ntmps27
  go_wp2
  go_ret
  exact ⟨rfl, ⟨Blk.new _ _ _, World.ownsRow_nil _ _ _ _⟩, (Below.refl _ _).alloc (Nat.le_refl _) _⟩
theorem wnone_no (p : Nat) (v : Value) (l : List By) (w : World) (h : IsWr w p v l) : Calls Try.prog 45 #[.pointer (some ⟨p, 0, none⟩)] w fun e w' => e = .returned (.bool false) ∧ w = w' := by
  have c1 := h.c1
  go_enter Try.func45, Try.ntmps45
  go_wp2
  go_ret
  exact ⟨rfl, rfl⟩
theorem wnone_yes (v : Option Addr) (w : World) (h : NoWr w v) : Calls Try.prog 45 #[.pointer v] w fun e w' => e = .returned (.bool true) ∧ w = w' := by
  rcases h with rfl | ⟨g, rfl, c1⟩
  · go_enter Try.func45, Try.ntmps45
    go_wp2
    go_ret
    exact ⟨rfl, rfl⟩
  · go_enter Try.func45, Try.ntmps45
    go_wp2
    go_ret
    exact ⟨rfl, rfl⟩

/-! ### Number -/
theorem laidN_snoc {zs : List Int} {k : Nat} {x : Int} (h : zs[k]? = some x) : laidN (zs.take (k + 1)) = laidN (zs.take k) ++ numB x.toNat := by
  unfold laidN
  rw [List.take_add_one, h]
  simp
theorem laidN_len {zs : List Int} (h : okN zs = true) : (laidN zs).length ≤ 9 * zs.length := by
  induction zs with
  | nil => simp [laidN]
  | cons x t ih =>
    unfold okN at h
    rw [List.all_cons, Bool.and_eq_true] at h
    have h1 : 0 ≤ x ∧ x ≤ 4611686018427387904 := of_decide_eq_true h.1
    have h2 : (numB x.toNat).length ≤ 9 := numB_nine (by omega)
    have h3 := ih h.2
    have e : laidN (x :: t) = numB x.toNat ++ laidN t := by simp [laidN]
    rw [e, List.length_append, List.length_cons]
    omega
theorem okN_take {zs : List Int} (h : okN zs = true) (k : Nat) : okN (zs.take k) = true := by
  unfold okN at h ⊢
  rw [List.all_eq_true] at h ⊢
  exact fun x hx => h x (List.mem_of_mem_take hx)
theorem okN_at {zs : List Int} (h : okN zs = true) {k : Nat} {x : Int} (hx : zs[k]? = some x) : 0 ≤ x ∧ x ≤ 4611686018427387904 := by
  unfold okN at h
  rw [List.all_eq_true] at h
  exact of_decide_eq_true (h x (List.mem_of_getElem? hx))

/-- What a writer's call leaves. -/
def WrRes (w : World) (p : Nat) (v : Value) (l : List By) (e : Ending) (w' : World) : Prop := e = .returned (.int .i64 0) ∧ ∃ v', IsWr w' p v' l ∧ Tch (WS p v) w w' ∧ Mv w v v'

set_option maxHeartbeats 2000000 in
theorem wnumber_c (p : Nat) (v : Value) (l : List By) (a : Option Addr) (n c : Nat) (zs : List Int) (w : World) (h : IsWr w p v l) (hi : I64s w a n zs) (hn : n ≤ 1000000) (hl : l.length ≤ 100000000)
    (hap : ∀ g off, a = some ⟨g, off, none⟩ → 0 < n → ¬ WS p v g) (ho : okN zs = true) :
    Calls Try.prog 28 #[.pointer (some ⟨p, 0, none⟩), .slice a n c] w (WrRes w p v (l ++ laidN zs)) := by
  have H := Lib.hid h; have HI := Lib.hid hi; have HAP := Lib.hid hap; have HO := Lib.hid ho
  clear h hi hap ho
  go_enter Try.func28, Try.ntmps28
  go_wp2_with fail
  refine (wnone_no p v l _ H.out).mono ?_
  rintro e w' ⟨rfl, rfl⟩
  go_wp2_with fail
  refine (contains_c a n c zs _ HI.out hn).mono ?_
  rintro e w' ⟨rfl, rfl⟩
  rw [HO.out]
  go_wp2_with fail
  go_loopw [15] (fun i wr => ∃ (k : Nat) (v1 : Value), k ≤ n ∧ i = .int .i64 k ∧ IsWr wr p v1 (l ++ laidN (zs.take k)) ∧ Tch (WS p v) w wr ∧ Mv w v v1) (fun i _ => n - (intOf i).toNat)
  case atStart => exact ⟨0, v, Nat.zero_le _, rfl, by simpa [laidN] using H.out, Tch.refl _ _, Mv.refl _ _⟩
  case round =>
    obtain ⟨k, v1, hk, rfl, hw, ht, hm⟩ := hrel
    have HW := Lib.hid hw; have HT := Lib.hid ht; have HM := Lib.hid hm
    have hpr := hw.lt
    have hz := ht.size
    clear hw ht hm
    by_cases hlt : k < n
    · obtain ⟨x, hx⟩ : ∃ x, zs[k]? = some x := ⟨zs[k]'(by rw [HI.out.1]; exact hlt), List.getElem?_eq_getElem _⟩
      have hxb := okN_at HO.out hx
      obtain ⟨m, rfl⟩ : ∃ m : Nat, x = (m : Int) := ⟨x.toNat, by omega⟩
      have hll : (l ++ laidN (zs.take k)).length ≤ 1000000000 := by
        have := laidN_len (okN_take HO.out k)
        rw [List.length_take] at this
        rw [List.length_append]
        omega
      obtain ⟨g, off, rfl, hg, hc⟩ := (HI.out.tch HT.out HAP.out).2 k _ hx
      have hs := laidN_snoc hx
      have HS : Hid ((l ++ laidN (zs.take k)) ++ numB m = l ++ laidN (zs.take (k + 1))) := Lib.hid (by rw [hs, List.append_assoc]; rfl)
      clear hs hx
      have c0 := HW.out.c0
      have f0 := HW.out.1.frozen 0
      go_wp2_with fail
      refine (number_c m v1 _ (p + 1) _ HW.out.2 hll (by omega) (by omega)).mono ?_
      rintro e w2 ⟨v2, rfl, ho2, ht2, hm2⟩
      rw [HS.out] at ho2
      obtain ⟨hi2, hk2⟩ := HW.out.put ht2 ho2
      obtain ⟨a2, n2, c2, rfl⟩ := hi2.form
      have c3 := (hi2.c0)
      have HB2 : Hid (Blk w2 p 74 #[v1, .bool true]) := Lib.hid (ht2.blk HW.out.1 (fun e => by have := (own_lt HW.out.2 p e).1; omega))
      have c5 := HB2.out.cell (i := 0) rfl
      have f5 := HB2.out.frozen 0
      have HI2 := Lib.hid hi2
      have HT2 : Hid (Tch (WS p v) w (w2.setCell ⟨p, 0, none⟩ (.slice a2 n2 c2))) := Lib.hid (HT.out.trans hk2 (fun i hi e => by
        rcases e with e | e
        · exact .inl e
        · rcases HM.out with m | ⟨y, m, hy⟩
          · exact .inr (by rw [← m]; exact e)
          · rw [m] at e; injection e with e; omega))
      have HM2 := Lib.hid (HM.out.trans hm2 hz)
      clear ho2 ht2 hm2 hi2 hk2 c3 c0 f0 hc
      go_wp2_with fail
      go_roundw
      case rel => exact ⟨k + 1, _, by omega, by go_num, HI2.out, HT2.out, HM2.out⟩
      case measure => simp [intOf]; omega
    · obtain rfl : k = n := by omega
      have e : Hid (zs.take k = zs) := Lib.hid (List.take_of_length_le (by rw [HI.out.1]; exact Nat.le_refl _))
      go_wp2_with fail
      go_ret
      refine ⟨rfl, v1, ?_, HT.out, HM.out⟩
      have := HW.out
      rw [e.out] at this
      exact this
end Go.Proofs.Ytlgpoaapmgcloaa

