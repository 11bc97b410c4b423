/- Contracts: Open; the reference's Open. -/
import Derived.Test.YtodjbgcmlpmknaaWk
namespace Go.Proofs.Ytodjbgcmlpmknaa
open Go.RowKit

/-- Whether bytes are sealed ones. -/
def openB (l : List By) : Bool := decide (4 ≤ l.length) && decide (lowB (sumB (l.take (l.length - 4))) = l.drop (l.length - 4))
theorem Bys.take {w : World} {a : Option Addr} {n : Nat} {l : List By} (h : Bys w a n l) (k : Nat) (hk : k ≤ n) : Bys w a k (l.take k) := by
  refine ⟨by rw [List.length_take, h.1]; omega, fun i c hi => ?_⟩
  have hlt := (List.getElem?_eq_some_iff.1 hi).1
  rw [List.length_take] at hlt
  rw [List.getElem?_take, if_pos (by omega)] at hi
  exact h.2 i c hi
theorem Bys.drop {w : World} {a : Addr} {n : Nat} {l : List By} (h : Bys w (some a) n l) (k : Nat) (_ : k ≤ n) : Bys w (some (a.add k)) (n - k) (l.drop k) := by
  refine ⟨by rw [List.length_drop, h.1], fun i c hi => ?_⟩
  rw [List.getElem?_drop] at hi
  obtain ⟨g, off, e, hg, hc⟩ := h.2 (k + i) c hi
  injection e with e
  subst e
  exact ⟨g, off + k, by rw [add_plain], hg, by rw [Nat.add_assoc]; exact hc⟩

set_option maxHeartbeats 1000000 in
theorem open_short (a : Option Addr) (n c : Nat) (w : World) (hn : n < 4) :
    Calls Try.prog 21 #[.slice a n c] w fun e w' => e = .returned (.tuple #[.slice none 0 0, .int .i64 110]) ∧ Below w.heap.size w w' := by
  have hq : (n : Int) - 4 < 0 := by omega
  go_enter Try.func21, Try.ntmps21
  go_wp2
  go_quiet (fail)
  go_wp2
  go_ret2
  exact ⟨rfl, below_drewN (Below.refl _ _) _⟩

set_option maxHeartbeats 1000000 in
theorem open_long (a : Option Addr) (n c : Nat) (l : List By) (w : World) (h : Bys w a n l) (h4 : 4 ≤ n) (hn : n ≤ 1000000) (hc : n ≤ c) (u : Bool) (hu : u = openB l) :
    Calls Try.prog 21 #[.slice a n c] w fun e w' => Below w.heap.size w w' ∧ if u then ∃ v, e = .returned (.tuple #[v, .int .i64 0]) ∧ OwnB w' w.heap.size v (l.take (n - 4)) else e = .returned (.tuple #[.slice none 0 0, .int .i64 110]) := by
  have HU := Lib.hid hu; clear hu
  obtain ⟨g, off, rfl, hg, _⟩ := h.cells (by omega)
  have H := Lib.hid h; clear h
  obtain ⟨m, rfl⟩ : ∃ m, n = m + 4 := ⟨n - 4, by omega⟩
  have k1 : c ≠ m := by omega
  have k2 : ¬ c < m := by omega
  have k3 : ¬ (m : Int) + 4 < m := by omega
  have k4 : c - m ≠ 0 := by omega
  go_enter Try.func21, Try.ntmps21
  go_wp2
  refine wp_region_any (by kernel_rfl) ?_
  change wpAny _ _ _ _ _ _ _ (World.drew _)
  refine wpAny_take (i := 0) (v := .int .i64 (m : Int)) rfl (by kernel_rfl) (by kernel_rfl) (by kernel_rfl) (fun _ _ _ h => h) (Or.inl ⟨by kernel_rfl, fun w => ?_⟩) ?_
  · go_simp
  refine wpAny_take (i := 1) (v := .bool false) rfl (by kernel_rfl) (by kernel_rfl) (by kernel_rfl) (fun _ _ _ h => h) (Or.inl ⟨by kernel_rfl, fun w => ?_⟩) ?_
  · go_simp
  refine wpAny_take (i := 2) (v := .bool false) rfl (by kernel_rfl) (by kernel_rfl) (by kernel_rfl) (fun _ _ _ h => h) (Or.inl ⟨by kernel_rfl, fun w => ?_⟩) ?_
  · go_simp
  refine wpAny_take (i := 3) (v := .slice (some ⟨g, off, none⟩) (m + 4) c) rfl (by kernel_rfl) (by kernel_rfl) (by kernel_rfl) (fun _ _ _ h => h) (Or.inl ⟨by kernel_rfl, fun w => ?_⟩) ?_
  · go_simp
  refine wpAny_take (i := 4) (v := .int .i64 (m : Int)) rfl (by kernel_rfl) (by kernel_rfl) (by kernel_rfl) (fun _ _ _ h => h) (Or.inl ⟨by kernel_rfl, fun w => ?_⟩) ?_
  · go_simp
  refine wpAny_take (i := 5) (v := .slice (some ⟨g, off, none⟩) m c) rfl (by kernel_rfl) (by kernel_rfl) (by kernel_rfl) (fun _ _ _ h => h) (Or.inl ⟨by kernel_rfl, fun w => ?_⟩) ?_
  · go_simp
  refine wpAny_take (i := 9) (v := .slice (some ⟨g, off, none⟩) (m + 4) c) rfl (by kernel_rfl) (by kernel_rfl) (by kernel_rfl) (fun _ _ _ h => h) (Or.inl ⟨by kernel_rfl, fun w => ?_⟩) ?_
  · go_simp
  refine wpAny_take (i := 10) (v := .int .i64 (m : Int)) rfl (by kernel_rfl) (by kernel_rfl) (by kernel_rfl) (fun _ _ _ h => h) (Or.inl ⟨by kernel_rfl, fun w => ?_⟩) ?_
  · go_simp
  refine wpAny_take (i := 11) (v := .slice (some ⟨g, off + m, none⟩) 4 (c - m)) rfl (by kernel_rfl) (by kernel_rfl) (by kernel_rfl) (fun _ _ _ h => h) (Or.inl ⟨by kernel_rfl, fun w => ?_⟩) ?_
  · go_simp
  refine wpAny_ready (rs := [6]) (by kernel_rfl) (by simp) ?_
  refine AllReady.cons rfl (fun K hK => ?_) AllReady.nil
  go_simp
  refine hK _ _ ?_
  clear hK K
  have HP := Lib.hid ((Prs.one c 22 (H.out.take m (by omega)) (by omega)).below ((Below.refl _ _).drew))
  have HB := Lib.hid (((Below.refl w.heap.size w).alloc (Nat.le_refl _) (.cells #[.slice (some ⟨g, off, none⟩) m c] 22)).drew)
  generalize (w.alloc (.cells #[.slice (some ⟨g, off, none⟩) m c] 22)).drew = w1 at HP HB ⊢
  refine wpAny_ready (rs := [7]) (by kernel_rfl) (by simp) ?_
  refine AllReady.cons rfl (fun K hK => ?_) AllReady.nil
  go_simp
  refine (sum_c _ 1 _ [l.take m] _ HP.out (by omega)).mono ?_
  rintro e w2 ⟨rfl, hb⟩
  have HB2 := Lib.hid (HB.out.trans (hb.mono HB.out.size))
  clear hb HP HB
  have e1 : [l.take m].flatten = l.take m := by simp
  rw [e1]
  clear e1
  obtain ⟨x, hx⟩ : ∃ x, x = sumB (l.take m) := ⟨_, rfl⟩
  rw [← hx]
  have HX := Lib.hid hx; clear hx
  refine hK _ _ ?_
  clear hK K
  refine wpAny_ready (rs := [8]) (by kernel_rfl) (by simp) ?_
  refine AllReady.cons rfl (fun K hK => ?_) AllReady.nil
  go_simp
  refine (low_c _ _).mono ?_
  rintro e w3 ⟨v, rfl, ho, hb⟩
  obtain ⟨a2, c2, rfl, _, hy⟩ := ho.bys
  have HB3 := Lib.hid (HB2.out.trans (hb.mono HB2.out.size))
  have HY := Lib.hid hy
  clear ho hb hy HB2
  rw [low_len] at HY ⊢
  refine hK _ _ ?_
  clear hK K
  refine wpAny_ready (rs := [12]) (by kernel_rfl) (by simp) ?_
  refine AllReady.cons rfl (fun K hK => ?_) AllReady.nil
  go_simp
  have HD : Hid (Bys w3 (some ⟨g, off + m, none⟩) 4 (l.drop m)) := by
    have := (H.out.below HB3.out).drop m (by omega)
    rw [add_plain, show m + 4 - m = 4 by omega] at this
    exact Lib.hid this
  refine (equal_c _ _ _ _ _ _ _ _ _ HY.out HD.out (by omega)).mono ?_
  rintro e w4 ⟨rfl, hb⟩
  have HB4 := Lib.hid (HB3.out.trans (hb.mono HB3.out.size))
  clear hb HB3 HY HD
  have eu : decide (lowB x = l.drop m) = u := by
    rw [HU.out, HX.out]
    have hl := H.out.1
    simp [openB, hl]
  rw [eu]
  refine hK _ _ ?_
  clear hK K
  refine wpAny_ready (rs := [13]) (by kernel_rfl) (by simp) ?_
  refine AllReady.cons rfl (fun K hK => ?_) AllReady.nil
  go_simp
  refine hK _ _ ?_
  clear hK K
  refine wpAny_ready (rs := [14]) (by kernel_rfl) (by simp) ?_
  refine AllReady.cons rfl (fun K hK => ?_) AllReady.nil
  go_simp
  refine hK _ _ ?_
  clear hK K
  refine wpAny_done (by kernel_rfl) ?_ _
  clear eu HU
  cases u
  · go_wp2
    go_ret2
    exact ⟨HB4.out, rfl⟩
  · go_wp2_with fail
    refine (clone_c _ _ _ (l.take m) _ ((H.out.below HB4.out).take m (by omega)) (by omega)).mono ?_
    rintro e w5 ⟨v, rfl, ho, hb⟩
    have HO := Lib.hid ho
    have HB5 := Lib.hid (HB4.out.trans (hb.mono HB4.out.size))
    clear ho hb
    go_wp2_with fail
    go_ret2
    refine ⟨HB5.out, v, rfl, ?_⟩
    have := HO.out
    exact own_low this HB4.out.size
end Go.Proofs.Ytodjbgcmlpmknaa
