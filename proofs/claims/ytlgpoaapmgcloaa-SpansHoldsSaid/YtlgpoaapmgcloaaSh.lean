/- Contracts: a set out of spans; sets that are the same. -/
import Derived.Test.YtlgpoaapmgcloaaSg
import Derived.Test.YtlgpoaapmgcloaaSc
namespace Go.Proofs.Ytlgpoaapmgcloaa
open Go.RowKit
set_option linter.unusedSimpArgs false
set_option linter.unusedVariables false
set_option maxRecDepth 100000

set_option maxHeartbeats 2000000 in
theorem same_c (p p' : Nat) (l l' : List Sp) (a : Option Addr) (c : Nat) (a' : Option Addr) (c' : Nat) (w : World) (h : IsSet w p l a c) (h' : IsSet w p' l' a' c') (hn : l.length ≤ 1000000) (hn' : l'.length ≤ 1000000) :
    Calls Try.prog 10 #[.pointer (some ⟨p, 0, none⟩), .pointer (some ⟨p', 0, none⟩)] w fun e w' => e = .returned (.bool (decide (l = l'))) ∧ Below w.heap.size w w' := by
  have H := Lib.hid h; have H' := Lib.hid h'
  clear h h'
  go_enter Try.func10, Try.ntmps10
  go_wp2_with fail
  refine (none_c p a l.length c w H.out.blk).mono ?_
  rintro e w' ⟨rfl, rfl⟩
  go_wp2_with fail
  refine (none_c p' a' l'.length c' w H'.out.blk).mono ?_
  rintro e w' ⟨rfl, rfl⟩
  go_wp2_with fail
  have hS0 : (fun W => (IsSet W p l a c ∧ IsSet W p' l' a' c') ∧ Below w.heap.size w W) (World.drew w) := ⟨⟨H.out.below (Below.refl _ _).drew, H'.out.below (Below.refl _ _).drew⟩, (Below.refl _ _).drew⟩
  refine wp_region_held_drew (S := (fun W => (IsSet W p l a c ∧ IsSet W p' l' a' c') ∧ Below w.heap.size w W)) (by kernel_rfl) hS0 ?_
  intro hS0'
  refine wpAnyH_take (i := 0) (v := .pointer (some ⟨p, 0, none⟩)) rfl (by kernel_rfl) (by kernel_rfl) (by kernel_rfl) (fun _ _ _ h => h) (Or.inl ⟨by kernel_rfl, fun w0 hSw => ?_⟩) hS0' ?_
  · go_simp
  try simp only [Act.put, List.getElem_toArray, List.getElem_cons_succ, List.getElem_cons_zero, List.setIfInBounds_toArray, List.set_cons_zero, List.set_cons_succ]
  refine wpAnyH_take (i := 1) (v := .pointer (some ⟨p, 0, none⟩)) rfl (by kernel_rfl) (by kernel_rfl) (by kernel_rfl) (fun _ _ _ h => h) (Or.inl ⟨by kernel_rfl, fun w0 hSw => ?_⟩) hS0' ?_
  · go_simp
  try simp only [Act.put, List.getElem_toArray, List.getElem_cons_succ, List.getElem_cons_zero, List.setIfInBounds_toArray, List.set_cons_zero, List.set_cons_succ]
  refine wpAnyH_take (i := 2) (v := .pointer (some ⟨p, 0, none⟩)) rfl (by kernel_rfl) (by kernel_rfl) (by kernel_rfl) (fun _ _ _ h => h) (Or.inl ⟨by kernel_rfl, fun w0 hSw => ?_⟩) hS0' ?_
  · go_simp
  try simp only [Act.put, List.getElem_toArray, List.getElem_cons_succ, List.getElem_cons_zero, List.setIfInBounds_toArray, List.set_cons_zero, List.set_cons_succ]
  refine wpAnyH_take (i := 3) (v := .slice a l.length c) rfl (by kernel_rfl) (by kernel_rfl) (by kernel_rfl) (fun _ _ _ h => h) (Or.inl ⟨by kernel_rfl, fun w0 hSw => ?_⟩) hS0' ?_
  · have cc : _ = some (Value.slice a l.length c) := hSw.1.1.blk.cell (i := 0) rfl
    go_simp
  try simp only [Act.put, List.getElem_toArray, List.getElem_cons_succ, List.getElem_cons_zero, List.setIfInBounds_toArray, List.set_cons_zero, List.set_cons_succ]
  refine wpAnyH_take (i := 4) (v := .pointer (some ⟨p', 0, none⟩)) rfl (by kernel_rfl) (by kernel_rfl) (by kernel_rfl) (fun _ _ _ h => h) (Or.inl ⟨by kernel_rfl, fun w0 hSw => ?_⟩) hS0' ?_
  · go_simp
  try simp only [Act.put, List.getElem_toArray, List.getElem_cons_succ, List.getElem_cons_zero, List.setIfInBounds_toArray, List.set_cons_zero, List.set_cons_succ]
  refine wpAnyH_take (i := 5) (v := .pointer (some ⟨p', 0, none⟩)) rfl (by kernel_rfl) (by kernel_rfl) (by kernel_rfl) (fun _ _ _ h => h) (Or.inl ⟨by kernel_rfl, fun w0 hSw => ?_⟩) hS0' ?_
  · go_simp
  try simp only [Act.put, List.getElem_toArray, List.getElem_cons_succ, List.getElem_cons_zero, List.setIfInBounds_toArray, List.set_cons_zero, List.set_cons_succ]
  refine wpAnyH_take (i := 6) (v := .pointer (some ⟨p', 0, none⟩)) rfl (by kernel_rfl) (by kernel_rfl) (by kernel_rfl) (fun _ _ _ h => h) (Or.inl ⟨by kernel_rfl, fun w0 hSw => ?_⟩) hS0' ?_
  · go_simp
  try simp only [Act.put, List.getElem_toArray, List.getElem_cons_succ, List.getElem_cons_zero, List.setIfInBounds_toArray, List.set_cons_zero, List.set_cons_succ]
  refine wpAnyH_take (i := 7) (v := .slice a' l'.length c') rfl (by kernel_rfl) (by kernel_rfl) (by kernel_rfl) (fun _ _ _ h => h) (Or.inl ⟨by kernel_rfl, fun w0 hSw => ?_⟩) hS0' ?_
  · have cc : _ = some (Value.slice a' l'.length c') := hSw.1.2.blk.cell (i := 0) rfl
    go_simp
  try simp only [Act.put, List.getElem_toArray, List.getElem_cons_succ, List.getElem_cons_zero, List.setIfInBounds_toArray, List.set_cons_zero, List.set_cons_succ]
  refine wpAnyH_ready (rs := [8]) (by kernel_rfl) (by simp) ?_
  refine AllReadyH.cons (by rfl) ?_ AllReadyH.nil
  intro K hK
  go_simp
  refine (equal_c a l.length c a' l'.length c' l l' _ hS0'.1.1.row hS0'.1.2.row hn hn').mono ?_
  rintro e w5 ⟨rfl, hb5⟩
  refine hK.out _ _ ⟨⟨hS0'.1.1.below hb5, hS0'.1.2.below hb5⟩, hS0'.2.trans (hb5.mono hS0'.2.size)⟩ (fun hS1 => ?_)
  clear hK K
  refine wpAnyH_take (i := 9) (v := .bool (decide (l = l'))) rfl (by kernel_rfl) (by kernel_rfl) (by kernel_rfl) (fun _ _ _ h => h) (Or.inl ⟨by kernel_rfl, fun w0 hSw => ?_⟩) hS1 ?_
  · go_simp
  try simp only [Act.put, List.getElem_toArray, List.getElem_cons_succ, List.getElem_cons_zero, List.setIfInBounds_toArray, List.set_cons_zero, List.set_cons_succ]
  refine wpAnyH_done (by kernel_rfl) ?_ _
  have HSF := Lib.hid hS1.2
  go_wp2_with fail
  go_ret
  exact ⟨rfl, HSF.out⟩
theorem Can.smalls {b : Int} {l : List Sp} (h : Can b l) (hb : -1 ≤ b) : Smalls l := fun x hx => by
  have := h.forall x hx
  unfold Sp.small; omega
theorem Can.short {l : List Sp} (h : Can (-1) l) : l.length ≤ 4097 := by have := h.len; omega
def Rights (l : List Sp) : Bool := l.all (fun x => x.right)
theorem rights_take {l : List Sp} {i : Nat} {x : Sp} (hx : l[i]? = some x) : Rights (l.take (i + 1)) = (Rights (l.take i) && x.right) := by
  unfold Rights
  rw [List.take_add_one, hx, List.all_append]
  simp
theorem setL_take {l : List Sp} {i : Nat} {x : Sp} (hx : l[i]? = some x) : setL (l.take (i + 1)) = addL (setL (l.take i)) x := by
  rw [List.take_add_one, hx]; exact setL_snoc _ _
theorem rights_all {l : List Sp} (h : Rights l = true) : ∀ x ∈ l, x.right = true := by
  unfold Rights at h
  rw [List.all_eq_true] at h
  exact h
theorem setL_can {l : List Sp} (h : Rights l = true) : Can (-1) (setL l) := (adds (m := []) trivial l (rights_all h)).1
set_option maxHeartbeats 4000000 in
theorem new_c (a : Option Addr) (n c : Nat) (l : List Sp) (w : World) (h : Sps w a n l) (hn : n ≤ 1000000) :
    Calls Try.prog 8 #[.slice a n c] w fun e w' => ((Rights l = true ∧ e = .returned (.tuple #[.pointer (some ⟨w.heap.size, 0, none⟩), .int .i64 0]) ∧ ∃ a' c', IsSet w' w.heap.size (setL l) a' c') ∨ (Rights l = false ∧ e = .returned (.tuple #[.pointer none, .int .i64 2]))) ∧ Below w.heap.size w w' := by
  have hll := h.1
  have hal := (Below.refl w.heap.size w).alloc (Nat.le_refl _) (.cells #[.slice none 0 0, .bool true] 51)
  have HIS : Hid (IsSet (w.alloc (.cells #[.slice none 0 0, .bool true] 51)) w.heap.size [] none 0) := Lib.hid ⟨Blk.new _ _ _, Sps.nil _ _, Nat.le_refl _⟩
  have HB := Lib.hid hal
  have H := Lib.hid h
  obtain ⟨p, hp⟩ : ∃ p, p = w.heap.size := ⟨_, rfl⟩
  have hpw : w.heap.size ≤ p := by omega
  rw [← hp] at HIS
  have HPS := Lib.hid hp
  clear hal h hp
  go_enter Try.func8, Try.ntmps8
  go_wp2_with fail
  rw [← HPS.out]
  generalize w.alloc (.cells #[.slice none 0 0, .bool true] 51) = w1 at HIS HB ⊢
  go_loopw [13] (fun iv wr => ∃ (i : Nat) (a' : Option Addr) (c' : Nat), i ≤ n ∧ iv = .int .i64 (i : Int) ∧ Rights (l.take i) = true ∧ IsSet wr p (setL (l.take i)) a' c' ∧ Below w.heap.size w wr) (fun iv _ => n - (intOf iv).toNat)
  case atStart => exact ⟨0, none, 0, Nat.zero_le _, rfl, rfl, HIS.out, HB.out⟩
  case round =>
  obtain ⟨i, a', c', hi, rfl, hr, his, hb⟩ := hrel
  have HR := Lib.hid hr; have HI := Lib.hid his; have HBB := Lib.hid hb
  by_cases hlt : i < n
  · obtain ⟨x, hx⟩ : ∃ x, l[i]? = some x := ⟨l[i]'(by omega), List.getElem?_eq_getElem _⟩
    have HX := Lib.hid hx
    obtain ⟨g, off, rfl, hg, c0, c1⟩ := (H.out.below hb).2 i x hx
    have hal := (Below.refl wr.heap.size wr).alloc (Nat.le_refl _) (.cells #[.int .i64 x.f, .int .i64 x.t] 33)
    have HI2 := Lib.hid (his.below hal)
    have HB2 := Lib.hid (hb.trans (hal.mono hb.size))
    have hcan := setL_can hr
    have HCS := Lib.hid (hcan.smalls (Int.le_refl _))
    have hcl := hcan.short
    clear hx hal hr his hb hcan
    go_wp2_with fail
    clear c0 c1
    change Calls Try.prog 9 #[.pointer (some ⟨p, 0, none⟩), x.val] _ _
    refine (add_c p (setL (l.take i)) a' c' x _ HI2.out (by omega) HCS.out).mono ?_
    rintro e w3 ⟨(⟨hxr, rfl, a2, c2, hs2⟩ | ⟨hxr, rfl, hs2⟩), ho3⟩
    · have HS2 := Lib.hid hs2
      have HXR := Lib.hid hxr
      have HB3 := Lib.hid (HB2.out.trans (ho3.below (B := w.heap.size) HB2.out.size hpw))
      obtain ⟨N, hN⟩ : ∃ N, N = x.len - among (setL (l.take i)) x := ⟨_, rfl⟩
      rw [← hN]
      clear hs2 hxr ho3 hN
      go_wp2_with fail
      go_roundw
      case rel => exact ⟨i + 1, a2, c2, by omega, by go_num, by rw [rights_take HX.out, HR.out, HXR.out]; rfl, by rw [setL_take HX.out]; exact HS2.out, HB3.out⟩
      case measure => simp [intOf]; omega
    · have HB3 := Lib.hid (HB2.out.trans (ho3.below (B := w.heap.size) HB2.out.size hpw))
      have HXR := Lib.hid hxr
      clear hs2 hxr ho3
      go_wp2_with fail
      go_ret2
      have hf : Rights l = false := by
        unfold Rights
        rw [List.all_eq_false]
        exact ⟨x, List.mem_of_getElem? HX.out, by rw [HXR.out]; simp⟩
      exact ⟨.inr ⟨hf, rfl⟩, HB3.out⟩
  · obtain rfl : i = n := by omega
    rw [List.take_of_length_le (by omega)] at hr his
    have HRA := Lib.hid hr; have HIA := Lib.hid his
    have hji : ¬ ((i : Int) < (i : Int)) := by omega
    clear hr his hb
    go_wp2_with fail
    go_ret2
    exact ⟨.inl ⟨HRA.out, by rw [HPS.out]; rfl, a', c', by rw [← HPS.out]; exact HIA.out⟩, HBB.out⟩
end Go.Proofs.Ytlgpoaapmgcloaa
