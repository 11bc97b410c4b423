/- Contracts: the first number that is not in a set. -/
import Derived.Test.YtlgpoaapmgcloaaSk
import Derived.Test.YtlgpoaapmgcloaaHh
namespace Go.Proofs.Ytlgpoaapmgcloaa
open Go.RowKit Go.Shelf
attribute [local go_sem] Oper.semAt_some
set_option linter.unusedSimpArgs false
set_option linter.unusedVariables false
set_option maxRecDepth 100000

def gapG (e : Int) (x : Sp) : Int := if x.f ≤ e ∧ e < x.t then x.t else e
theorem gapL_eq (l : List Sp) (n : Int) : gapL l n = l.foldl gapG (min (max 0 n) 4096) := rfl
theorem foldl_take {α β : Type} (g : β → α → β) {l : List α} {i : Nat} {x : α} (b : β) (hx : l[i]? = some x) : (l.take (i + 1)).foldl g b = g ((l.take i).foldl g b) x := by
  rw [List.take_add_one, hx, List.foldl_append]; rfl
theorem Sp.val_inj {x y : Sp} (h : x.val = y.val) : x = y := by
  unfold Sp.val at h
  injection h with h
  have h0 := congrArg (fun a => a[0]?) h
  have h1 := congrArg (fun a => a[1]?) h
  simp at h0 h1
  exact Sp.ext' h0 h1
set_option maxHeartbeats 4000000 in
theorem gap_in (m0 : Nat) (p : Nat) (l : List Sp) (a : Option Addr) (c : Nat) (z : Int) (w : World) (h : IsSet w p l a c) (hn : l.length ≤ 1000000) :
    CallsIn Fence.wide m0 Try.prog 14 #[.pointer (some ⟨p, 0, none⟩), .int .i64 z] w fun e w' => e = .returned (.int .i64 (gapL l z)) ∧ Below w.heap.size w w' := by
  have H := Lib.hid h; clear h
  refine callsIn_of_wp_marks Try.func14 rfl trivial ?_ rfl
  simp only [Try.ntmps14, List.size_toArray, List.length_cons, List.length_nil, Nat.reduceAdd, Nat.reduceSub, Array.replicate_succ, Array.replicate_zero, List.push_toArray, List.append_toArray, List.nil_append, List.cons_append]
  gi_wp2_with fail
  obtain ⟨w2, hw2⟩ : ∃ w2, w2 = w.alloc (.cells #[.int .i64 z] 3) := ⟨_, rfl⟩
  have hz2 : w2.heap.size = w.heap.size + 1 := by rw [hw2]; simp
  have bX : Boxed w2 w.heap.size 3 (.int .i64 z) := by rw [hw2]; exact Boxed.new w 3 _
  have hb2 : Below w.heap.size w w2 := by rw [hw2]; exact (Below.refl w.heap.size w).alloc (Nat.le_refl _) _
  rw [← hw2]
  clear hw2
  have H2 := Lib.hid (H.out.below hb2)
  refine ⟨trivial, fun h => (by simp [Fence.wide] at h), (callsIn_wide.2 (none_c p a l.length c w2 H2.out.blk)).mono ?_⟩
  rintro e w3 ⟨rfl, rfl⟩
  have HB2 := Lib.hid hb2; have HX := Lib.hid bX
  have cX := bX.cell
  have fX := bX.frozen
  clear hb2 bX
  gi_wp2_with fail
  all_goals
    rename_i hM
    obtain ⟨m, hm⟩ : ∃ m, m = min (max 0 z) 4096 := ⟨_, rfl⟩
    have HM := Lib.hid hm
    obtain ⟨w4, hw4⟩ : ∃ w4, w4 = w2.setCell ⟨w.heap.size, 0, none⟩ (.int .i64 m) := ⟨_, rfl⟩
    have hb4 : Below w.heap.size w w4 := by rw [hw4]; exact HB2.out.setCell (Nat.le_refl _) _
    have hz4 : w4.heap.size = w.heap.size + 1 := by rw [hw4]; simpa using hz2
    have bX4 : Boxed w4 w.heap.size 3 (.int .i64 m) := by rw [hw4]; exact Boxed.set _ HX.out
    have hmz : (Value.int .i64 z = .int .i64 m ∧ 0 < z) ∨ (Value.int .i64 0 = .int .i64 m ∧ z ≤ 0) ∨ (Value.int .i64 4096 = .int .i64 m ∧ 0 < z) := by
      split at hM
      · rcases Int.lt_or_le 4096 z with h5 | h5
        · exact .inr (.inr ⟨by rw [hm]; congr 1; omega, by omega⟩)
        · exact .inl ⟨by rw [hm]; congr 1; omega, by omega⟩
      · exact .inr (.inl ⟨by rw [hm]; congr 1; omega, by omega⟩)
    first
    | rw [show w2.setCell ⟨w.heap.size, 0, none⟩ (.int .i64 z) = w4 from by rw [hw4]; congr 2; rw [hm]; (split at hM <;> omega)]
    | rw [show w2.setCell ⟨w.heap.size, 0, none⟩ (.int .i64 0) = w4 from by rw [hw4]; congr 2; rw [hm]; (split at hM <;> omega)]
    | rw [show w2.setCell ⟨w.heap.size, 0, none⟩ (.int .i64 4096) = w4 from by rw [hw4]; congr 2; rw [hm]; (split at hM <;> omega)]
    clear hw4 hmz hM cX fX hm
    refine ⟨trivial, fun h => (by simp [Fence.wide] at h), (callsIn_wide.2 (all_c p l a c w4 (H.out.below hb4) hn)).mono ?_⟩
    rintro e w5 ⟨Bk, a', c', rfl, hBk, hbx, hsp, hlo, hb5⟩
    have HBX := Lib.hid hbx; have HSP := Lib.hid hsp; have HLO := Lib.hid hlo
    have HB5 := Lib.hid (hb4.trans (hb5.mono (by omega)))
    have HX5 : Hid (Boxed w5 w.heap.size 3 (.int .i64 m)) := Lib.hid ((hb5.block _ (by omega)).trans bX4)
    have hz5 := hb5.size
    have hkl : Bk < w5.heap.size := hbx.lt
    clear hbx hsp hlo hb5 hb4 bX4
    gi_wp2_with fail
    refine range_gives2 (p := 13) (vals_gives Bk a' l.length c' l hn) rfl (enters_of Try.func63 (by kernel_rfl) rfl)
      (fun i => i = w.heap.size)
      (fun X hb hz => ⟨boxed_below HBX.out hb hkl, HSP.out.below hb, fun g off e h0 hU => by have := HLO.out g off e; obtain ⟨x, hx⟩ : ∃ x, l[0]? = some x := ⟨_, List.getElem?_eq_getElem h0⟩; obtain ⟨g', off', e', hg, _⟩ := HSP.out.2 0 x hx; rw [e] at e'; injection e' with e'; injection e' with e1; omega⟩)
      (fun i hi => by omega)
      (fun k v X Y ht h => h)
      (fun k X => Boxed X w.heap.size 3 (.int .i64 ((l.take k).foldl gapG m)) ∧ Below w.heap.size w X)
      (fun _ _ _ => False)
      (fun k X Y ht h => ⟨ht.boxed h.1 (by omega), h.2.trans (ht.below h.2.size (fun i hi => by omega))⟩)
      (fun c k X Y ht h => h)
      (.inr (fun _ _ _ h => h))
      ⟨HX5.out, HB5.out⟩
      (fun v a1 X => ∃ M0 M1 M2 B, w5.heap.size + 2 ≤ B ∧ (∀ x : Sp, v = x.val → Blk X B 33 #[.int .i64 x.f, .int .i64 x.t]) ∧ (∃ y : Sp, v = y.val) ∧ a1 = { tmps := #[.pointer (some ⟨p, 0, none⟩), .int .i64 z, undef, .pointer (some ⟨w.heap.size, 0, none⟩), .int .i64 0, .pointer (some ⟨B, 0, none⟩), .pointer (some ⟨p, 0, none⟩), .bool false, M0, M1, M2, .pointer (some ⟨p, 0, none⟩), .func (.func 63) #[] #[.pointer (some ⟨Bk, 0, none⟩)], v, undef, undef, undef, undef, undef, undef, undef, undef, undef, undef, undef, undef, undef], defers := [] })
      (fun v a1 X Y ht h => by
        obtain ⟨M0, M1, M2, B, hB, hc, hy, e⟩ := h
        exact ⟨M0, M1, M2, B, hB, fun x hx => ht.blk (hc x hx) (by omega), hy, e⟩)
      ?_ ?_ ?_ ?_
    · intro l1 k v X K hzX hown hK
      obtain ⟨x, hx, rfl⟩ := hown
      have HK := Lib.hid hK
      clear hK
      simp only [List.setIfInBounds_toArray, List.set_cons_zero, List.set_cons_succ]
      unfold Sp.val
      gi_wp2_with fail
      exact HK.out _ _ ((Below.refl X.heap.size X).alloc (Nat.le_refl _) _) ⟨_, _, _, X.heap.size, hzX, fun y hy => by obtain rfl := Sp.val_inj hy; exact Blk.new X 33 _, ⟨x, rfl⟩, rfl⟩
    · intro l1 k v a1 W hzW hI hk hv ha
      obtain ⟨x, hx, rfl⟩ := hv
      obtain ⟨M0, M1, M2, B, hB, hc, -, rfl⟩ := ha
      have hblk := hc x rfl
      have c0 : W.cell? ⟨B, 0, none⟩ = some (.int .i64 x.f) := hblk.cell (i := 0) rfl
      have c1 : W.cell? ⟨B, 1, none⟩ = some (.int .i64 x.t) := hblk.cell (i := 1) rfl
      have HE := Lib.hid (foldl_take gapG m hx)
      obtain ⟨e, he⟩ : ∃ e, e = (l.take k).foldl gapG m := ⟨_, rfl⟩
      rw [← he] at hI HE
      have HI := Lib.hid hI
      have cX := hI.1.cell
      have fX := hI.1.frozen
      clear hI hx hc hblk he
      by_cases q1 : x.f ≤ e
      · by_cases q2 : e < x.t
        · have HG : Hid (gapG e x = x.t) := Lib.hid (by unfold gapG; rw [if_pos ⟨q1, q2⟩])
          gi_wp2_with fail
          exact ⟨(Tch.refl (fun i => i = w.heap.size) W).setCell (.inl rfl) _, by rw [HE.out, HG.out]; exact Boxed.set _ HI.out.1, HI.out.2.setCell (Nat.le_refl _) _⟩
        · have HG : Hid (gapG e x = e) := Lib.hid (by unfold gapG; rw [if_neg (fun h => q2 h.2)])
          gi_wp2_with fail
          exact ⟨Tch.refl _ W, by rw [HE.out, HG.out]; exact HI.out.1, HI.out.2⟩
      · have HG : Hid (gapG e x = e) := Lib.hid (by unfold gapG; rw [if_neg (fun h => q1 h.1)])
        gi_wp2_with fail
        exact ⟨Tch.refl _ W, by rw [HE.out, HG.out]; exact HI.out.1, HI.out.2⟩
    · intro D W hD hD2 hzW hi hK
      rw [List.take_length] at hi
      have HI := Lib.hid hi; have HK := Lib.hid hK
      have cX := hi.1.cell
      have fX := hi.1.frozen
      have hDW : D < W.heap.size := (Array.getElem?_eq_some_iff.1 hK).1
      clear hi hK
      gi_wp2_with fail
      refine ⟨by simp, .inl ⟨_, _, rfl, run_takeDeferred HK.out, ?_⟩⟩
      have hT := (Tch.refl (fun i => i = D) W).putObj1 (r := D) (.inl rfl) (.deferred none)
      exact ⟨_, results_tmp rfl _ _ _, by rw [gapL_eq, ← HM.out]; rfl, HI.out.2.trans (hT.below HI.out.2.size (fun i e => by omega))⟩
    · rintro D c k W hD hD2 hk h hK
      exact h.elim
theorem gap_c (p : Nat) (l : List Sp) (a : Option Addr) (c : Nat) (z : Int) (w : World) (h : IsSet w p l a c) (hn : l.length ≤ 1000000) :
    Calls Try.prog 14 #[.pointer (some ⟨p, 0, none⟩), .int .i64 z] w fun e w' => e = .returned (.int .i64 (gapL l z)) ∧ Below w.heap.size w w' := callsIn_wide.1 (gap_in 0 p l a c z w h hn)
end Go.Proofs.Ytlgpoaapmgcloaa
