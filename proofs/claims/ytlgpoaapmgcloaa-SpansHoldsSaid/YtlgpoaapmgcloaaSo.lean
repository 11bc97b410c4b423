/- Contracts: all spans of a set as a row. -/
import Derived.Test.YtlgpoaapmgcloaaSn
namespace Go.Proofs.Ytlgpoaapmgcloaa
open Go.RowKit Go.Shelf
attribute [local go_sem] Oper.semAt_some
set_option linter.unusedSimpArgs false
set_option linter.unusedVariables false
set_option maxRecDepth 100000

theorem wplIn_append_sps {F : Fence} {n : Nat} {ops : Array Oper} {rest : List Oper} {o : Oper} {a : Act} {w : World} {Q : Exit → Act → World → Prop} (hgd : o.guard = none) (s x : Operand) (t t2 : TypeId) (e2 : TypeId)
    (hop : o.op = .call { callee := .builtin .append, args := #[s, x], argTypes := #[t, t2] }) (ht : Try.prog.underlying t = some (.slice 33)) (ht2 : Try.prog.underlying t2 = some (.slice e2))
    (base : Nat) (v : Value) (l : List Sp) (hs : a.eval s = v) (hown : OwnR w base v l) (A : Option Addr) (m c : Nat) (news : List Sp) (hx : a.eval x = .slice A m c) (hr : Sps w A m news)
    (hsz : l.length + m ≤ 1000000000) (hbase : base ≤ w.heap.size)
    (h : ∀ v' w', OwnR w' base v' (l ++ news) → w.grownBy w' v.ownBlock → wpListIn F n Try.prog ops Q rest (a.put o.dst v') w') : wpListIn F n Try.prog ops Q (o :: rest) a w := by
  refine wpListIn_plain hgd fun K hK' => ?_
  obtain ⟨v', w', hrun, h2, h3⟩ := run_append_sps w base v l hown o.type A m c news hr hsz hbase
  rw [append_on Try.prog 22 t 33 o.type _ _ _ Try.underlying22 ht, ← append_as Try.prog t t2 33 e2 o.type _ _ _ ht ht2] at hrun
  unfold Oper.wpIn
  refine ⟨?_, ?_⟩
  · simp [Oper.about, hop, resolve, Target.leads, Sem.run_pure]
  · rw [Oper.semAt_plain F _ _ (by rw [hop]; intro c hc'; cases hc')]
    simp [execOp, hop, resolve, invoke, builtin, hs, hx, hrun, Result.andThen]
    exact hK' _ _ (h v' w' h2 h3)
theorem Tch.ownR {S : Nat → Prop} {w w' : World} {base : Nat} {v : Value} {l : List Sp} (h : Tch S w w') (ho : OwnR w base v l) (hv : ∀ i, base ≤ i → v.ownBlock = some i → ¬ S i) : OwnR w' base v l := by
  have h0 := ho
  obtain ⟨h1, h2⟩ := ho
  refine ⟨h1, ?_⟩
  rcases h2 with h2 | ⟨g, cap, cur, e, hg, hh, r⟩
  · exact .inl h2
  · exact .inr ⟨g, cap, cur, e, hg, (h.block g (Array.getElem?_eq_some_iff.1 hh).1 (hv g hg (by rw [e]; rfl))).trans hh, r⟩
def AllSt (w X : World) (base : Nat) (l : List Sp) : Prop := ∃ v, Boxed X w.heap.size 22 v ∧ OwnR X base v l ∧ Below w.heap.size w X
theorem AllSt.tch {w X Y : World} {base : Nat} {l : List Sp} {S : Nat → Prop} (h : AllSt w X base l) (ht : Tch S X Y) (hS : ∀ i, S i → w.heap.size < i ∧ i < base) : AllSt w Y base l := by
  obtain ⟨v, h1, h2, h3⟩ := h
  exact ⟨v, ht.boxed h1 (fun e => by have := hS _ e; omega), ht.ownR h2 (fun i hi _ e => by have := hS _ e; omega), h3.trans (ht.below h3.size (fun i e => by have := hS _ e; omega))⟩
set_option maxHeartbeats 4000000 in
theorem lall_in (m0 : Nat) (p : Nat) (l : List Sp) (a : Option Addr) (c : Nat) (w : World) (h : IsSet w p l a c) (hn : l.length ≤ 1000000) :
    CallsIn Fence.wide m0 Try.prog 15 #[.pointer (some ⟨p, 0, none⟩)] w fun e w' => ∃ a' c', e = .returned (.slice a' l.length c') ∧ Sps w' a' l.length l ∧ Below w.heap.size w w' := by
  have H := Lib.hid h; clear h
  refine callsIn_of_wp_marks Try.func15 rfl trivial ?_ rfl
  simp only [Try.ntmps15, List.size_toArray, List.length_cons, List.length_nil, Nat.reduceAdd, Nat.reduceSub, Array.replicate_succ, Array.replicate_zero, List.push_toArray, List.append_toArray, List.nil_append, List.cons_append]
  gi_wp2_with fail
  obtain ⟨w2, hw2⟩ : ∃ w2, w2 = w.alloc (.cells #[.slice none 0 0] 22) := ⟨_, rfl⟩
  have hz2 : w2.heap.size = w.heap.size + 1 := by rw [hw2]; simp
  have bX : Boxed w2 w.heap.size 22 (.slice none 0 0) := by rw [hw2]; exact Boxed.new w 22 _
  have hb2 : Below w.heap.size w w2 := by rw [hw2]; exact (Below.refl w.heap.size w).alloc (Nat.le_refl _) _
  rw [← hw2]
  clear hw2
  refine ⟨trivial, fun h => (by simp [Fence.wide] at h), (callsIn_wide.2 (all_c p l a c w2 (H.out.below hb2) hn)).mono ?_⟩
  rintro e w3 ⟨Bj, aj, cj, rfl, -, -, -, -, hb3⟩
  have bX3 := boxed_below bX hb3 bX.lt
  have hb3' := hb2.trans (hb3.mono (by omega))
  have hz3 := hb3.size
  clear bX hb3 hb2
  have HB3 := Lib.hid hb3'; have HX3 := Lib.hid bX3
  clear hb3' bX3
  gi_wp2_with fail
  have hbin : (binOp .eql 63 (.func (.func 63) #[] #[.pointer (some ⟨Bj, 0, none⟩)]) .nilFunc).run Try.prog w3 = .ok (.bool false) w3 := by first | rfl | simp [binOp, go_sem]
  rw [hbin]
  unfold Oper.uponIn
  simp only [Result.andThen]
  dsimp only [Act.put]
  simp only [List.setIfInBounds_toArray, List.set_cons_zero, List.set_cons_succ]
  gi_wp2_with fail
  gi_wp2_with fail
  refine ⟨trivial, fun h => (by simp [Fence.wide] at h), (callsIn_wide.2 (all_c p l a c w3 (H.out.below HB3.out) hn)).mono ?_⟩
  rintro e w5 ⟨Bk, a', c', rfl, hBk, hbx, hsp, hlo, hb5⟩
  have HBX := Lib.hid hbx; have HSP := Lib.hid hsp; have HLO := Lib.hid hlo
  have HB5 := Lib.hid (HB3.out.trans (hb5.mono (by omega)))
  have HX5 := Lib.hid (boxed_below HX3.out hb5 HX3.out.lt)
  have hz5 := hb5.size
  have hkl : Bk < w5.heap.size := hbx.lt
  clear hbx hsp hlo hb5
  gi_wp2_with fail
  refine range_gives2 (p := 10) (vals_gives Bk a' l.length c' l hn) rfl (enters_of Try.func63 (by kernel_rfl) rfl)
    (fun i => i = w.heap.size ∨ w5.heap.size + 2 ≤ i)
    (fun X hb hz => ⟨boxed_below HBX.out hb hkl, HSP.out.below hb, fun g off e h0 hU => by have := HLO.out g off e; obtain ⟨x, hx⟩ : ∃ x, l[0]? = some x := ⟨_, List.getElem?_eq_getElem h0⟩; obtain ⟨g', off', e', hg, _⟩ := HSP.out.2 0 x hx; rw [e] at e'; injection e' with e'; injection e' with e1; omega⟩)
    (fun i hi => by omega)
    (fun k v X Y ht h => h)
    (fun k X => AllSt w X (w5.heap.size + 2) (l.take k))
    (fun _ _ _ => False)
    (fun k X Y ht h => h.tch ht (fun i hi => by omega))
    (fun c k X Y ht h => h)
    (.inr (fun _ _ _ h => h))
    ⟨_, HX5.out, OwnR.nil _ _, HB5.out⟩
    (fun v a1 X => ∃ B, w5.heap.size + 2 ≤ B ∧ (∀ x : Sp, v = x.val → Blk X B 33 #[.int .i64 x.f, .int .i64 x.t]) ∧ a1 = { tmps := #[.pointer (some ⟨p, 0, none⟩), undef, .slice none 0 0, .pointer (some ⟨w.heap.size, 0, none⟩), .pointer (some ⟨B, 0, none⟩), .pointer (some ⟨p, 0, none⟩), .func (.func 63) #[] #[.pointer (some ⟨Bj, 0, none⟩)], .bool false, .pointer (some ⟨p, 0, none⟩), .func (.func 63) #[] #[.pointer (some ⟨Bk, 0, none⟩)], v, undef, undef, undef, undef, undef], defers := [] })
    (fun v a1 X Y ht h => by
      obtain ⟨B, hB, hc, e⟩ := h
      exact ⟨B, hB, fun x hx => ht.blk (hc x hx) (by omega), e⟩)
    ?_ ?_ ?_ ?_
  · intro l1 k v X K hzX hown hK
    obtain ⟨x, hx, rfl⟩ := hown
    have HK := Lib.hid hK
    clear hK
    simp only [List.setIfInBounds_toArray, List.set_cons_zero, List.set_cons_succ]
    unfold Sp.val
    gi_wp2_with fail
    exact HK.out _ _ ((Below.refl X.heap.size X).alloc (Nat.le_refl _) _) ⟨X.heap.size, hzX, fun y hy => by obtain rfl := Sp.val_inj hy; exact Blk.new X 33 _, rfl⟩
  · intro l1 k v a1 W hzW hI hk hv ha
    obtain ⟨x, hx, rfl⟩ := hv
    obtain ⟨B, hB, hc, rfl⟩ := ha
    have hblk := hc x rfl
    have c0 : W.cell? ⟨B, 0, none⟩ = some (.int .i64 x.f) := hblk.cell (i := 0) rfl
    have c1 : W.cell? ⟨B, 1, none⟩ = some (.int .i64 x.t) := hblk.cell (i := 1) rfl
    have HX := Lib.hid hx
    obtain ⟨v, hbv, hov, hbl⟩ := hI
    have cX := hbv.cell
    have fX := hbv.frozen
    have HBV := Lib.hid hbv; have HOV := Lib.hid hov; have HBL := Lib.hid hbl
    have hbn := (Below.refl W.heap.size W).alloc (Nat.le_refl _) (.cells #[.int .i64 x.f, .int .i64 x.t] 33)
    have hG := Blk.new W 33 #[.int .i64 x.f, .int .i64 x.t]
    have HOV2 := Lib.hid (hov.below hbn)
    have HY : Hid (Sps (W.alloc (.cells #[.int .i64 x.f, .int .i64 x.t] 33)) (some ⟨W.heap.size, 0, none⟩) 1 [x]) := Lib.hid ⟨rfl, fun i y hy => ⟨W.heap.size, 0, rfl, hG.lt, by
      match i with
      | 0 => simp at hy; subst hy; exact ⟨hG.cell rfl, hG.cell rfl⟩
      | j + 1 => simp at hy⟩⟩
    have hsz : (l.take k).length + 1 ≤ 1000000000 := by rw [List.length_take]; omega
    have hbase : w5.heap.size + 2 ≤ (W.alloc (.cells #[.int .i64 x.f, .int .i64 x.t] 33)).heap.size := by rw [World.size_alloc]; omega
    have HBN := Lib.hid hbn
    clear hx hc hblk hbv hov hbl hbn hG
    gi_wp2_with (gi_at_builtin; refine wplIn_append_sps rfl _ _ 22 22 33 rfl Try.underlying22 Try.underlying22 (w5.heap.size + 2) _ _ rfl HOV2.out (some ⟨W.heap.size, 0, none⟩) 1 1 [x] rfl HY.out hsz hbase ?_)
    intro v4 w4 ho4 hg4
    obtain ⟨a9, c9, hv9, -, -, -⟩ := ho4.sps
    obtain ⟨n9, hn9⟩ : ∃ n9, v4 = .slice a9 n9 c9 := ⟨_, hv9⟩
    clear hv9
    subst hn9
    have hlo4 : ∀ i, v.ownBlock = some i → w5.heap.size + 2 ≤ i := fun i e => (World.ownsRow.lt HOV2.out i e).1
    have hT4 := (Tch.of_below HBN.out (Nat.le_refl _) (fun i => i = w.heap.size ∨ w5.heap.size + 2 ≤ i)).trans (Tch.of_grown hg4) (fun i _ e => .inr (hlo4 i e))
    have hb4 : Boxed w4 w.heap.size 22 v := hT4.block w.heap.size (by omega) |> fun _ => (hg4.block w.heap.size (by rw [World.size_alloc]; omega) (fun e => by have := hlo4 _ e.symm; omega)).trans (boxed_below HBV.out HBN.out HBV.out.lt)
    have cX4 := hb4.cell
    have fX4 := hb4.frozen
    have HT4 := Lib.hid hT4; have HB4 := Lib.hid hb4; have HO4 := Lib.hid ho4
    have hz4 := hT4.size
    clear hT4 hb4 ho4 hg4 cX fX c0 c1
    gi_wp2_with fail
    have hS := (Tch.refl (fun i => i = w.heap.size) w4).setCell (p := ⟨w.heap.size, 0, none⟩) (.inl rfl) (.slice a9 n9 c9)
    have hSz := HT4.out.trans hS (fun i _ e => .inl e)
    refine ⟨hSz, .slice a9 n9 c9, Boxed.set _ HB4.out, ?_, HBL.out.trans (hSz.below (by omega) (fun i e => by omega))⟩
    rw [List.take_add_one, HX.out]
    exact hS.ownR HO4.out (fun i hi _ e => by omega)
  · intro D W hD hD2 hzW hi hK
    rw [List.take_length] at hi
    obtain ⟨v, hbv, hov, hbl⟩ := hi
    obtain ⟨a6, c6, hv, hc6, hs6, hlo6⟩ := hov.sps
    have HO6 := Lib.hid (And.intro trivial (And.intro trivial hlo6))
    clear hlo6
    have HS6 := Lib.hid hs6; have HBL := Lib.hid hbl; have HK := Lib.hid hK
    have cX := hbv.cell
    have fX := hbv.frozen
    have hDW : D < W.heap.size := (Array.getElem?_eq_some_iff.1 hK).1
    clear hK hs6 hbl hov hbv
    gi_wp2_with fail
    refine ⟨by simp, .inl ⟨_, _, rfl, run_takeDeferred HK.out, ?_⟩⟩
    have hT := (Tch.refl (fun i => i = D) W).putObj1 (r := D) (.inl rfl) (.deferred none)
    refine ⟨_, results_tmp rfl _ _ _, a6, c6, by rw [← hv]; rfl, hT.sps HS6.out (fun g off e h0 => ?_), HBL.out.trans (hT.below HBL.out.size (fun i e => by omega))⟩
    intro e2; obtain ⟨_, _, h6⟩ := HO6.out; have := (h6 g off e).1; omega
  · rintro D c k W hD hD2 hk h hK
    exact h.elim
theorem lall_c (p : Nat) (l : List Sp) (a : Option Addr) (c : Nat) (w : World) (h : IsSet w p l a c) (hn : l.length ≤ 1000000) :
    Calls Try.prog 15 #[.pointer (some ⟨p, 0, none⟩)] w fun e w' => ∃ a' c', e = .returned (.slice a' l.length c') ∧ Sps w' a' l.length l ∧ Below w.heap.size w w' := callsIn_wide.1 (lall_in 0 p l a c w h hn)
end Go.Proofs.Ytlgpoaapmgcloaa
