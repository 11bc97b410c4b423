/- Contracts: the gaps of a set within a span. -/
import Derived.Test.YtlgpoaapmgcloaaSo
import Derived.Test.YtlgpoaapmgcloaaSf
import Derived.Scope
import Derived.WalkMore
import Derived.AtR
namespace Go.Proofs.Ytlgpoaapmgcloaa
open Go.RowKit Go.Shelf
attribute [local go_sem] Oper.semAt_some
set_option linter.unusedSimpArgs false
set_option linter.unusedVariables false
set_option maxRecDepth 100000

section
variable {P : Program} {F : Fence} {n : Nat} {b : Frame} {a : Act} {k : List Item} {cs : List Frame} {w : World} {Q : Exit → Act → World → Prop}
theorem stepR_scope {c : Code} : step P (lone (b.atR a (.code (.scope c) :: k)) cs w) = .next (lone (b.atR a (.code c :: .inScope c :: k)) cs w) :=
  step_lone_go (by simp [stepG, stepG.exec, Frame.atR])
theorem stepR_inScope {c : Code} : step P (lone (b.atR a (.inScope c :: k)) cs w) = .next (lone (b.atR a k) cs w) :=
  step_lone_go (by simp [stepG, stepG.exec, Frame.atR])
/-- A scope through which the run goes without a goto, inside a fence. -/
theorem wpIn_scope_straight {c : Code} (h : c.wpIn F n P (Exit.noGoto Q) a w) : (Code.scope c).wpIn F n P Q a w := by
  intro b k cs hro hb hr
  have h0 : (lone (b.atR a (.code (.scope c) :: k)) cs w).fenced P F := fenced_calm hb hr rfl
  obtain ⟨e, a₁, w₁, hq, harr⟩ := h b (.inScope c :: k) cs hro hb hr
  cases e with
  | normal => exact ⟨.normal, a₁, w₁, hq, .head h0 stepR_scope (StepsIn.trans harr (.one (fenced_calm hb hr rfl) stepR_inScope))⟩
  | exit id =>
    have hx : exitTo id (.inScope c :: k) = exitTo id k := by simp [exitTo]
    exact ⟨.exit id, a₁, w₁, hq, fun k' hk => .head h0 stepR_scope (harr.1 k' (by rw [hx]; exact hk)), fun hr' hk => let ⟨k₁, h1, h2⟩ := harr.2 hr' (by rw [hx]; exact hk); ⟨k₁, h1, .head h0 stepR_scope h2⟩⟩
  | goto l => exact hq.elim
  | ret => exact ⟨_, a₁, w₁, hq, .of_steps (.one h0 stepR_scope) harr⟩
  | panic ch => exact ⟨_, a₁, w₁, hq, .of_steps (.one h0 stepR_scope) harr⟩
  | outgrown => exact ⟨_, a₁, w₁, hq, .of_steps (.one h0 stepR_scope) harr⟩
end

theorem OwnR.pop {w : World} {base : Nat} {g : Nat} {off n c : Nat} {l : List Sp} (h : OwnR w base (.slice (some ⟨g, off, none⟩) (n + 1) c) l) (hn : l.length = n + 1) :
    OwnR w base (.slice (some ⟨g, off, none⟩) n c) l.dropLast := by
  obtain ⟨h1, h2⟩ := h
  rcases h2 with ⟨h0, _⟩ | ⟨g', cap, cur, e, hg, hh, hlc, hcm, hsz, ht⟩
  · cases h0
  · injection e with e1 e2 e3
    injection e1 with e1
    injection e1 with e1 e4
    subst e1; subst e3; subst e4
    have hl : l.dropLast.length = n := by rw [List.length_dropLast]; omega
    refine ⟨by rw [scs_len], .inr ⟨g, c, cur, by rw [hl], hg, hh, by omega, hcm, hsz, ?_⟩⟩
    have es : scs l = scs l.dropLast ++ (scs l).drop (n * 2) := by
      have e2 : l = l.dropLast ++ l.drop n := by
        conv => lhs; rw [← List.take_append_drop n l]
        rw [List.dropLast_eq_take, hn]; rfl
      conv => lhs; rw [e2, scs_append]
      congr 1
      conv => rhs; rw [e2, scs_append]
      rw [List.drop_left' (by rw [scs_len, hl])]
    have h3 : (cur.toList.take (l.length * 2)).take (n * 2) = (scs l).take (n * 2) := by rw [ht]
    rw [List.take_take, Nat.min_eq_left (by omega), es, List.take_left' (by rw [scs_len, hl])] at h3
    rw [hl]
    exact h3
theorem OwnR.one (w : World) (x : Sp) : OwnR (w.alloc (.cells #[.int .i64 x.f, .int .i64 x.t] 33)) w.heap.size (.slice (some ⟨w.heap.size, 0, none⟩) 1 1) [x] :=
  ⟨rfl, .inr ⟨w.heap.size, 1, #[.int .i64 x.f, .int .i64 x.t], rfl, Nat.le_refl _, World.alloc_heap_new w _, Nat.le_refl _, by decide, rfl, rfl⟩⟩
theorem run_append_sps2 (w : World) (base : Nat) (v : Value) (l : List Sp) (hown : OwnR w base v l) (ty : TypeId) (A : Option Addr) (m c : Nat) (news : List Sp) (hr : Sps w A m news)
    (hsz : l.length + m ≤ 1000000000) (hbase : base ≤ w.heap.size) :
    ∃ v' w', (Builtin.append_ #[22, 22] ty #[v, .slice A m c]).run Try.prog w = .ok v' w' ∧ OwnR w' base v' (l ++ news) ∧ w.grownBy w' v.ownBlock ∧ (v'.ownBlock = v.ownBlock ∨ v'.ownBlock = some w.heap.size) := by
  obtain ⟨i0, hi, hz0, hz1, hz2⟩ := info_parts infoSp
  by_cases hA : ∃ ad, A = some ad
  · obtain ⟨ad, rfl⟩ := hA
    have hnews : ∀ (j : Nat) (u : Value), (scs news)[j]? = some u → w.cell? (ad.add j) = some u := by
      intro j u hu
      obtain ⟨i, x, hx, hc⟩ := scs_get hu
      obtain ⟨g, off, e, _, c0, c1⟩ := hr.2 i x hx
      injection e with e
      subst e
      rw [add_plain]
      rcases hc with ⟨rfl, rfl⟩ | ⟨rfl, rfl⟩
      · exact c0
      · rw [← Nat.add_assoc]; exact c1
    obtain ⟨v', w', hrun, h2, h3, h4, h5⟩ := run_append_own_at (P := Try.prog) w base 22 ty 33 i0 _ 2 16 Try.underlying22 hi hz0 hz1 hz2 rfl (by decide) v l.length (scs l) hown ad m c (scs news) (by rw [scs_len, hr.1]) hnews (scs_one _) (by unfold maxLen; omega) (by omega) hbase
    refine ⟨v', w', hrun, ?_, h3, h5⟩
    unfold OwnR
    rw [List.length_append, hr.1, scs_append]
    exact h2
  · have hA' : A = none := by cases A with
      | none => rfl
      | some ad => exact absurd ⟨ad, rfl⟩ hA
    subst hA'
    have hm : m = 0 := by
      rcases Nat.eq_zero_or_pos m with h | h
      · exact h
      · obtain ⟨g, off, e, _⟩ := hr.cells h
        cases e
    subst hm
    have hn : news = [] := List.eq_nil_of_length_eq_zero hr.1
    subst hn
    refine ⟨v, w, ?_, by simpa using hown, World.grownBy.refl w _, .inl rfl⟩
    rcases hown.2 with ⟨rfl, _⟩ | ⟨g, cap, cur, rfl, _, _, hnc, _⟩
    · simp [Builtin.append_, run_underlying Try.underlying22, sizeOf, typeInfo, hi, Builtin.lenOf, Builtin.firstCells]
    · simp [Builtin.append_, run_underlying Try.underlying22, sizeOf, typeInfo, hi, Builtin.lenOf, Builtin.firstCells, hnc, storeCells]
theorem wplIn_append_sps2 {F : Fence} {n : Nat} {ops : Array Oper} {rest : List Oper} {o : Oper} {a : Act} {w : World} {Q : Exit → Act → World → Prop} (hgd : o.guard = none) (s x : Operand) (t t2 : TypeId) (e2 : TypeId)
    (hop : o.op = .call { callee := .builtin .append, args := #[s, x], argTypes := #[t, t2] }) (ht : Try.prog.underlying t = some (.slice 33)) (ht2 : Try.prog.underlying t2 = some (.slice e2))
    (base : Nat) (v : Value) (l : List Sp) (hs : a.eval s = v) (hown : OwnR w base v l) (A : Option Addr) (m c : Nat) (news : List Sp) (hx : a.eval x = .slice A m c) (hr : Sps w A m news)
    (hsz : l.length + m ≤ 1000000000) (hbase : base ≤ w.heap.size)
    (h : ∀ v' w', OwnR w' base v' (l ++ news) → w.grownBy w' v.ownBlock → (v'.ownBlock = v.ownBlock ∨ v'.ownBlock = some w.heap.size) → wpListIn F n Try.prog ops Q rest (a.put o.dst v') w') : wpListIn F n Try.prog ops Q (o :: rest) a w := by
  refine wpListIn_plain hgd fun K hK' => ?_
  obtain ⟨v', w', hrun, h2, h3, h4⟩ := run_append_sps2 w base v l hown o.type A m c news hr hsz hbase
  rw [append_on Try.prog 22 t 33 o.type _ _ _ Try.underlying22 ht, ← append_as Try.prog t t2 33 e2 o.type _ _ _ ht ht2] at hrun
  unfold Oper.wpIn
  refine ⟨?_, ?_⟩
  · simp [Oper.about, hop, resolve, Target.leads, Sem.run_pure]
  · rw [Oper.semAt_plain F _ _ (by rw [hop]; intro c hc'; cases hc')]
    simp [execOp, hop, resolve, invoke, builtin, hs, hx, hrun, Result.andThen]
    exact hK' _ _ (h v' w' h2 h3 h4)
theorem lastS_get {l : List Sp} {m : Nat} (h : l.length = m + 1) : l[m]? = some (lastS l) := by
  unfold lastS
  rw [List.getLast?_eq_getElem?, h, Nat.add_sub_cancel, List.getElem?_eq_getElem (by omega)]
  rfl
theorem OwnR.blk1 {w : World} {base : Nat} {a : Option Addr} {c m : Nat} {l : List Sp} (h : OwnR w base (.slice a l.length c) l) (hm : l.length = m + 1) : ∃ g, a = some ⟨g, 0, none⟩ ∧ base ≤ g ∧ g < w.heap.size ∧ m + 1 ≤ c ∧
    w.cell? ⟨g, m * 2, none⟩ = some (.int .i64 (lastS l).f) ∧ w.cell? ⟨g, m * 2 + 1, none⟩ = some (.int .i64 (lastS l).t) := by
  obtain ⟨a2, c2, e, hc, hs, hf⟩ := h.sps
  injection e with e1 e2 e3
  subst e1; subst e3
  obtain ⟨g, off, e, hg, c0, c1⟩ := hs.2 m _ (lastS_get hm)
  obtain ⟨h1, h2⟩ := hf g off e
  subst h2
  rw [Nat.zero_add] at c0 c1
  exact ⟨g, e, h1, hg, by omega, c0, c1⟩
theorem restL_small {a b : Sp} (ha : a.small) (hb : b.small) : Smalls (restL a b) := by
  intro x hx
  unfold restL at hx
  rw [List.mem_filter] at hx
  have h := hx.1
  simp at h
  unfold Sp.small at *
  rcases h with rfl | rfl <;> simp only <;> omega
/-- What holds behind k rounds: a row of our own and the box that keeps it. -/
structure GapSt (w X : World) (b s : Nat) (out : List Sp) (a : Option Addr) (c : Nat) : Prop where
  box : Boxed X (b + 1) 22 (.slice a out.length c)
  own : OwnR X b (.slice a out.length c) out
  far : ∀ g off, a = some ⟨g, off, none⟩ → g = b ∨ s + 2 ≤ g
  bel : Below w.heap.size w X
theorem GapSt.tch {w X Y : World} {b s : Nat} {out : List Sp} {a : Option Addr} {c : Nat} {S : Nat → Prop} (h : GapSt w X b s out a c) (ht : Tch S X Y) (hS : ∀ i, S i → i ≠ b + 1 ∧ i ≠ b ∧ i < s + 2 ∧ w.heap.size ≤ i) : GapSt w Y b s out a c :=
  ⟨ht.boxed h.box (fun e => (hS _ e).1 rfl), ht.ownR h.own (fun i hi e hs => by
    match a, e with
    | some ⟨g, off, none⟩, e =>
      simp [Value.ownBlock] at e
      subst e
      have h1 := hS _ hs
      rcases h.far g off rfl with h2 | h2 <;> omega
    | some ⟨g, off, some q⟩, e =>
      obtain ⟨_, h2⟩ := h.own
      rcases h2 with ⟨h2, _⟩ | ⟨_, _, _, h2, _⟩ <;> cases h2), h.far, h.bel.trans (ht.below h.bel.size (fun i e => (hS _ e).2.2.2))⟩
def GapI (w : World) (b s : Nat) (z : Sp) (l : List Sp) (k : Nat) (X : World) : Prop :=
  ∃ out a c, GapSt w X b s out a c ∧ out ≠ [] ∧ Smalls out ∧ out.length ≤ k + 1 ∧ gapsRun [z] l = gapsRun out (l.drop k)
def GapX (w : World) (b s : Nat) (z : Sp) (l : List Sp) (c : Code) (X : World) : Prop :=
  c = .exit 0 ∧ ∃ out a c, GapSt w X b s out a c ∧ out = gapsRun [z] l
set_option maxHeartbeats 4000000 in
theorem gaps_in (m0 : Nat) (p : Nat) (l : List Sp) (a : Option Addr) (c : Nat) (z : Sp) (w : World) (h : IsSet w p l a c) (hn : l.length ≤ 1000000) (hls : Smalls l) (hzs : z.small) (hz1 : z.right = true) (hz2 : ¬ z.len = 0) :
    CallsIn Fence.wide m0 Try.prog 12 #[.pointer (some ⟨p, 0, none⟩), z.val] w fun e w' => ∃ a' c', e = .returned (.slice a' (gapsL l z).length c') ∧ Sps w' a' (gapsL l z).length (gapsL l z) ∧ Below w.heap.size w w' := by
  have H := Lib.hid h; clear h
  have HLS := Lib.hid hls; have HZS := Lib.hid hzs; have HZ1 := Lib.hid hz1; have HZ2 := Lib.hid hz2
  clear hls hzs hz1 hz2
  unfold Sp.val
  refine callsIn_of_wp_marks Try.func12 rfl trivial ?_ rfl
  simp only [Try.ntmps12, List.size_toArray, List.length_cons, List.length_nil, Nat.reduceAdd, Nat.reduceSub, Array.replicate_succ, Array.replicate_zero, List.push_toArray, List.append_toArray, List.nil_append, List.cons_append]
  gi_wp2_with fail
  refine wpIn_scope_straight ?_
  gi_wp2_with fail
  obtain ⟨w2, hw2⟩ : ∃ w2, w2 = w.alloc (.cells #[.int .i64 z.f, .int .i64 z.t] 33) := ⟨_, rfl⟩
  have hz2 : w2.heap.size = w.heap.size + 1 := by rw [hw2]; simp
  have bX : Blk w2 w.heap.size 33 #[.int .i64 z.f, .int .i64 z.t] := by rw [hw2]; exact Blk.new w 33 _
  have hb2 : Below w.heap.size w w2 := by rw [hw2]; exact (Below.refl w.heap.size w).alloc (Nat.le_refl _) _
  rw [← hw2]
  clear hw2
  refine ⟨trivial, fun h => (by simp [Fence.wide] at h), (callsIn_wide.2 (none_c p a l.length c w2 (H.out.below hb2).blk)).mono ?_⟩
  rintro e w3 ⟨rfl, rfl⟩
  have HB2 := Lib.hid hb2; have HX := Lib.hid bX
  have c0 : w2.cell? ⟨w.heap.size, 0, none⟩ = some (.int .i64 z.f) := bX.cell (i := 0) rfl
  have c1 : w2.cell? ⟨w.heap.size, 1, none⟩ = some (.int .i64 z.t) := bX.cell (i := 1) rfl
  clear hb2 bX
  gi_wp2_with fail
  refine ⟨trivial, fun h => (by simp [Fence.wide] at h), (callsIn_wide.2 (right_c z w2)).mono ?_⟩
  rintro e w3 ⟨rfl, hb3⟩
  rw [HZ1.out]
  have hX3 := HX.out.below hb3 HX.out.lt
  have HB3 := Lib.hid (HB2.out.trans (hb3.mono (by omega)))
  have HX3 := Lib.hid hX3
  have hz3 := hb3.size
  have d0 : w3.cell? ⟨w.heap.size, 0, none⟩ = some (.int .i64 z.f) := hX3.cell (i := 0) rfl
  have d1 : w3.cell? ⟨w.heap.size, 1, none⟩ = some (.int .i64 z.t) := hX3.cell (i := 1) rfl
  clear hb3 hX3 c0 c1
  gi_wp2_with fail
  refine ⟨trivial, fun h => (by simp [Fence.wide] at h), (callsIn_wide.2 (long_c z w3 HZS.out)).mono ?_⟩
  rintro e w4 ⟨rfl, hb4⟩
  have hX4 := HX3.out.below hb4 HX3.out.lt
  have HB4 := Lib.hid (HB3.out.trans (hb4.mono (by omega)))
  have HX4 := Lib.hid hX4
  have hz4 := hb4.size
  have c0 : w4.cell? ⟨w.heap.size, 0, none⟩ = some (.int .i64 z.f) := hX4.cell (i := 0) rfl
  have c1 : w4.cell? ⟨w.heap.size, 1, none⟩ = some (.int .i64 z.t) := hX4.cell (i := 1) rfl
  have hl0 := HZ2.out
  clear hb4 hX4 d0 d1
  gi_wp2_with fail
  refine wpIn_label ?_
  gi_wp2_with fail
  obtain ⟨b, hb⟩ : ∃ b, b = w4.heap.size := ⟨_, rfl⟩
  obtain ⟨w5, hw5⟩ : ∃ w5, w5 = (w4.alloc (.cells #[.int .i64 z.f, .int .i64 z.t] 33)).alloc (.cells #[.slice (some ⟨b, 0, none⟩) 1 1] 22) := ⟨_, rfl⟩
  have hz5 : w5.heap.size = b + 2 := by rw [hw5, hb]; simp
  have bel1 := (Below.refl w4.heap.size w4).alloc (Nat.le_refl _) (.cells #[.int .i64 z.f, .int .i64 z.t] 33)
  have bel2 := bel1.alloc bel1.size (.cells #[.slice (some ⟨b, 0, none⟩) 1 1] 22)
  have hb5 : Below w.heap.size w w5 := by rw [hw5]; exact HB4.out.trans (bel2.mono (by omega))
  have ho5 : OwnR w5 b (.slice (some ⟨b, 0, none⟩) 1 1) [z] := by rw [hw5, hb]; exact (OwnR.one w4 z).below ((Below.refl _ _).alloc (Nat.le_refl _) _)
  have hx5 : Boxed w5 (b + 1) 22 (.slice (some ⟨b, 0, none⟩) 1 1) := by rw [hw5]; have := Boxed.new (w4.alloc (.cells #[.int .i64 z.f, .int .i64 z.t] 33)) 22 (.slice (some ⟨b, 0, none⟩) 1 1); rw [World.size_alloc, ← hb] at this; exact this
  rw [← hb, ← hw5]
  have hlo5 : w.heap.size ≤ b := by omega
  have HB5 := Lib.hid hb5; have HO5 := Lib.hid ho5; have HX5 := Lib.hid hx5
  have H5 := Lib.hid (H.out.below hb5)
  clear bel1 bel2 hb5 ho5 hx5 hw5 hb hz4 c0 c1 HB4 HX4
  refine ⟨trivial, fun h => (by simp [Fence.wide] at h), (callsIn_wide.2 (all_c p l a c w5 H5.out hn)).mono ?_⟩
  rintro e w6 ⟨Bk, a', c', rfl, hBk, hbx, hsp, hlo, hb6⟩
  have HST : Hid (GapSt w w6 b w6.heap.size [z] (some ⟨b, 0, none⟩) 1) := Lib.hid ⟨boxed_below HX5.out hb6 (by omega), HO5.out.below hb6, fun g off e => by injection e with e; injection e with e; exact .inl e.symm, HB5.out.trans (hb6.mono HB5.out.size)⟩
  have HBX := Lib.hid hbx; have HSP := Lib.hid hsp; have HLO := Lib.hid hlo
  have hz6 := hb6.size
  have hkl : Bk < w6.heap.size := hbx.lt
  clear hbx hsp hlo hb6
  gi_wp2_with fail
  refine range_gives2 (p := 25) (vals_gives Bk a' l.length c' l hn) rfl (enters_of Try.func63 (by kernel_rfl) rfl)
    (fun i => i = b ∨ i = b + 1 ∨ w6.heap.size + 2 ≤ i)
    (fun X hb hz => ⟨boxed_below HBX.out hb hkl, HSP.out.below hb, fun g off e h0 hU => by have := HLO.out g off e; obtain ⟨x, hx⟩ : ∃ x, l[0]? = some x := ⟨_, List.getElem?_eq_getElem h0⟩; obtain ⟨g', off', e', hg, _⟩ := HSP.out.2 0 x hx; rw [e] at e'; injection e' with e'; injection e' with e1; omega⟩)
    (fun i hi => by omega)
    (fun k v X Y ht h => h)
    (fun k X => GapI w b w6.heap.size z l k X)
    (fun c k X => GapX w b w6.heap.size z l c X)
    (fun k X Y ht h => by
      obtain ⟨out, a, c, h1, h2⟩ := h
      exact ⟨out, a, c, h1.tch ht (fun i hi => by omega), h2⟩)
    (fun d k X Y ht h => by
      obtain ⟨h0, out, a, c, h1, h2⟩ := h
      exact ⟨h0, out, a, c, h1.tch ht (fun i hi => by omega), h2⟩)
    (.inl trivial)
    ⟨[z], _, _, HST.out, by simp, fun x hx => by simp at hx; subst hx; exact HZS.out, by simp, by rw [List.drop_zero]⟩
    (fun v a1 X => ∃ B, w6.heap.size + 2 ≤ B ∧ (∀ x : Sp, v = x.val → Blk X B 33 #[.int .i64 x.f, .int .i64 x.t]) ∧ a1 = { tmps := #[.pointer (some ⟨p, 0, none⟩), .agg #[.int .i64 z.f, .int .i64 z.t], undef, .pointer (some ⟨w.heap.size, 0, none⟩), .slice none 0 0, .pointer (some ⟨b + 1, 0, none⟩), .pointer (some ⟨B, 0, none⟩), undef, undef, .pointer (some ⟨p, 0, none⟩), .bool false, .bool false, .agg #[.int .i64 z.f, .int .i64 z.t], .bool true, .bool false, .bool false, .bool false, .agg #[.int .i64 z.f, .int .i64 z.t], .int .i64 z.len, .bool false, .bool false, .agg #[.int .i64 z.f, .int .i64 z.t], .slice (some ⟨b, 0, none⟩) 1 1, .pointer (some ⟨p, 0, none⟩), .func (.func 63) #[] #[.pointer (some ⟨Bk, 0, none⟩)], v, undef, undef, undef, undef, undef, undef, undef, undef, undef, undef, undef, undef, undef, undef, undef, undef, undef, undef, undef, undef, undef, undef, undef, undef, undef, undef, undef, undef, undef, undef, undef, undef], defers := [] })
    (fun v a1 X Y ht h => by
      obtain ⟨B, hB, hc, e⟩ := h
      exact ⟨B, hB, fun x hx => ht.blk (hc x hx) (by omega), e⟩)
    ?_ ?_ ?_ ?_
  · intro l1 k v X K hzX hown hK
    obtain ⟨x, hx, rfl⟩ := hown
    have HK := Lib.hid hK
    clear hK
    simp only [List.setIfInBounds_toArray, List.set_cons_zero, List.set_cons_succ]
    unfold Sp.val
    gi_wp2_with fail
    exact HK.out _ _ ((Below.refl X.heap.size X).alloc (Nat.le_refl _) _) ⟨X.heap.size, hzX, fun y hy => by obtain rfl := Sp.val_inj hy; exact Blk.new X 33 _, rfl⟩
  · intro l1 k v a1 W hzW hI hk hv ha
    obtain ⟨x, hx, rfl⟩ := hv
    obtain ⟨B, hB, hc, rfl⟩ := ha
    have hblk := hc x rfl
    have hxs := HLS.out x (List.mem_of_getElem? hx)
    obtain ⟨out, ao, co, hst, hne, hsm, hlen, hrun⟩ := hI
    obtain ⟨m, hm⟩ : ∃ m, out.length = m + 1 := ⟨out.length - 1, by have := List.length_pos_iff.2 hne; omega⟩
    obtain ⟨g, rfl, hgb, hgW, hmc, q0, q1⟩ := hst.own.blk1 hm
    have hbox := hst.box
    rw [hm] at hbox
    have hys : (lastS out).small := hsm _ (List.mem_of_getElem? (lastS_get hm))
    have hrun2 : gapsRun out (l.drop k) = gapsRun out (x :: l.drop (k + 1)) := by rw [List.drop_eq_getElem_cons (by omega)]; rw [List.getElem?_eq_getElem hk] at hx; injection hx with hx; rw [hx]
    have HRUN := Lib.hid (hrun.trans hrun2)
    obtain ⟨y, hy⟩ : ∃ y, y = lastS out := ⟨_, rfl⟩
    rw [← hy] at q0 q1 hys
    have HY := Lib.hid hy; have HYS := Lib.hid hys; have HXS := Lib.hid hxs; have HSM := Lib.hid hsm; have HST := Lib.hid hst
    have HM := Lib.hid hm; have HBLK := Lib.hid hblk; have HBOX := Lib.hid hbox
    have cX := hbox.cell
    have fX := hbox.frozen
    have hmb : m ≤ 1000000 := by omega
    have hlen' := hlen
    have HNE := Lib.hid hne
    have hgf := hst.far g 0 rfl
    have x0 : W.cell? ⟨B, 0, none⟩ = some (.int .i64 x.f) := hblk.cell (i := 0) rfl
    have x1 : W.cell? ⟨B, 1, none⟩ = some (.int .i64 x.t) := hblk.cell (i := 1) rfl
    have hBW := hblk.lt
    clear hrun hrun2 hx hc hblk hxs hst hne hsm hlen hys hbox hy hm
    refine wpIn_block ?_
    gi_wp2_with fail
    have bw2 := (Below.refl W.heap.size W).alloc (Nat.le_refl _) (.cells #[.int .i64 y.f, .int .i64 y.t] 33)
    have HY7 := Lib.hid (Blk.new W 33 #[.int .i64 y.f, .int .i64 y.t])
    have HW2 := Lib.hid bw2
    have hzW2 : (W.alloc (.cells #[.int .i64 y.f, .int .i64 y.t] 33)).heap.size = W.heap.size + 1 := by simp
    generalize W.alloc (.cells #[.int .i64 y.f, .int .i64 y.t] 33) = W2 at HY7 HW2 hzW2 bw2 ⊢
    refine ⟨trivial, fun h => (by simp [Fence.wide, Fence.inRound] at h), ((callsIn_wide.2 (rest_c y x W2 HYS.out HXS.out) : CallsIn (Fence.wide.inRound l1) _ _ _ _ _ _)).mono ?_⟩
    rintro e W3 ⟨A, n, cc, rfl, hsA, hAf, hbW3⟩
    have hzW3 := hbW3.size
    have HW3 := Lib.hid (HW2.out.trans (hbW3.mono (by omega)))
    have HSA := Lib.hid hsA; have HAF := Lib.hid hAf
    have hY3 := HY7.out.below hbW3 HY7.out.lt
    have hX3 := HBLK.out.below HW3.out HBLK.out.lt
    have HY3 := Lib.hid hY3; have HX3 := Lib.hid hX3
    have y0 : W3.cell? ⟨W.heap.size, 0, none⟩ = some (.int .i64 y.f) := hY3.cell (i := 0) rfl
    have y1 : W3.cell? ⟨W.heap.size, 1, none⟩ = some (.int .i64 y.t) := hY3.cell (i := 1) rfl
    have p0 : W3.cell? ⟨B, 0, none⟩ = some (.int .i64 x.f) := hX3.cell (i := 0) rfl
    have p1 : W3.cell? ⟨B, 1, none⟩ = some (.int .i64 x.t) := hX3.cell (i := 1) rfl
    clear bw2 hsA hAf hbW3 hY3 hX3 q0 q1 cX fX x0 x1
    gi_wp2_with fail
    refine ⟨trivial, fun h => (by simp [Fence.wide, Fence.inRound] at h), ((callsIn_wide.2 (both_c y x W3) : CallsIn (Fence.wide.inRound l1) _ _ _ _ _ _)).mono ?_⟩
    rintro e W4 ⟨rfl, hbW4⟩
    have hzW4 := hbW4.size
    have HW4 := Lib.hid hbW4
    have HBS : Hid (both y x).small := Lib.hid (both_small HYS.out HXS.out)
    clear hbW4 y0 y1 p0 p1
    unfold Sp.val
    gi_wp2_with fail
    refine ⟨trivial, fun h => (by simp [Fence.wide, Fence.inRound] at h), ((callsIn_wide.2 (long_c (both y x) W4 HBS.out) : CallsIn (Fence.wide.inRound l1) _ _ _ _ _ _)).mono ?_⟩
    rintro e W5 ⟨rfl, hbW5⟩
    have hzW5 := hbW5.size
    have HW5 := Lib.hid (HW4.out.trans (hbW5.mono (by omega)))
    clear hbW5
    have HT5 : Hid (Below W.heap.size W W5) := Lib.hid (HW3.out.trans (HW5.out.mono (by omega)))
    have hst5 : GapSt w W5 b w6.heap.size out (some ⟨g, 0, none⟩) co := HST.out.tch (Tch.of_below HT5.out (Nat.le_refl _) (fun _ => False)) (fun i h => h.elim)
    have HST5 := Lib.hid hst5
    have hb5 := hst5.box
    rw [HM.out] at hb5
    have cX := hb5.cell
    have fX := hb5.frozen
    have HB5 := Lib.hid hb5
    clear hst5 hb5
    have HLN : Hid (out.length ≤ k + 1) := Lib.hid hlen'
    by_cases h0 : (both y x).len = 0
    · gi_wp2_with fail
      refine ⟨Tch.of_below HT5.out (Nat.le_refl _) _, out, _, _, HST5.out, HNE.out, HSM.out, by have := HLN.out; omega, ?_⟩
      rw [HRUN.out, gapsRun, ← HY.out, if_pos h0]
    · by_cases hn0 : n = 0
      · subst hn0
        have HRL : Hid (restL y x = []) := Lib.hid (List.eq_nil_of_length_eq_zero HSA.out.1)
        gi_wp2_with fail
        have hs1 := (Tch.refl (fun i => i = b + 1) W5).setCell (p := ⟨b + 1, 0, none⟩) (.inl rfl) (.slice (some ⟨g, 0, none⟩) m co)
        refine ⟨(Tch.of_below HT5.out (Nat.le_refl _) (fun i => i = b ∨ i = b + 1 ∨ w6.heap.size + 2 ≤ i)).trans hs1 (fun i _ e => .inr (.inl e)), rfl, out.dropLast, some ⟨g, 0, none⟩, co, ?_, by rw [HRUN.out, gapsRun, ← HY.out, if_neg h0, if_pos HRL.out]⟩
        have hdl : out.dropLast.length = m := by rw [List.length_dropLast, HM.out]; rfl
        have ho := HST5.out.own
        rw [HM.out] at ho
        have ho2 := ho.pop HM.out
        refine ⟨by rw [hdl]; exact Boxed.set _ HB5.out, by rw [hdl]; exact hs1.ownR ho2 (fun i hi e => by simp [Value.ownBlock] at e; omega), HST5.out.far, HST5.out.bel.trans (hs1.below HST5.out.bel.size (fun i e => by omega))⟩
      · have hdl : out.dropLast.length = m := by rw [List.length_dropLast, HM.out]; rfl
        have ho := HST5.out.own
        rw [HM.out] at ho
        have HPO := Lib.hid (ho.pop HM.out)
        clear ho
        have HRN : Hid (¬ restL y x = []) := Lib.hid (fun e => hn0 (by have := HSA.out.1; rw [e] at this; exact this.symm))
        have HS5 := Lib.hid (HSA.out.below HW5.out)
        have hn2 : n ≤ 2 := by have := HSA.out.1; have h2 : (restL y x).length ≤ 2 := List.length_filter_le _ _; omega
        have hsz : out.dropLast.length + n ≤ 1000000000 := by rw [hdl]; omega
        have hbase : b ≤ W5.heap.size := by omega
        have HDL := Lib.hid hdl
        clear hdl
        gi_wp2_with (gi_at_builtin; refine wplIn_append_sps2 rfl _ _ 22 22 33 rfl Try.underlying22 Try.underlying22 b _ _ rfl HPO.out A n cc (restL y x) rfl HS5.out hsz hbase ?_)
        intro v6 W6 ho6 hg6 hv6
        obtain ⟨a9, c9, hv9, -, -, -⟩ := ho6.sps
        obtain ⟨n9, hn9, hn9'⟩ : ∃ n9, v6 = .slice a9 n9 c9 ∧ n9 = (out.dropLast ++ restL y x).length := ⟨_, hv9, rfl⟩
        clear hv9
        subst hn9
        have HO6 := Lib.hid ho6
        have HN9 := Lib.hid hn9'
        have hlo6 : ∀ g2 off, a9 = some ⟨g2, off, none⟩ → g2 = b ∨ w6.heap.size + 2 ≤ g2 := fun g2 off e => by
          subst e
          rcases hv6 with e | e <;> simp [Value.ownBlock] at e <;> omega
        have hT6 := Tch.of_grown hg6
        have hbx6 : Boxed W6 (b + 1) 22 (.slice (some ⟨g, 0, none⟩) (m + 1) co) := (hg6.block (b + 1) (by omega) (fun e => by simp [Value.ownBlock] at e; omega)).trans HB5.out
        have cX6 := hbx6.cell
        have fX6 := hbx6.frozen
        have HBX6 := Lib.hid hbx6; have HT6 := Lib.hid hT6; have HLO6 := Lib.hid hlo6
        have hz6' := hT6.size
        clear ho6 hn9' hg6 hv6 hlo6 hT6 hbx6 cX fX
        gi_wp2_with fail
        have hs1 := (Tch.refl (fun i => i = b + 1) W6).setCell (p := ⟨b + 1, 0, none⟩) (.inl rfl) (.slice a9 n9 c9)
        have hTg : Tch (fun i => i = b ∨ i = b + 1 ∨ w6.heap.size + 2 ≤ i) W5 (W6.setCell ⟨b + 1, 0, none⟩ (.slice a9 n9 c9)) := (HT6.out.mono (S' := fun i => i = b ∨ i = b + 1 ∨ w6.heap.size + 2 ≤ i) (fun i _ e => by simp [Value.ownBlock] at e; omega)).trans hs1 (fun i _ e => .inr (.inl e))
        refine ⟨(Tch.of_below HT5.out (Nat.le_refl _) _).trans hTg (fun i _ e => e), out.dropLast ++ restL y x, a9, c9, ⟨?_, ?_, HLO6.out, HST5.out.bel.trans (hTg.below HST5.out.bel.size (fun i e => by omega))⟩, ?_, ?_, ?_, ?_⟩
        · rw [← HN9.out]; exact Boxed.set _ HBX6.out
        · have := HO6.out
          rw [HN9.out] at this hs1 ⊢
          exact hs1.ownR this (fun i hi e h2 => by
            subst h2
            obtain ⟨a3, c3, e3, _, _, hf3⟩ := this.sps
            match a9, e with
            | some ⟨g2, off, none⟩, e =>
              simp [Value.ownBlock] at e
              have := HLO6.out g2 off rfl
              omega
            | some ⟨g2, off, some q⟩, e =>
              obtain ⟨_, h2⟩ := this
              rcases h2 with ⟨h2, _⟩ | ⟨_, _, _, h2, _⟩ <;> cases h2)
        · intro e
          exact HRN.out (List.append_eq_nil_iff.1 e).2
        · intro u hu
          rcases List.mem_append.1 hu with h | h
          · exact HSM.out u ((List.dropLast_sublist out).subset h)
          · exact restL_small HYS.out HXS.out u h
        · rw [← HN9.out]; have := HLN.out; have h2 := HN9.out; rw [List.length_append, HDL.out, HSA.out.1] at h2; have := HM.out; omega
        · rw [HRUN.out, gapsRun, ← HY.out, if_neg h0, if_neg HRN.out]
  · intro D W hD hD2 hzW hi hK
    obtain ⟨out, ao, co, hst, hne, hsm, hlen, hrun⟩ := hi
    rw [List.drop_length, gapsRun] at hrun
    have HRUN := Lib.hid hrun
    have hbox := hst.box
    have cX := hbox.cell
    have fX := hbox.frozen
    have HST := Lib.hid hst; have HK := Lib.hid hK
    have hDW : D < W.heap.size := (Array.getElem?_eq_some_iff.1 hK).1
    clear hrun hst hne hsm hlen hbox hK
    gi_wp2_with fail
    unfold Exit.noGoto
    refine ⟨by simp, .inl ⟨_, _, rfl, run_takeDeferred HK.out, ?_⟩⟩
    have hT := (Tch.refl (fun i => i = D) W).putObj1 (r := D) (.inl rfl) (.deferred none)
    obtain ⟨a2, c2, e, _, hs6, hlo6⟩ := HST.out.own.sps
    injection e with e1 e2 e3
    subst e1; subst e3
    have hout : gapsL l z = out := by unfold gapsL; rw [if_pos ⟨HZ1.out, HZ2.out⟩]; exact HRUN.out
    rw [hout]
    refine ⟨_, results_tmp rfl _ _ _, ao, co, rfl, hT.sps hs6 (fun g off e h0 => ?_), HST.out.bel.trans (hT.below HST.out.bel.size (fun i e => by omega))⟩
    intro e2; have := HST.out.far g off e; omega
  · rintro D d k W hD hD2 hk ⟨rfl, out, ao, co, hst, hrun⟩ hK
    have HRUN := Lib.hid hrun
    have hbox := hst.box
    have cX := hbox.cell
    have fX := hbox.frozen
    have HST := Lib.hid hst; have HK := Lib.hid hK
    have hDW : D < W.heap.size := (Array.getElem?_eq_some_iff.1 hK).1
    clear hrun hst hbox hK
    gi_wp2_with fail
    unfold Exit.noGoto
    refine ⟨by simp, .inl ⟨_, _, rfl, run_takeDeferred HK.out, ?_⟩⟩
    have hT := (Tch.refl (fun i => i = D) W).putObj1 (r := D) (.inl rfl) (.deferred none)
    obtain ⟨a2, c2, e, _, hs6, hlo6⟩ := HST.out.own.sps
    injection e with e1 e2 e3
    subst e1; subst e3
    have hout : gapsL l z = out := by unfold gapsL; rw [if_pos ⟨HZ1.out, HZ2.out⟩]; exact HRUN.out.symm
    rw [hout]
    refine ⟨_, results_tmp rfl _ _ _, ao, co, rfl, hT.sps hs6 (fun g off e h0 => ?_), HST.out.bel.trans (hT.below HST.out.bel.size (fun i e => by omega))⟩
    intro e2; have := HST.out.far g off e; omega
theorem gaps_c (p : Nat) (l : List Sp) (a : Option Addr) (c : Nat) (z : Sp) (w : World) (h : IsSet w p l a c) (hn : l.length ≤ 1000000) (hls : Smalls l) (hzs : z.small) (hz1 : z.right = true) (hz2 : ¬ z.len = 0) :
    Calls Try.prog 12 #[.pointer (some ⟨p, 0, none⟩), z.val] w fun e w' => ∃ a' c', e = .returned (.slice a' (gapsL l z).length c') ∧ Sps w' a' (gapsL l z).length (gapsL l z) ∧ Below w.heap.size w w' := callsIn_wide.1 (gaps_in 0 p l a c z w h hn hls hzs hz1 hz2)
end Go.Proofs.Ytlgpoaapmgcloaa
