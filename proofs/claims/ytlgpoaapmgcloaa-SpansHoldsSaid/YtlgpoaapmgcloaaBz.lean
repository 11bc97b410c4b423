/- Noughts are put behind bytes that a call owns. -/
import Derived.Test.YtlgpoaapmgcloaaBy
import Derived.Laws.CopyRow
import Derived.Lib.SlBytesConst
namespace Go.Proofs.Ytlgpoaapmgcloaa
open Go.RowKit
set_option linter.unusedSimpArgs false
set_option linter.unusedVariables false
set_option maxRecDepth 100000

theorem zc_bl (k : Nat) : Builtin.zeroCells (Value.int .u8 0).cells k = (bl (List.replicate k 0#8)).toArray := by
  apply Array.ext_getElem?
  intro i
  by_cases h : i < k
  · simp [Builtin.zeroCells, bl, h, Value.cells, Nat.mod_one]
  · simp [Builtin.zeroCells, bl, h, Value.cells]
theorem run_append_zeros (w : World) (base : Nat) (v : Value) (l : List By) (hown : OwnB w base v l) (ty : TypeId) (m : Nat) (hsz : l.length + m ≤ 1000000000) (hbase : base ≤ w.heap.size) :
    ∃ v' w', (Builtin.append_ #[23, 3] ty #[v, .int .i64 (m : Int)]).run Try.prog w = .ok v' w' ∧ OwnB w' base v' (l ++ List.replicate m 0#8) ∧ w.grownBy w' v.ownBlock := by
  obtain ⟨i0, hi, hz0, hz1, hz2⟩ := info_parts info5
  have hw : IntKind.i64.wrap (m : Int) = m := by rw [IntKind.wrap_i64]; omega
  have hneg : ¬ ((m : Int) < 0) := by omega
  have h48i : ¬ (281474976710656 < (m : Int) * (i0.bytes : Int)) := by rw [hz2]; omega
  rcases Nat.eq_zero_or_pos m with h0 | h0
  · subst h0
    have hw0 : IntKind.i64.wrap 0 = 0 := by decide
    refine ⟨v, w, ?_, by simpa using hown, World.grownBy.refl w _⟩
    rcases hown.2 with ⟨rfl, _⟩ | ⟨g, cap, cur, rfl, _, _, hnc, _⟩
    · simp [Builtin.append_, run_underlying Try.underlying23, run_underlying Try.underlying3, sizeOf, typeInfo, hi, asInt, asIntOf, hw0]
    · simp [Builtin.append_, run_underlying Try.underlying23, run_underlying Try.underlying3, sizeOf, typeInfo, hi, asInt, asIntOf, hw0, hnc, storeCells]
  · have hml : (bl (List.replicate m 0#8)).length = m := by rw [bl_len, List.length_replicate]
    have hgrow : ∀ (b : Option Addr) (sCap : Nat), sCap < l.length + m → (Builtin.firstCells i0.size l.length (.slice b l.length sCap)).run Try.prog w.drew = .ok (bl l).toArray w.drew → ∀ row,
        ∃ v' w', (Builtin.append_ #[23, 3] ty #[.slice b l.length sCap, .int .i64 (m : Int)]).run Try.prog w = .ok v' w' ∧ OwnB w' base v' (l ++ List.replicate m 0#8) ∧ w.grownBy w' row := by
      intro b sCap hlt hold row
      have h := Lib.run_append_grow_zeros w 23 3 ty 5 i0 (.int .u8 0) .i64 .i64 Try.underlying23 Try.underlying3 hi hz0 b l.length sCap (bl l) hold m h0 (by omega) hlt (by omega) (by rw [hz2]; omega) (growslice_fits (by omega) (by rw [hz2]; omega))
      refine ⟨_, _, h, ⟨?_, .inr ⟨w.heap.size, _, _, by rw [List.length_append, List.length_replicate], hbase, heap_alloc_new w.drew _, ?_, grownCap_le_maxLen w _ _ _ (by unfold maxLen; omega), ?_, ?_⟩⟩, ⟨rfl, rfl, rfl, by simp, fun k hk _ => heap_alloc_old w.drew _ hk⟩⟩
      · rw [bl_len, Nat.mul_one]
      · rw [List.length_append, List.length_replicate]; exact grownCap_ge w _ _ _
      · have := grownCap_ge w (l.length + m) sCap 5
        rw [zc_bl, zc_bl]
        simp only [Array.size_append, List.size_toArray, bl_len, List.length_replicate]
        omega
      · rw [zc_bl, zc_bl, bl_append]
        simp only [Array.toList_append, bl_len, List.length_append, List.length_replicate, Nat.mul_one]
        exact List.take_left' (by rw [List.length_append, bl_len, bl_len, List.length_replicate])
    rcases hown.2 with ⟨rfl, hl0⟩ | ⟨g, cap, cur, rfl, hbg, hg, hnc, hcm, hcs, htake⟩
    · have hl : l = [] := List.eq_nil_of_length_eq_zero hl0
      subst hl
      exact hgrow none 0 (by simpa using h0) (run_firstCells_none w.drew i0.size 0 0 0) _
    · by_cases hroom : l.length + m ≤ cap
      · have hfit : l.length + m ≤ cur.size := by omega
        have hst := run_storeCells_at Try.prog g l.length 5 (bl (List.replicate m 0#8)) 0 cur w hg (by rw [hml]; simpa using hfit) (bl_one _)
        have hr : (Builtin.append_ #[23, 3] ty #[.slice (some ⟨g, 0, none⟩) l.length cap, .int .i64 (m : Int)]).run Try.prog w = .ok (.slice (some ⟨g, 0, none⟩) (l.length + m) cap) (w.setRow g (cur.toList.take l.length ++ bl (List.replicate m 0#8) ++ cur.toList.drop (l.length + m)).toArray) := by
          simp [Builtin.append_, run_underlying Try.underlying23, run_underlying Try.underlying3, sizeOf, typeInfo, zeroValue, hi, hz0, hz1, asInt, asIntOf, hw, hneg, h48i, hroom, Nat.pos_iff_ne_zero.1 h0, zc_bl, add_plain]
          simp [hml] at hst
          simp [hst]
        refine ⟨_, _, hr, ⟨by rw [bl_len, Nat.mul_one], .inr ⟨g, cap, _, by rw [List.length_append, List.length_replicate], hbg, setRow_heap w g cur _ _ _ hg, by rw [List.length_append, List.length_replicate]; exact hroom, hcm, ?_, ?_⟩⟩, ⟨rfl, rfl, rfl, by simp [World.setRow], fun k _ hk => setRow_other w g k _ (fun e => hk (by simp [Value.ownBlock, e]))⟩⟩
        · simp [bl_len]; omega
        · have h1 : cur.toList.take l.length = bl l := by simpa [bl_len] using htake
          rw [h1, bl_append]
          simp only [List.length_append, List.length_replicate, Nat.mul_one]
          exact List.take_left' (by rw [List.length_append, bl_len, bl_len, List.length_replicate])
      · refine hgrow _ cap (by omega) ?_ _
        have holds : ∀ (j : Nat) (u : Value), (bl l)[j]? = some u → w.drew.cell? ((⟨g, 0, none⟩ : Addr).add j) = some u := fun j u hu => by
          simpa using World.ownsRow.cells hown (g := g) rfl j u hu
        exact run_firstCells_some w.drew i0.size l.length _ l.length cap (bl l) (by rw [bl_len, hz1, Nat.mul_one]) holds
theorem wpl_append_zeros {ops : Array Oper} {rest : List Oper} {o : Oper} {a : Act} {w : World} {Q : Exit → Act → World → Prop} (hgd : o.guard = none) (s x : Operand)
    (ho : o.op = .call { callee := .builtin .append, args := #[s, x], argTypes := #[23, 3] })
    (base : Nat) (v : Value) (l : List By) (hs : a.eval s = v) (hown : OwnB w base v l) (m : Nat) (M : Int) (hx : a.eval x = .int .i64 M) (hM : M = (m : Int))
    (hsz : l.length + m ≤ 1000000000) (hbase : base ≤ w.heap.size)
    (h : ∀ v' w', OwnB w' base v' (l ++ List.replicate m 0#8) → w.grownBy w' v.ownBlock → wpList Try.prog ops Q rest (a.put o.dst v') w') : wpList Try.prog ops Q (o :: rest) a w := by
  subst hM
  refine wpList_plain hgd fun K hK => ?_
  obtain ⟨v', w', hrun, h2, h3⟩ := run_append_zeros w base v l hown o.type m hsz hbase
  unfold Oper.wp execOp
  simp only [ho, resolve, invoke, builtin, Sem.run_bind, Sem.run_pure, Result.andThen_ok, List.map_toArray, List.map_cons, List.map_nil, hs, hx, hrun]
  exact hK _ _ (h v' w' h2 h3)
theorem Bys.mark {W : World} {cs : Array Value} {l : List By} {n : Nat} (t : TypeId) (fz : Nat × Nat) (h : cs.toList = bl l) (hn : l.length = n) : Bys (W.alloc (.cells cs t fz)) (some ⟨W.heap.size, 0, none⟩) n l := by
  refine ⟨hn, fun i c hi => ⟨W.heap.size, 0, rfl, by simp, ?_⟩⟩
  have : cs[i]? = some (.int .u8 (c.toNat : Int)) := by
    rw [← Array.getElem?_toList, h]
    simp [bl, hi]
  unfold World.cell?
  simp only [heap_alloc_new, Nat.zero_add]
  exact this
theorem conv_lit (W : World) (C : Array Value) (n c : Nat) : (convert 23 23 (.slice (some ⟨W.heap.size, 0, none⟩) n c)).run Try.prog (W.alloc (.cells C 5)) = .ok (.slice (some ⟨W.heap.size, 0, none⟩) n c) (W.alloc (.cells C 5 (C.size, C.size + 1))) :=
  Lib.run_convert_bytes_const W 23 5 C n c Try.underlying23 Try.underlying5
theorem conv_lit2 (W : World) (o : Obj) (C : Array Value) (n c : Nat) : (convert 23 23 (.slice (some ⟨W.heap.size + 1, 0, none⟩) n c)).run Try.prog ((W.alloc o).alloc (.cells C 5)) = .ok (.slice (some ⟨W.heap.size + 1, 0, none⟩) n c) ((W.alloc o).alloc (.cells C 5 (C.size, C.size + 1))) := by
  have := conv_lit (W.alloc o) C n c
  rw [World.size_alloc] at this
  exact this
theorem Prs.nil {w : World} : Prs w none 0 [] := ⟨rfl, fun i p hi => by simp at hi⟩
theorem Bys.nil {w : World} : Bys w none 0 [] := ⟨rfl, fun i c hi => by simp at hi⟩
theorem OwnB.take {w : World} {base n c : Nat} {a : Option Addr} {l : List By} (h : OwnB w base (.slice a n c) l) (hn : l.length = n) (k : Nat) (hk : k ≤ n) : OwnB w base (.slice a k c) (l.take k) := by
  have hl : (l.take k).length = k := by rw [List.length_take]; omega
  obtain ⟨h1, h2⟩ := h
  refine ⟨by rw [bl_len, Nat.mul_one], ?_⟩
  rcases h2 with ⟨e, h3⟩ | ⟨g, cap, cur, e, hg, hb, hc, hm, hs, ht⟩
  · injection e with e1 e2 e3
    subst e1; subst e2; subst e3
    obtain rfl : k = 0 := by omega
    exact .inl ⟨rfl, by rw [hl]⟩
  · injection e with e1 e2 e3
    subst e1; subst e3
    refine .inr ⟨g, c, cur, by rw [hl], hg, hb, by rw [hl]; omega, hm, hs, ?_⟩
    have e4 : bl (l.take k) = (bl l).take k := by simp [bl, List.map_take]
    rw [e4, ← ht, List.take_take, hl, Nat.mul_one, Nat.mul_one, Nat.min_eq_left (by omega)]
end Go.Proofs.Ytlgpoaapmgcloaa

