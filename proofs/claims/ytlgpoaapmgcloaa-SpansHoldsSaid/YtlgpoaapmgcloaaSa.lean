/- Spans in memory. -/
import Derived.Test.YtlgpoaapmgcloaaMb
import Derived.Test.YtlgpoaapmgcloaaWe
namespace Go.Proofs.Ytlgpoaapmgcloaa
open Go.RowKit
set_option linter.unusedSimpArgs false
set_option linter.unusedVariables false
set_option maxRecDepth 100000

def scs (l : List Sp) : List Value := l.flatMap fun x => [.int .i64 x.f, .int .i64 x.t]
theorem scs_len (l : List Sp) : (scs l).length = l.length * 2 := by
  induction l with
  | nil => rfl
  | cons f t ih => simp [scs] at ih ⊢; omega
theorem scs_append (a b : List Sp) : scs (a ++ b) = scs a ++ scs b := by simp [scs]
theorem scs_at {l : List Sp} {i : Nat} {x : Sp} (h : l[i]? = some x) : (scs l)[i * 2]? = some (.int .i64 x.f) ∧ (scs l)[i * 2 + 1]? = some (.int .i64 x.t) := by
  induction l generalizing i with
  | nil => simp at h
  | cons y t ih =>
    cases i with
    | zero =>
      simp at h
      subst h
      exact ⟨rfl, rfl⟩
    | succ i =>
      simp at h
      obtain ⟨h1, h2⟩ := ih h
      have e : scs (y :: t) = [.int .i64 y.f, .int .i64 y.t] ++ scs t := rfl
      rw [e, List.getElem?_append_right (show [Value.int .i64 y.f, .int .i64 y.t].length ≤ (i + 1) * 2 from by simp only [List.length_cons, List.length_nil]; omega), List.getElem?_append_right (show [Value.int .i64 y.f, .int .i64 y.t].length ≤ (i + 1) * 2 + 1 from by simp only [List.length_cons, List.length_nil]; omega)]
      exact ⟨by simpa [show (i + 1) * 2 - 2 = i * 2 from by omega] using h1, by simpa [show (i + 1) * 2 + 1 - 2 = i * 2 + 1 from by omega] using h2⟩
theorem scs_one (l : List Sp) : ∀ u ∈ scs l, u.oneCell' = true := by
  intro u hu
  obtain ⟨x, _, hx⟩ := List.mem_flatMap.1 hu
  simp at hx
  rcases hx with rfl | rfl <;> rfl
theorem scs_get {l : List Sp} {j : Nat} {u : Value} (h : (scs l)[j]? = some u) : ∃ i x, l[i]? = some x ∧ ((j = i * 2 ∧ u = .int .i64 x.f) ∨ (j = i * 2 + 1 ∧ u = .int .i64 x.t)) := by
  have hlt := (List.getElem?_eq_some_iff.1 h).1
  rw [scs_len] at hlt
  have hi : j / 2 < l.length := by omega
  have hx := List.getElem?_eq_getElem hi
  obtain ⟨h1, h2⟩ := scs_at hx
  refine ⟨j / 2, l[j / 2], hx, ?_⟩
  rcases (by omega : j = j / 2 * 2 ∨ j = j / 2 * 2 + 1) with e | e
  · left
    refine ⟨e, ?_⟩
    rw [← e, h] at h1
    injection h1
  · right
    refine ⟨e, ?_⟩
    rw [← e, h] at h2
    injection h2
/-- A slice of spans in memory reads as these. -/
def Sps (w : World) (a : Option Addr) (n : Nat) (l : List Sp) : Prop := l.length = n ∧ ∀ (i : Nat) (x : Sp), l[i]? = some x → ∃ g off, a = some ⟨g, off, none⟩ ∧ g < w.heap.size ∧
  w.cell? ⟨g, off + i * 2, none⟩ = some (.int .i64 x.f) ∧ w.cell? ⟨g, off + i * 2 + 1, none⟩ = some (.int .i64 x.t)
theorem Sps.nil (w : World) (a : Option Addr) : Sps w a 0 [] := ⟨rfl, fun i x h => by simp at h⟩
theorem Sps.below {w W : World} {a : Option Addr} {n : Nat} {l : List Sp} (h : Sps w a n l) (hb : Below w.heap.size w W) : Sps W a n l :=
  ⟨h.1, fun i x hx => by
    obtain ⟨g, off, e, hg, c0, c1⟩ := h.2 i x hx
    exact ⟨g, off, e, Nat.lt_of_lt_of_le hg hb.size, (hb.cell (p := ⟨g, _, none⟩) hg).trans c0, (hb.cell (p := ⟨g, _, none⟩) hg).trans c1⟩⟩
theorem Sps.only {w W : World} {a : Option Addr} {n p : Nat} {l : List Sp} (h : Sps w a n l) (ho : Only p w W) (hp : ∀ g off, a = some ⟨g, off, none⟩ → 0 < n → g ≠ p) : Sps W a n l := by
  refine ⟨h.1, fun i x hx => ?_⟩
  obtain ⟨g, off, e, hg, c0, c1⟩ := h.2 i x hx
  have hn : 0 < n := by have := (List.getElem?_eq_some_iff.1 hx).1; rw [← h.1]; omega
  have hk := ho.block g hg (fun q => hp g off e hn (by injection q))
  exact ⟨g, off, e, Nat.lt_of_lt_of_le hg ho.size, (World.cell?_of_block (a := ⟨g, off + i * 2, none⟩) hk).trans c0, (World.cell?_of_block (a := ⟨g, off + i * 2 + 1, none⟩) hk).trans c1⟩
theorem Sps.cells {w : World} {a : Option Addr} {n : Nat} {l : List Sp} (h : Sps w a n l) (hn : 0 < n) : ∃ g off, a = some ⟨g, off, none⟩ ∧ g < w.heap.size ∧ ∀ i x, l[i]? = some x → w.cell? ⟨g, off + i * 2, none⟩ = some (.int .i64 x.f) ∧ w.cell? ⟨g, off + i * 2 + 1, none⟩ = some (.int .i64 x.t) := by
  obtain ⟨x, hx⟩ : ∃ x, l[0]? = some x := ⟨l[0]'(by rw [h.1]; exact hn), List.getElem?_eq_getElem _⟩
  obtain ⟨g, off, e, hg, _⟩ := h.2 0 x hx
  refine ⟨g, off, e, hg, fun i y hi => ?_⟩
  obtain ⟨g', off', e', _, c0, c1⟩ := h.2 i y hi
  rw [e] at e'
  injection e' with e'
  injection e' with e1 e2
  subst e1; subst e2
  exact ⟨c0, c1⟩
theorem Sps.take {w : World} {a : Option Addr} {n : Nat} {l : List Sp} (h : Sps w a n l) (k : Nat) (hk : k ≤ n) : Sps w a k (l.take k) := by
  refine ⟨by rw [List.length_take, h.1]; omega, fun i x hi => ?_⟩
  rw [List.getElem?_take] at hi
  split at hi
  · exact h.2 i x hi
  · cases hi
theorem Sps.lit {W : World} {cs : Array Value} {l : List Sp} {n : Nat} (t : TypeId) (h : cs.toList = scs l) (hn : l.length = n) : Sps (W.alloc (.cells cs t)) (some ⟨W.heap.size, 0, none⟩) n l := by
  refine ⟨hn, fun i x hi => ⟨W.heap.size, 0, rfl, by simp, ?_, ?_⟩⟩
  · rw [Nat.zero_add]
    refine blk0 ?_
    rw [← Array.getElem?_toList, h]
    exact (scs_at hi).1
  · rw [Nat.zero_add]
    refine blk0 ?_
    rw [← Array.getElem?_toList, h]
    exact (scs_at hi).2
/-- A slice of spans of the call's own. -/
def OwnR (w : World) (base : Nat) (v : Value) (l : List Sp) : Prop := w.ownsRow base 33 2 v l.length (scs l)
theorem OwnR.nil (w : World) (base : Nat) : OwnR w base (.slice none 0 0) [] := ⟨rfl, .inl ⟨rfl, rfl⟩⟩
theorem OwnR.sps {w : World} {base : Nat} {v : Value} {l : List Sp} (h : OwnR w base v l) : ∃ a c, v = .slice a l.length c ∧ l.length ≤ c ∧ Sps w a l.length l ∧ ∀ g off, a = some ⟨g, off, none⟩ → base ≤ g ∧ off = 0 := by
  have hh := h
  obtain ⟨_, h2⟩ := h
  rcases h2 with ⟨rfl, h2⟩ | ⟨g, cap, cur, rfl, hg, hb, hc, _⟩
  · refine ⟨none, 0, by rw [h2], by omega, ⟨rfl, fun i c hi => ?_⟩, fun g off e => by cases e⟩
    have := (List.getElem?_eq_some_iff.1 hi).1
    omega
  · refine ⟨_, _, rfl, hc, ⟨rfl, fun i x hi => ⟨g, 0, rfl, (Array.getElem?_eq_some_iff.1 hb).1, ?_, ?_⟩⟩, fun g' off e => by injection e with e; injection e with e1 e2; omega⟩
    · have := World.ownsRow.cells hh (g := g) rfl (i * 2) _ (scs_at hi).1
      rw [add_plain] at this
      exact this
    · have := World.ownsRow.cells hh (g := g) rfl (i * 2 + 1) _ (scs_at hi).2
      rw [add_plain, ← Nat.add_assoc] at this
      exact this
theorem OwnR.below {w w' : World} {base : Nat} {v : Value} {l : List Sp} (h : OwnR w base v l) (hb : Below w.heap.size w w') : OwnR w' base v l := by
  obtain ⟨h1, h2⟩ := h
  refine ⟨h1, ?_⟩
  rcases h2 with h2 | ⟨g, cap, cur, hv, hg, hh, r⟩
  · exact .inl h2
  · exact .inr ⟨g, cap, cur, hv, hg, (hb.block g (Array.getElem?_eq_some_iff.1 hh).1).trans hh, r⟩
theorem infoSp : (Try.prog.info? 33).map (fun i => (i.zero, i.size, i.bytes)) = some (some (.agg #[.int .i64 0, .int .i64 0]), 2, 16) := by kernel_rfl
theorem info33 : (Try.prog.info? 33).map (·.size) = some 2 := by kernel_rfl
theorem append_as (P : Program) (t t2 e e2 ty : TypeId) (v x : Value) (w : World) (ht : P.underlying t = some (.slice e)) (ht2 : P.underlying t2 = some (.slice e2)) :
    (Builtin.append_ #[t, t2] ty #[v, x]).run P w = (Builtin.append_ #[t, t] ty #[v, x]).run P w := by
  unfold Builtin.append_
  cases v <;> simp [run_underlying ht, run_underlying ht2]
theorem append_on (P : Program) (t t' e ty : TypeId) (v x : Value) (w : World) (ht : P.underlying t = some (.slice e)) (ht' : P.underlying t' = some (.slice e)) :
    (Builtin.append_ #[t, t] ty #[v, x]).run P w = (Builtin.append_ #[t', t'] ty #[v, x]).run P w := by
  unfold Builtin.append_
  cases v <;> simp [run_underlying ht, run_underlying ht']
theorem run_append_sps (w : World) (base : Nat) (v : Value) (l : List Sp) (hown : OwnR w base v l) (ty : TypeId) (A : Option Addr) (m c : Nat) (news : List Sp) (hr : Sps w A m news)
    (hsz : l.length + m ≤ 1000000000) (hbase : base ≤ w.heap.size) :
    ∃ v' w', (Builtin.append_ #[22, 22] ty #[v, .slice A m c]).run Try.prog w = .ok v' w' ∧ OwnR w' base v' (l ++ news) ∧ w.grownBy w' v.ownBlock := by
  obtain ⟨i0, hi, hz0, hz1, hz2⟩ := info_parts infoSp
  by_cases hA : ∃ ad, A = some ad
  · obtain ⟨ad, rfl⟩ := hA
    have hnews : ∀ (j : Nat) (u : Value), (scs news)[j]? = some u → w.cell? (ad.add j) = some u := by
      intro j u hu
      obtain ⟨i, x, hx, hc⟩ := scs_get hu
      obtain ⟨g, off, e, _, c0, c1⟩ := hr.2 i x hx
      injection e with e
      subst e
      rw [add_plain]
      rcases hc with ⟨rfl, rfl⟩ | ⟨rfl, rfl⟩
      · exact c0
      · rw [← Nat.add_assoc]; exact c1
    obtain ⟨v', w', hrun, h2, h3, h4, _⟩ := run_append_own_at (P := Try.prog) w base 22 ty 33 i0 _ 2 16 Try.underlying22 hi hz0 hz1 hz2 rfl (by decide) v l.length (scs l) hown ad m c (scs news) (by rw [scs_len, hr.1]) hnews (scs_one _) (by unfold maxLen; omega) (by omega) hbase
    refine ⟨v', w', hrun, ?_, h3⟩
    unfold OwnR
    rw [List.length_append, hr.1, scs_append]
    exact h2
  · have hA' : A = none := by cases A with
      | none => rfl
      | some ad => exact absurd ⟨ad, rfl⟩ hA
    subst hA'
    have hm : m = 0 := by
      rcases Nat.eq_zero_or_pos m with h | h
      · exact h
      · obtain ⟨g, off, e, _⟩ := hr.cells h
        cases e
    subst hm
    have hn : news = [] := List.eq_nil_of_length_eq_zero hr.1
    subst hn
    refine ⟨v, w, ?_, by simpa using hown, World.grownBy.refl w _⟩
    rcases hown.2 with ⟨rfl, _⟩ | ⟨g, cap, cur, rfl, _, _, hnc, _⟩
    · simp [Builtin.append_, run_underlying Try.underlying22, sizeOf, typeInfo, hi, Builtin.lenOf, Builtin.firstCells]
    · simp [Builtin.append_, run_underlying Try.underlying22, sizeOf, typeInfo, hi, Builtin.lenOf, Builtin.firstCells, hnc, storeCells]
theorem wpl_append_sps {ops : Array Oper} {rest : List Oper} {o : Oper} {a : Act} {w : World} {Q : Exit → Act → World → Prop} (hgd : o.guard = none) (s x : Operand) (t t2 : TypeId) (e2 : TypeId)
    (ho : o.op = .call { callee := .builtin .append, args := #[s, x], argTypes := #[t, t2] }) (ht : Try.prog.underlying t = some (.slice 33)) (ht2 : Try.prog.underlying t2 = some (.slice e2))
    (base : Nat) (v : Value) (l : List Sp) (hs : a.eval s = v) (hown : OwnR w base v l) (A : Option Addr) (m c : Nat) (news : List Sp) (hx : a.eval x = .slice A m c) (hr : Sps w A m news)
    (hsz : l.length + m ≤ 1000000000) (hbase : base ≤ w.heap.size)
    (h : ∀ v' w', OwnR w' base v' (l ++ news) → w.grownBy w' v.ownBlock → wpList Try.prog ops Q rest (a.put o.dst v') w') : wpList Try.prog ops Q (o :: rest) a w :=
  wpList_plain hgd fun _ hK => by
    obtain ⟨v', w', hrun, h2, h3⟩ := run_append_sps w base v l hown o.type A m c news hr hsz hbase
    rw [append_on Try.prog 22 t 33 o.type _ _ _ Try.underlying22 ht, ← append_as Try.prog t t2 33 e2 o.type _ _ _ ht ht2] at hrun
    unfold Oper.wp execOp
    simp only [ho, resolve, invoke, builtin, Sem.run_bind, Sem.run_pure, Result.andThen_ok, List.map_toArray, List.map_cons, List.map_nil, hs, hx, hrun]
    exact hK _ _ (h v' w' h2 h3)
theorem ownR_grown {w w' : World} {base B : Nat} {v : Value} {l : List Sp} (h : OwnR w base v l) (hg : w.grownBy w' v.ownBlock) (hB : B ≤ base) (hz : B ≤ w.heap.size) : Below B w w' :=
  (Below.refl B w).grown hg hz (fun k e => by have := (World.ownsRow.lt h k e).1; omega)
theorem ownR_empty (w : World) : OwnR (w.alloc (.cells #[] 33)) w.heap.size (.slice (some ⟨w.heap.size, 0, none⟩) 0 0) [] :=
  World.ownsRow_made w #[] 0 (Nat.le_refl _) (Nat.zero_le _) rfl
/-- A set. -/
structure IsSet (w : World) (p : Nat) (l : List Sp) (a : Option Addr) (c : Nat) : Prop where
  blk : Blk w p 51 #[.slice a l.length c, .bool true]
  row : Sps w a l.length l
  cap : l.length ≤ c
theorem IsSet.below {w w' : World} {p : Nat} {l : List Sp} {a : Option Addr} {c : Nat} (h : IsSet w p l a c) (hb : Below w.heap.size w w') : IsSet w' p l a c := ⟨h.blk.below hb h.blk.lt, h.row.below hb, h.cap⟩
theorem set_far {w : World} {p : Nat} {a a' : Option Addr} {n n' c : Nat} {b : Bool} {l : List Sp} (hb : Blk w p 51 #[.slice a n c, .bool b]) (hl : Sps w a' n' l) : ∀ g off, a' = some ⟨g, off, none⟩ → 0 < n' → g ≠ p := by
  intro g off e hn e2
  subst e2
  obtain ⟨g', off', e', _, hc⟩ := hl.cells hn
  rw [e] at e'; injection e' with e'; injection e' with e1 e3
  subst e1; subst e3
  obtain ⟨x, hx⟩ : ∃ x, l[0]? = some x := ⟨l[0]'(by rw [hl.1]; exact hn), List.getElem?_eq_getElem _⟩
  obtain ⟨c0, c1⟩ := hc 0 x hx
  have k0 : w.cell? ⟨g, off + 0 * 2, none⟩ = (#[Value.slice a n c, .bool b] : Array Value)[off + 0 * 2]? := by
    unfold Blk at hb; simp [World.cell?, hb]
  rw [k0] at c0
  match off, c0 with
  | 0, c0 => simp at c0
  | 1, c0 => simp at c0
  | k + 2, c0 => simp at c0
end Go.Proofs.Ytlgpoaapmgcloaa
