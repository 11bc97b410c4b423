/- What turns and what stays; bytes put behind a row, and where that row lies then. -/
import Derived.Test.YtlgpoaapmgcloaaWm
import Derived.Lib.AppendStr
namespace Go.Proofs.Ytlgpoaapmgcloaa
open Go.RowKit
set_option linter.unusedSimpArgs false
set_option linter.unusedVariables false
set_option maxRecDepth 100000

/-- 'w' is w, but for the blocks of S and what is new'. -/
structure Tch (S : Nat → Prop) (w w' : World) : Prop where
  os : w'.os = w.os
  tape : w'.tape = w.tape
  output : w'.output = w.output
  size : w.heap.size ≤ w'.heap.size
  block : ∀ i, i < w.heap.size → ¬ S i → w'.heap[i]? = w.heap[i]?
section
variable {S S' : Nat → Prop} {a b c w w' : World}
theorem Tch.refl (S : Nat → Prop) (w : World) : Tch S w w := ⟨rfl, rfl, rfl, Nat.le_refl _, fun _ _ _ => rfl⟩
theorem Tch.trans (h : Tch S a b) (k : Tch S' b c) (hs : ∀ i, i < a.heap.size → S' i → S i) : Tch S a c :=
  ⟨k.os.trans h.os, k.tape.trans h.tape, k.output.trans h.output, Nat.le_trans h.size k.size, fun i hi hn => (k.block i (Nat.lt_of_lt_of_le hi h.size) (fun e => hn (hs i hi e))).trans (h.block i hi hn)⟩
theorem Tch.of_below {B : Nat} (h : Below B a w) (hB : a.heap.size ≤ B) (S : Nat → Prop) : Tch S a w := ⟨h.os, h.tape, h.output, h.size, fun i hi _ => h.block i (Nat.lt_of_lt_of_le hi hB)⟩
theorem Tch.of_below2 {B : Nat} (h : Below B a w) : Tch (fun i => B ≤ i) a w := ⟨h.os, h.tape, h.output, h.size, fun i hi hn => h.block i (by omega)⟩
theorem Tch.of_grown {row : Option Nat} (h : w.grownBy w' row) : Tch (fun i => row = some i) w w' := ⟨h.os, h.tape, h.output, h.size, fun i hi hn => h.block i hi (fun e => hn e.symm)⟩
theorem Tch.mono (h : Tch S w w') (hs : ∀ i, i < w.heap.size → S i → S' i) : Tch S' w w' := ⟨h.os, h.tape, h.output, h.size, fun i hi hn => h.block i hi (fun e => hn (hs i hi e))⟩
theorem Tch.below {B : Nat} (h : Tch S w w') (hB : B ≤ w.heap.size) (hS : ∀ i, S i → B ≤ i) : Below B w w' :=
  ⟨h.os, h.tape, h.output, h.size, fun k hk => h.block k (Nat.lt_of_lt_of_le hk hB) (fun e => by have := hS k e; omega)⟩
theorem Tch.alloc (h : Tch S a w) (o : Obj) : Tch S a (w.alloc o) :=
  h.trans (Tch.of_below (B := w.heap.size) ((Below.refl _ _).alloc (Nat.le_refl _) o) (Nat.le_refl _) S) (fun _ _ e => e)
theorem Tch.setCell (h : Tch S a w) {p : Addr} (hp : S p.block ∨ a.heap.size ≤ p.block) (u : Value) : Tch S a (w.setCell p u) :=
  ⟨h.os, h.tape, h.output, by simpa using h.size, fun i hi hn => (Below.heap_setCell w p u i (by
    rintro rfl
    rcases hp with hp | hp
    · exact hn hp
    · omega)).trans (h.block i hi hn)⟩
theorem Tch.blk {g : Nat} {t : TypeId} {cs : Array Value} (h : Tch S w w') (hb : Blk w g t cs) (hg : ¬ S g) : Blk w' g t cs := (h.block g hb.lt hg).trans hb
theorem Tch.own {base : Nat} {v : Value} {l : List By} (h : Tch S w w') (ho : OwnB w base v l) (hv : ∀ i, v.ownBlock = some i → ¬ S i) : OwnB w' base v l := by
  obtain ⟨h1, h2⟩ := ho
  refine ⟨h1, ?_⟩
  rcases h2 with h2 | ⟨g, cap, cur, e, hg, hh, r⟩
  · exact .inl h2
  · exact .inr ⟨g, cap, cur, e, hg, (h.block g (Array.getElem?_eq_some_iff.1 hh).1 (hv g (by rw [e]; rfl))).trans hh, r⟩
theorem Tch.bys {ad : Option Addr} {n : Nat} {l : List By} (h : Tch S w w') (hb : Bys w ad n l) (hv : ∀ g off, ad = some ⟨g, off, none⟩ → 0 < n → ¬ S g) : Bys w' ad n l := by
  refine ⟨hb.1, fun i c hi => ?_⟩
  obtain ⟨g, off, e, hg, hc⟩ := hb.2 i c hi
  have hn : 0 < n := by have := (List.getElem?_eq_some_iff.1 hi).1; rw [← hb.1]; omega
  exact ⟨g, off, e, Nat.lt_of_lt_of_le hg h.size, (World.cell?_of_block (a := ⟨g, off + i, none⟩) (h.block g hg (hv g off e hn))).trans hc⟩
end
/-- A row that has grown lies where it lay, or in a new block. -/
def Mv (w : World) (v v' : Value) : Prop := v'.ownBlock = v.ownBlock ∨ ∃ k, v'.ownBlock = some k ∧ w.heap.size ≤ k
theorem Mv.refl (w : World) (v : Value) : Mv w v v := .inl rfl
theorem Mv.trans {w w1 : World} {v v1 v2 : Value} (h : Mv w v v1) (k : Mv w1 v1 v2) (hz : w.heap.size ≤ w1.heap.size) : Mv w v v2 := by
  rcases k with k | ⟨x, k, hk⟩
  · rcases h with h | ⟨y, h, hy⟩
    · exact .inl (k.trans h)
    · exact .inr ⟨y, k.trans h, hy⟩
  · exact .inr ⟨x, k, Nat.le_trans hz hk⟩
/-- What touches the grown row alone touches the row alone. -/
theorem Mv.only {w w1 w2 : World} {v v1 : Value} (m : Mv w v v1) (h : Tch (fun i => v.ownBlock = some i) w w1) (k : Tch (fun i => v1.ownBlock = some i) w1 w2) : Tch (fun i => v.ownBlock = some i) w w2 :=
  h.trans k fun i hi e => by
    rcases m with m | ⟨x, m, hx⟩
    · rw [← m]; exact e
    · rw [m] at e; injection e with e; omega
theorem own_lt {w : World} {base : Nat} {v : Value} {l : List By} (h : OwnB w base v l) : ∀ i, v.ownBlock = some i → base ≤ i ∧ i < w.heap.size := fun i e => World.ownsRow.lt h i e
theorem Mv.base {w w' : World} {v v' : Value} {base : Nat} {l : List By} (m : Mv w v v') (h : OwnB w base v l) (h' : OwnB w' base v' l) : True := trivial

theorem run_append_bysM (w : World) (base : Nat) (v : Value) (l : List By) (hown : OwnB w base v l) (ty : TypeId) (A : Option Addr) (m c : Nat) (news : List By) (hr : Bys w A m news)
    (hsz : l.length + m ≤ 1000000000000) (hbase : base ≤ w.heap.size) :
    ∃ v' w', (Builtin.append_ #[23, 23] ty #[v, .slice A m c]).run Try.prog w = .ok v' w' ∧ OwnB w' base v' (l ++ news) ∧ Tch (fun i => v.ownBlock = some i) w w' ∧ Mv w v v' ∧ (v ≠ .slice none 0 0 ∨ 0 < m → v' ≠ .slice none 0 0) := by
  obtain ⟨i0, hi, hz0, hz1, hz2⟩ := info_parts info5
  by_cases hA : ∃ ad, A = some ad
  · obtain ⟨ad, rfl⟩ := hA
    have hnews : ∀ (j : Nat) (u : Value), (bl news)[j]? = some u → w.cell? (ad.add j) = some u := by
      intro j u hu
      obtain ⟨c, hc, rfl⟩ : ∃ c, news[j]? = some c ∧ Value.int .u8 (c.toNat : Int) = u := by
        simp only [bl, List.getElem?_map, Option.map_eq_some_iff] at hu
        exact hu
      obtain ⟨g, off, e, _, hcell⟩ := hr.2 j c hc
      injection e with e
      subst e
      rw [add_plain]; exact hcell
    obtain ⟨v', w', hrun, h2, h3, h4, h5⟩ := run_append_own_at (P := Try.prog) w base 23 ty 5 i0 _ 1 1 Try.underlying23 hi hz0 hz1 hz2 rfl (by decide) v l.length (bl l) hown ad m c (bl news) (by rw [bl_len, hr.1]; omega) hnews (bl_one _) (by unfold maxLen; omega) (by omega) hbase
    refine ⟨v', w', hrun, ?_, Tch.of_grown h3, ?_, fun hv e => ?_⟩
    · unfold OwnB
      rw [List.length_append, hr.1, bl_append]
      exact h2
    · rcases h5 with h5 | h5
      · exact .inl h5
      · exact .inr ⟨_, h5, Nat.le_refl _⟩
    · obtain ⟨e1, e2⟩ := h4.1 e
      rcases hv with hv | hv
      · exact hv e1
      · omega
  · have hA' : A = none := by cases A with
      | none => rfl
      | some ad => exact absurd ⟨ad, rfl⟩ hA
    subst hA'
    have hm : m = 0 := by
      rcases Nat.eq_zero_or_pos m with h | h
      · exact h
      · obtain ⟨g, off, e, _⟩ := hr.cells h
        cases e
    subst hm
    have hn : news = [] := List.eq_nil_of_length_eq_zero hr.1
    subst hn
    exact ⟨v, w, run_append_nil0 w base v l hown ty c, by simpa using hown, Tch.refl _ _, Mv.refl _ _, fun hv => by rcases hv with hv | hv <;> first | exact hv | omega⟩
theorem wpl_append_bysM {ops : Array Oper} {rest : List Oper} {o : Oper} {a : Act} {w : World} {Q : Exit → Act → World → Prop} (hgd : o.guard = none) (s x : Operand)
    (ho : o.op = .call { callee := .builtin .append, args := #[s, x], argTypes := #[23, 23] })
    (base : Nat) (v : Value) (l : List By) (hs : a.eval s = v) (hown : OwnB w base v l) (A : Option Addr) (m c : Nat) (news : List By) (hx : a.eval x = .slice A m c) (hr : Bys w A m news)
    (hsz : l.length + m ≤ 1000000000000) (hbase : base ≤ w.heap.size)
    (h : ∀ v' w', OwnB w' base v' (l ++ news) → Tch (fun i => v.ownBlock = some i) w w' → Mv w v v' → (v ≠ .slice none 0 0 ∨ 0 < m → v' ≠ .slice none 0 0) → wpList Try.prog ops Q rest (a.put o.dst v') w') : wpList Try.prog ops Q (o :: rest) a w := by
  refine wpList_plain hgd fun K hK => ?_
  obtain ⟨v', w', hrun, h2, h3, h4, h5⟩ := run_append_bysM w base v l hown o.type A m c news hr hsz hbase
  unfold Oper.wp execOp
  simp only [ho, resolve, invoke, builtin, Sem.run_bind, Sem.run_pure, Result.andThen_ok, List.map_toArray, List.map_cons, List.map_nil, hs, hx, hrun]
  exact hK _ _ (h v' w' h2 h3 h4 h5)

/-! ### A string's bytes -/
def strB (s : ByteArray) : List By := s.data.toList.map UInt8.toBitVec
theorem strB_len (s : ByteArray) : (strB s).length = s.size := by simp [strB]
theorem strB_of (l : List By) : strB (strOf l) = l := by
  unfold strB strOf
  simp [List.map_map, Function.comp_def]
theorem strOf_B (s : ByteArray) : strOf (strB s) = s := by
  unfold strB strOf
  simp [List.map_map, Function.comp_def]
theorem strOf_size (l : List By) : (strOf l).size = l.length := by rw [← strB_len, strB_of]
theorem cells_str (s : ByteArray) : Lib.strCells s = bl (strB s) := by
  unfold Lib.strCells bl strB
  rw [List.map_map]
  rfl
theorem run_append_str (w : World) (base : Nat) (v : Value) (l : List By) (hown : OwnB w base v l) (ty : TypeId) (s : ByteArray)
    (hsz : l.length + s.size ≤ 1000000000000) (hbase : base ≤ w.heap.size) :
    ∃ v' w', (Builtin.append_ #[23, 9] ty #[v, .string s]).run Try.prog w = .ok v' w' ∧ OwnB w' base v' (l ++ strB s) ∧ Tch (fun i => v.ownBlock = some i) w w' ∧ Mv w v v' := by
  obtain ⟨i0, hi, hz0, hz1, hz2⟩ := info_parts info5
  obtain ⟨v', w', hrun, h2, h3, h4⟩ := Lib.run_append_own_string (P := Try.prog) w base 23 9 ty 5 i0 Try.underlying23 Try.underlying9 hi hz0 hz1 hz2 v l.length (bl l) hown s (by unfold maxLen; omega) (by omega) hbase
  refine ⟨v', w', hrun, ?_, Tch.of_grown h3, ?_⟩
  · unfold OwnB
    rw [List.length_append, strB_len, bl_append, ← cells_str]
    exact h2
  · rcases hown.2 with ⟨rfl, hl0⟩ | ⟨g, cap, cur, rfl, hbg, hg, hnc, hcm, hcs, htake⟩
    · have hn : OwnB w w.heap.size (.slice none 0 0) l := ⟨hown.1, .inl ⟨rfl, hl0⟩⟩
      obtain ⟨v2, w2, hrun2, h22, _⟩ := Lib.run_append_own_string (P := Try.prog) w w.heap.size 23 9 ty 5 i0 Try.underlying23 Try.underlying9 hi hz0 hz1 hz2 _ l.length (bl l) hn s (by unfold maxLen; omega) (by omega) (Nat.le_refl _)
      rw [hrun] at hrun2
      injection hrun2 with e1 e2
      subst e1; subst e2
      cases hv : v'.ownBlock with
      | none => exact .inl (by rw [hv]; rfl)
      | some k => exact .inr ⟨k, hv, (World.ownsRow.lt h22 k hv).1⟩
    · by_cases hroom : l.length + s.size ≤ cap
      · have hr := Lib.run_append_room_string (P := Try.prog) w 23 9 ty 5 i0 Try.underlying23 Try.underlying9 hi hz1 g l.length cap cur hg s hroom (by have := hcs; simp at this; omega)
        rw [hrun] at hr
        injection hr with e1 e2
        exact .inl (by rw [e1]; rfl)
      · have holds : ∀ j u, (bl l)[j]? = some u → w.cell? ((⟨g, 0, none⟩ : Addr).add j) = some u := World.ownsRow.cells (hown : w.ownsRow _ _ _ _ _ _) (g := g) rfl
        have hr := Lib.run_append_grow_string (P := Try.prog) w 23 9 ty 5 i0 _ Try.underlying23 Try.underlying9 hi hz0 ⟨g, 0, none⟩ l.length cap (bl l) (by rw [hz1, bl_len]; omega) holds s (by omega) (by omega) (by rw [hz2]; exact growslice_fits (by omega) (by omega))
        rw [hrun] at hr
        injection hr with e1 e2
        exact .inr ⟨w.heap.size, by rw [e1]; rfl, Nat.le_refl _⟩
theorem wpl_append_str {ops : Array Oper} {rest : List Oper} {o : Oper} {a : Act} {w : World} {Q : Exit → Act → World → Prop} (hgd : o.guard = none) (s x : Operand)
    (ho : o.op = .call { callee := .builtin .append, args := #[s, x], argTypes := #[23, 9] })
    (base : Nat) (v : Value) (l : List By) (hs : a.eval s = v) (hown : OwnB w base v l) (st : ByteArray) (hx : a.eval x = .string st)
    (hsz : l.length + st.size ≤ 1000000000000) (hbase : base ≤ w.heap.size)
    (h : ∀ v' w', OwnB w' base v' (l ++ strB st) → Tch (fun i => v.ownBlock = some i) w w' → Mv w v v' → wpList Try.prog ops Q rest (a.put o.dst v') w') : wpList Try.prog ops Q (o :: rest) a w := by
  refine wpList_plain hgd fun K hK => ?_
  obtain ⟨v', w', hrun, h2, h3, h4⟩ := run_append_str w base v l hown o.type st hsz hbase
  unfold Oper.wp execOp
  simp only [ho, resolve, invoke, builtin, Sem.run_bind, Sem.run_pure, Result.andThen_ok, List.map_toArray, List.map_cons, List.map_nil, hs, hx, hrun]
  exact hK _ _ (h v' w' h2 h3 h4)
end Go.Proofs.Ytlgpoaapmgcloaa

