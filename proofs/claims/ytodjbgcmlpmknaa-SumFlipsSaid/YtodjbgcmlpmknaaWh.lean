/- Bytes that a call owns; append, strings of bytes. -/
import Derived.Test.YtodjbgcmlpmknaaWg
import Derived.Lib.BufferRead
import Derived.Lib.SlicesS
namespace Go.Proofs.Ytodjbgcmlpmknaa
open Go.RowKit

def bl (l : List By) : List Value := l.map fun c => .int .u8 (c.toNat : Int)
theorem bl_len (l : List By) : (bl l).length = l.length := by simp [bl]
theorem bl_append (a b : List By) : bl (a ++ b) = bl a ++ bl b := by simp [bl]
theorem bl_one (l : List By) : ∀ u ∈ bl l, u.oneCell' = true := by
  intro u hu
  obtain ⟨c, _, rfl⟩ := List.mem_map.1 hu
  rfl
/-- A slice of bytes of the call's own. -/
def OwnB (w : World) (base : Nat) (v : Value) (l : List By) : Prop := w.ownsRow base 5 1 v l.length (bl l)
theorem OwnB.bys {w : World} {base : Nat} {v : Value} {l : List By} (h : OwnB w base v l) : ∃ a c, v = .slice a l.length c ∧ l.length ≤ c ∧ Bys w a l.length l := by
  have hh := h
  obtain ⟨_, h2⟩ := h
  rcases h2 with ⟨rfl, h2⟩ | ⟨g, cap, cur, rfl, hg, hb, hc, _⟩
  · refine ⟨none, 0, by rw [h2], by omega, rfl, fun i c hi => ?_⟩
    have := (List.getElem?_eq_some_iff.1 hi).1
    omega
  · refine ⟨_, _, rfl, hc, rfl, fun i c hi => ⟨g, 0, rfl, (Array.getElem?_eq_some_iff.1 hb).1, ?_⟩⟩
    have := World.ownsRow.cells hh (g := g) rfl i (.int .u8 (c.toNat : Int)) (by simp [bl, hi])
    unfold Addr.add at this
    split at this
    · rename_i e; rw [e]; exact this
    · exact this
theorem own_low {w : World} {base base' : Nat} {e : TypeId} {size : Nat} {v : Value} {n : Nat} {xs : List Value} (h : w.ownsRow base e size v n xs) (hb : base' ≤ base) : w.ownsRow base' e size v n xs := by
  obtain ⟨h1, h2⟩ := h
  refine ⟨h1, ?_⟩
  rcases h2 with h2 | ⟨g, cap, cur, hv, hg, r⟩
  · exact .inl h2
  · exact .inr ⟨g, cap, cur, hv, Nat.le_trans hb hg, r⟩
theorem OwnB.below {w w' : World} {base : Nat} {v : Value} {l : List By} (h : OwnB w base v l) (hb : Below w.heap.size w w') : OwnB w' base v l := by
  obtain ⟨h1, h2⟩ := h
  refine ⟨h1, ?_⟩
  rcases h2 with h2 | ⟨g, cap, cur, hv, hg, hh, r⟩
  · exact .inl h2
  · exact .inr ⟨g, cap, cur, hv, hg, (hb.block g (Array.getElem?_eq_some_iff.1 hh).1).trans hh, r⟩
theorem Bys.cells {w : World} {a : Option Addr} {n : Nat} {l : List By} (h : Bys w a n l) (hn : 0 < n) : ∃ g off, a = some ⟨g, off, none⟩ ∧ g < w.heap.size ∧ ∀ i c, l[i]? = some c → w.cell? ⟨g, off + i, none⟩ = some (.int .u8 (c.toNat : Int)) := by
  obtain ⟨c, hc⟩ : ∃ c, l[0]? = some c := ⟨l[0]'(by rw [h.1]; exact hn), List.getElem?_eq_getElem _⟩
  obtain ⟨g, off, e, hg, _⟩ := h.2 0 c hc
  refine ⟨g, off, e, hg, fun i c hi => ?_⟩
  obtain ⟨g', off', e', _, hc'⟩ := h.2 i c hi
  rw [e] at e'
  injection e' with e'
  injection e' with e1 e2
  subst e1; subst e2
  exact hc'
theorem add_plain (g off j : Nat) : (⟨g, off, none⟩ : Addr).add j = ⟨g, off + j, none⟩ := by
  unfold Addr.add; split
  · rename_i h; subst h; rfl
  · rfl

theorem info5 : (Try.prog.info? 5).map (fun i => (i.zero, i.size, i.bytes)) = some (some (.int .u8 0), 1, 1) := by kernel_rfl

theorem run_append_nil0 (w : World) (base : Nat) (v : Value) (l : List By) (hown : OwnB w base v l) (ty : TypeId) (c : Nat) : (Builtin.append_ #[22, 22] ty #[v, .slice none 0 c]).run Try.prog w = .ok v w := by
  obtain ⟨i0, hi, hz0, hz1, hz2⟩ := info_parts info5
  rcases hown.2 with ⟨rfl, _⟩ | ⟨g, cap, cur, rfl, _, _, hnc, _⟩
  · simp [Builtin.append_, run_underlying Try.underlying22, sizeOf, typeInfo, hi, Builtin.lenOf, Builtin.firstCells]
  · simp [Builtin.append_, run_underlying Try.underlying22, sizeOf, typeInfo, hi, Builtin.lenOf, Builtin.firstCells, hnc, storeCells]

theorem run_append_bys (w : World) (base : Nat) (v : Value) (l : List By) (hown : OwnB w base v l) (ty : TypeId) (A : Option Addr) (m c : Nat) (news : List By) (hr : Bys w A m news)
    (hsz : l.length + m ≤ 1000000000000) (hbase : base ≤ w.heap.size) :
    ∃ v' w', (Builtin.append_ #[22, 22] ty #[v, .slice A m c]).run Try.prog w = .ok v' w' ∧ OwnB w' base v' (l ++ news) ∧ w.grownBy w' v.ownBlock ∧ (v ≠ .slice none 0 0 → v' ≠ .slice none 0 0) := by
  obtain ⟨i0, hi, hz0, hz1, hz2⟩ := info_parts info5
  by_cases hA : ∃ ad, A = some ad
  · obtain ⟨ad, rfl⟩ := hA
    have hnews : ∀ (j : Nat) (u : Value), (bl news)[j]? = some u → w.cell? (ad.add j) = some u := by
      intro j u hu
      obtain ⟨c, hc, rfl⟩ : ∃ c, news[j]? = some c ∧ Value.int .u8 (c.toNat : Int) = u := by
        simp only [bl, List.getElem?_map, Option.map_eq_some_iff] at hu
        exact hu
      obtain ⟨g, off, e, _, hcell⟩ := hr.2 j c hc
      injection e with e
      subst e
      rw [add_plain]; exact hcell
    obtain ⟨v', w', hrun, h2, h3, h4, _⟩ := run_append_own_at (P := Try.prog) w base 22 ty 5 i0 _ 1 1 Try.underlying22 hi hz0 hz1 hz2 rfl (by decide) v l.length (bl l) hown ad m c (bl news) (by rw [bl_len, hr.1]; omega) hnews (bl_one _) (by unfold maxLen; omega) (by omega) hbase
    refine ⟨v', w', hrun, ?_, h3, fun hv e => hv (h4.1 e).1⟩
    unfold OwnB
    rw [List.length_append, hr.1, bl_append]
    exact h2
  · have hA' : A = none := by cases A with
      | none => rfl
      | some ad => exact absurd ⟨ad, rfl⟩ hA
    subst hA'
    have hm : m = 0 := by
      rcases Nat.eq_zero_or_pos m with h | h
      · exact h
      · obtain ⟨g, off, e, _⟩ := hr.cells h
        cases e
    subst hm
    have hn : news = [] := List.eq_nil_of_length_eq_zero hr.1
    subst hn
    exact ⟨v, w, run_append_nil0 w base v l hown ty c, by simpa using hown, World.grownBy.refl w _, fun hv => hv⟩

theorem wp_append_bys {o : Oper} {a : Act} {w : World} {K : Act → World → Prop} {Q : Exit → Act → World → Prop} (s x : Operand)
    (ho : o.op = .call { callee := .builtin .append, args := #[s, x], argTypes := #[22, 22] })
    (base : Nat) (v : Value) (l : List By) (hs : a.eval s = v) (hown : OwnB w base v l) (A : Option Addr) (m c : Nat) (news : List By) (hx : a.eval x = .slice A m c) (hr : Bys w A m news)
    (hsz : l.length + m ≤ 1000000000000) (hbase : base ≤ w.heap.size)
    (h : ∀ v' w', OwnB w' base v' (l ++ news) → w.grownBy w' v.ownBlock → (v ≠ .slice none 0 0 → v' ≠ .slice none 0 0) → K (a.put o.dst v') w') : o.wp Try.prog a w K Q := by
  obtain ⟨v', w', hrun, h2, h3, h4⟩ := run_append_bys w base v l hown o.type A m c news hr hsz hbase
  unfold Oper.wp execOp
  simp only [ho, resolve, invoke, builtin, Sem.run_bind, Sem.run_pure, Result.andThen_ok, List.map_toArray, List.map_cons, List.map_nil, hs, hx, hrun]
  exact h v' w' h2 h3 h4
theorem wpl_append_bys {ops : Array Oper} {rest : List Oper} {o : Oper} {a : Act} {w : World} {Q : Exit → Act → World → Prop} (hgd : o.guard = none) (s x : Operand)
    (ho : o.op = .call { callee := .builtin .append, args := #[s, x], argTypes := #[22, 22] })
    (base : Nat) (v : Value) (l : List By) (hs : a.eval s = v) (hown : OwnB w base v l) (A : Option Addr) (m c : Nat) (news : List By) (hx : a.eval x = .slice A m c) (hr : Bys w A m news)
    (hsz : l.length + m ≤ 1000000000000) (hbase : base ≤ w.heap.size)
    (h : ∀ v' w', OwnB w' base v' (l ++ news) → w.grownBy w' v.ownBlock → (v ≠ .slice none 0 0 → v' ≠ .slice none 0 0) → wpList Try.prog ops Q rest (a.put o.dst v') w') : wpList Try.prog ops Q (o :: rest) a w :=
  wpList_plain hgd fun _ hK => wp_append_bys s x ho base v l hs hown A m c news hx hr hsz hbase fun v' w' h2 h3 h4 => hK _ _ (h v' w' h2 h3 h4)

theorem own_grown {w w' : World} {base B : Nat} {v : Value} {l : List By} (h : OwnB w base v l) (hg : w.grownBy w' v.ownBlock) (hB : B ≤ base) (hz : B ≤ w.heap.size) : Below B w w' :=
  (Below.refl B w).grown hg hz (fun k e => by have := (World.ownsRow.lt h k e).1; omega)
/-- An empty slice that is no nil. -/
theorem own_empty (w : World) : OwnB (w.alloc (.cells #[] 5)) w.heap.size (.slice (some ⟨w.heap.size, 0, none⟩) 0 0) [] :=
  World.ownsRow_made w #[] 0 (Nat.le_refl _) (Nat.zero_le _) rfl

/-! ### Strings of bytes -/
def strOf (l : List By) : ByteArray := ⟨(l.map UInt8.ofBitVec).toArray⟩
theorem str_eq (a b : List By) : ((strOf a).toList == (strOf b).toList) = decide (a = b) := by
  rw [Bool.eq_iff_iff, Lib.bytes_beq_iff, decide_eq_true_eq]
  constructor
  · intro h
    unfold strOf at h
    injection h with h
    have h2 : a.map UInt8.ofBitVec = b.map UInt8.ofBitVec := by simpa using h
    have := congrArg (List.map UInt8.toBitVec) h2
    simpa [List.map_map, Function.comp_def] using this
  · rintro rfl; rfl
theorem run_str (w : World) (a : Option Addr) (n c : Nat) (l : List By) (h : Bys w a n l) : (convert 22 9 (.slice a n c)).run Try.prog w = .ok (.string (strOf l)) w := by
  by_cases hA : ∃ ad, a = some ad
  · obtain ⟨ad, rfl⟩ := hA
    have hl : n = (l.map UInt8.ofBitVec).length := by rw [List.length_map, h.1]
    rw [hl]
    refine run_convert_bytes_back w 22 9 5 ad c (l.map UInt8.ofBitVec) Try.underlying22 Try.underlying5 Try.underlying9 (fun j hj => ?_)
    have hj' : j < l.length := by simpa using hj
    obtain ⟨g, off, e, _, hc⟩ := h.2 j l[j] (List.getElem?_eq_getElem hj')
    injection e with e
    subst e
    rw [add_plain, hc]
    simp
  · have hA' : a = none := by cases a with
      | none => rfl
      | some ad => exact absurd ⟨ad, rfl⟩ hA
    subst hA'
    have hm : n = 0 := by
      rcases Nat.eq_zero_or_pos n with h0 | h0
      · exact h0
      · obtain ⟨g, off, e, _⟩ := h.cells h0
        cases e
    subst hm
    have hn : l = [] := List.eq_nil_of_length_eq_zero h.1
    subst hn
    exact Lib.run_convert_nil_bytes w 22 9 5 c Try.underlying22 Try.underlying5 Try.underlying9
end Go.Proofs.Ytodjbgcmlpmknaa
