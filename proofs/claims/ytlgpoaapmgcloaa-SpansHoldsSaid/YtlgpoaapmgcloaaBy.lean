/- Bytes in memory: slices, appends, strings, what is cloned, what is put together. -/
import Derived.Test.YtlgpoaapmgcloaaBase
import Derived.Test.YtlgpoaapmgcloaaMath
import Derived.Lib.BufferRead
import Derived.Lib.SlicesS
import Derived.Lib.AppendZerosOnto
import Derived.Laws.MakeOwn
namespace Go.Proofs.Ytlgpoaapmgcloaa
open Go.RowKit
set_option linter.unusedSimpArgs false
set_option linter.unusedVariables false
set_option maxRecDepth 100000

/-- A slice of bytes in memory reads as these. -/
def Bys (w : World) (a : Option Addr) (n : Nat) (l : List By) : Prop :=
  l.length = n ∧ ∀ i c, l[i]? = some c → ∃ g off, a = some ⟨g, off, none⟩ ∧ g < w.heap.size ∧ w.cell? ⟨g, off + i, none⟩ = some (.int .u8 (c.toNat : Int))
theorem Bys.below {w w' : World} {a : Option Addr} {n : Nat} {l : List By} (h : Bys w a n l) (hb : Below w.heap.size w w') : Bys w' a n l := by
  refine ⟨h.1, fun i c hi => ?_⟩
  obtain ⟨g, off, e, hg, hc⟩ := h.2 i c hi
  exact ⟨g, off, e, Nat.lt_of_lt_of_le hg hb.size, (hb.cell (p := ⟨g, off + i, none⟩) hg).trans hc⟩

/-- A slice of slices of bytes. -/
def Prs (w : World) (a : Option Addr) (n : Nat) (ps : List (List By)) : Prop :=
  ps.length = n ∧ ∀ i p, ps[i]? = some p → p.length ≤ 1000000000 ∧ ∃ g off a' c', a = some ⟨g, off, none⟩ ∧ g < w.heap.size ∧ w.cell? ⟨g, off + i, none⟩ = some (.slice a' p.length c') ∧ Bys w a' p.length p
theorem Prs.below {w w' : World} {a : Option Addr} {n : Nat} {ps : List (List By)} (h : Prs w a n ps) (hb : Below w.heap.size w w') : Prs w' a n ps := by
  refine ⟨h.1, fun i p hi => ?_⟩
  obtain ⟨hp, g, off, a', c', e, hg, hc, hB⟩ := h.2 i p hi
  exact ⟨hp, g, off, a', c', e, Nat.lt_of_lt_of_le hg hb.size, (hb.cell (p := ⟨g, off + i, none⟩) hg).trans hc, hB.below hb⟩

def bl (l : List By) : List Value := l.map fun c => .int .u8 (c.toNat : Int)
theorem bl_len (l : List By) : (bl l).length = l.length := by simp [bl]
theorem bl_append (a b : List By) : bl (a ++ b) = bl a ++ bl b := by simp [bl]
theorem bl_one (l : List By) : ∀ u ∈ bl l, u.oneCell' = true := by
  intro u hu
  obtain ⟨c, _, rfl⟩ := List.mem_map.1 hu
  rfl
/-- A slice of bytes of the call's own. -/
def OwnB (w : World) (base : Nat) (v : Value) (l : List By) : Prop := w.ownsRow base 5 1 v l.length (bl l)
theorem OwnB.bys {w : World} {base : Nat} {v : Value} {l : List By} (h : OwnB w base v l) : ∃ a c, v = .slice a l.length c ∧ l.length ≤ c ∧ Bys w a l.length l := by
  have hh := h
  obtain ⟨_, h2⟩ := h
  rcases h2 with ⟨rfl, h2⟩ | ⟨g, cap, cur, rfl, hg, hb, hc, _⟩
  · refine ⟨none, 0, by rw [h2], by omega, rfl, fun i c hi => ?_⟩
    have := (List.getElem?_eq_some_iff.1 hi).1
    omega
  · refine ⟨_, _, rfl, hc, rfl, fun i c hi => ⟨g, 0, rfl, (Array.getElem?_eq_some_iff.1 hb).1, ?_⟩⟩
    have := World.ownsRow.cells hh (g := g) rfl i (.int .u8 (c.toNat : Int)) (by simp [bl, hi])
    unfold Addr.add at this
    split at this
    · rename_i e; rw [e]; exact this
    · exact this
theorem own_low {w : World} {base base' : Nat} {e : TypeId} {size : Nat} {v : Value} {n : Nat} {xs : List Value} (h : w.ownsRow base e size v n xs) (hb : base' ≤ base) : w.ownsRow base' e size v n xs := by
  obtain ⟨h1, h2⟩ := h
  refine ⟨h1, ?_⟩
  rcases h2 with h2 | ⟨g, cap, cur, hv, hg, r⟩
  · exact .inl h2
  · exact .inr ⟨g, cap, cur, hv, Nat.le_trans hb hg, r⟩
theorem OwnB.below {w w' : World} {base : Nat} {v : Value} {l : List By} (h : OwnB w base v l) (hb : Below w.heap.size w w') : OwnB w' base v l := by
  obtain ⟨h1, h2⟩ := h
  refine ⟨h1, ?_⟩
  rcases h2 with h2 | ⟨g, cap, cur, hv, hg, hh, r⟩
  · exact .inl h2
  · exact .inr ⟨g, cap, cur, hv, hg, (hb.block g (Array.getElem?_eq_some_iff.1 hh).1).trans hh, r⟩
theorem Bys.cells {w : World} {a : Option Addr} {n : Nat} {l : List By} (h : Bys w a n l) (hn : 0 < n) : ∃ g off, a = some ⟨g, off, none⟩ ∧ g < w.heap.size ∧ ∀ i c, l[i]? = some c → w.cell? ⟨g, off + i, none⟩ = some (.int .u8 (c.toNat : Int)) := by
  obtain ⟨c, hc⟩ : ∃ c, l[0]? = some c := ⟨l[0]'(by rw [h.1]; exact hn), List.getElem?_eq_getElem _⟩
  obtain ⟨g, off, e, hg, _⟩ := h.2 0 c hc
  refine ⟨g, off, e, hg, fun i c hi => ?_⟩
  obtain ⟨g', off', e', _, hc'⟩ := h.2 i c hi
  rw [e] at e'
  injection e' with e'
  injection e' with e1 e2
  subst e1; subst e2
  exact hc'
theorem add_plain (g off j : Nat) : (⟨g, off, none⟩ : Addr).add j = ⟨g, off + j, none⟩ := by
  unfold Addr.add; split
  · rename_i h; subst h; rfl
  · rfl

theorem info5 : (Try.prog.info? 5).map (fun i => (i.zero, i.size, i.bytes)) = some (some (.int .u8 0), 1, 1) := by kernel_rfl

theorem run_append_nil0 (w : World) (base : Nat) (v : Value) (l : List By) (hown : OwnB w base v l) (ty : TypeId) (c : Nat) : (Builtin.append_ #[23, 23] ty #[v, .slice none 0 c]).run Try.prog w = .ok v w := by
  obtain ⟨i0, hi, hz0, hz1, hz2⟩ := info_parts info5
  rcases hown.2 with ⟨rfl, _⟩ | ⟨g, cap, cur, rfl, _, _, hnc, _⟩
  · simp [Builtin.append_, run_underlying Try.underlying23, sizeOf, typeInfo, hi, Builtin.lenOf, Builtin.firstCells]
  · simp [Builtin.append_, run_underlying Try.underlying23, sizeOf, typeInfo, hi, Builtin.lenOf, Builtin.firstCells, hnc, storeCells]

theorem run_append_bys (w : World) (base : Nat) (v : Value) (l : List By) (hown : OwnB w base v l) (ty : TypeId) (A : Option Addr) (m c : Nat) (news : List By) (hr : Bys w A m news)
    (hsz : l.length + m ≤ 1000000000000) (hbase : base ≤ w.heap.size) :
    ∃ v' w', (Builtin.append_ #[23, 23] ty #[v, .slice A m c]).run Try.prog w = .ok v' w' ∧ OwnB w' base v' (l ++ news) ∧ w.grownBy w' v.ownBlock ∧ (v ≠ .slice none 0 0 → v' ≠ .slice none 0 0) := by
  obtain ⟨i0, hi, hz0, hz1, hz2⟩ := info_parts info5
  by_cases hA : ∃ ad, A = some ad
  · obtain ⟨ad, rfl⟩ := hA
    have hnews : ∀ (j : Nat) (u : Value), (bl news)[j]? = some u → w.cell? (ad.add j) = some u := by
      intro j u hu
      obtain ⟨c, hc, rfl⟩ : ∃ c, news[j]? = some c ∧ Value.int .u8 (c.toNat : Int) = u := by
        simp only [bl, List.getElem?_map, Option.map_eq_some_iff] at hu
        exact hu
      obtain ⟨g, off, e, _, hcell⟩ := hr.2 j c hc
      injection e with e
      subst e
      rw [add_plain]; exact hcell
    obtain ⟨v', w', hrun, h2, h3, h4, _⟩ := run_append_own_at (P := Try.prog) w base 23 ty 5 i0 _ 1 1 Try.underlying23 hi hz0 hz1 hz2 rfl (by decide) v l.length (bl l) hown ad m c (bl news) (by rw [bl_len, hr.1]; omega) hnews (bl_one _) (by unfold maxLen; omega) (by omega) hbase
    refine ⟨v', w', hrun, ?_, h3, fun hv e => hv (h4.1 e).1⟩
    unfold OwnB
    rw [List.length_append, hr.1, bl_append]
    exact h2
  · have hA' : A = none := by cases A with
      | none => rfl
      | some ad => exact absurd ⟨ad, rfl⟩ hA
    subst hA'
    have hm : m = 0 := by
      rcases Nat.eq_zero_or_pos m with h | h
      · exact h
      · obtain ⟨g, off, e, _⟩ := hr.cells h
        cases e
    subst hm
    have hn : news = [] := List.eq_nil_of_length_eq_zero hr.1
    subst hn
    exact ⟨v, w, run_append_nil0 w base v l hown ty c, by simpa using hown, World.grownBy.refl w _, fun hv => hv⟩

theorem wp_append_bys {o : Oper} {a : Act} {w : World} {K : Act → World → Prop} {Q : Exit → Act → World → Prop} (s x : Operand)
    (ho : o.op = .call { callee := .builtin .append, args := #[s, x], argTypes := #[23, 23] })
    (base : Nat) (v : Value) (l : List By) (hs : a.eval s = v) (hown : OwnB w base v l) (A : Option Addr) (m c : Nat) (news : List By) (hx : a.eval x = .slice A m c) (hr : Bys w A m news)
    (hsz : l.length + m ≤ 1000000000000) (hbase : base ≤ w.heap.size)
    (h : ∀ v' w', OwnB w' base v' (l ++ news) → w.grownBy w' v.ownBlock → (v ≠ .slice none 0 0 → v' ≠ .slice none 0 0) → K (a.put o.dst v') w') : o.wp Try.prog a w K Q := by
  obtain ⟨v', w', hrun, h2, h3, h4⟩ := run_append_bys w base v l hown o.type A m c news hr hsz hbase
  unfold Oper.wp execOp
  simp only [ho, resolve, invoke, builtin, Sem.run_bind, Sem.run_pure, Result.andThen_ok, List.map_toArray, List.map_cons, List.map_nil, hs, hx, hrun]
  exact h v' w' h2 h3 h4
theorem wpl_append_bys {ops : Array Oper} {rest : List Oper} {o : Oper} {a : Act} {w : World} {Q : Exit → Act → World → Prop} (hgd : o.guard = none) (s x : Operand)
    (ho : o.op = .call { callee := .builtin .append, args := #[s, x], argTypes := #[23, 23] })
    (base : Nat) (v : Value) (l : List By) (hs : a.eval s = v) (hown : OwnB w base v l) (A : Option Addr) (m c : Nat) (news : List By) (hx : a.eval x = .slice A m c) (hr : Bys w A m news)
    (hsz : l.length + m ≤ 1000000000000) (hbase : base ≤ w.heap.size)
    (h : ∀ v' w', OwnB w' base v' (l ++ news) → w.grownBy w' v.ownBlock → (v ≠ .slice none 0 0 → v' ≠ .slice none 0 0) → wpList Try.prog ops Q rest (a.put o.dst v') w') : wpList Try.prog ops Q (o :: rest) a w :=
  wpList_plain hgd fun _ hK => wp_append_bys s x ho base v l hs hown A m c news hx hr hsz hbase fun v' w' h2 h3 h4 => hK _ _ (h v' w' h2 h3 h4)

theorem own_grown {w w' : World} {base B : Nat} {v : Value} {l : List By} (h : OwnB w base v l) (hg : w.grownBy w' v.ownBlock) (hB : B ≤ base) (hz : B ≤ w.heap.size) : Below B w w' :=
  (Below.refl B w).grown hg hz (fun k e => by have := (World.ownsRow.lt h k e).1; omega)
/-- An empty slice that is no nil. -/
theorem own_empty (w : World) : OwnB (w.alloc (.cells #[] 5)) w.heap.size (.slice (some ⟨w.heap.size, 0, none⟩) 0 0) [] :=
  World.ownsRow_made w #[] 0 (Nat.le_refl _) (Nat.zero_le _) rfl

/-! ### Strings of bytes -/
def strOf (l : List By) : ByteArray := ⟨(l.map UInt8.ofBitVec).toArray⟩
theorem str_eq (a b : List By) : ((strOf a).toList == (strOf b).toList) = decide (a = b) := by
  rw [Bool.eq_iff_iff, Lib.bytes_beq_iff, decide_eq_true_eq]
  constructor
  · intro h
    unfold strOf at h
    injection h with h
    have h2 : a.map UInt8.ofBitVec = b.map UInt8.ofBitVec := by simpa using h
    have := congrArg (List.map UInt8.toBitVec) h2
    simpa [List.map_map, Function.comp_def] using this
  · rintro rfl; rfl
theorem run_str (w : World) (a : Option Addr) (n c : Nat) (l : List By) (h : Bys w a n l) : (convert 23 9 (.slice a n c)).run Try.prog w = .ok (.string (strOf l)) w := by
  by_cases hA : ∃ ad, a = some ad
  · obtain ⟨ad, rfl⟩ := hA
    have hl : n = (l.map UInt8.ofBitVec).length := by rw [List.length_map, h.1]
    rw [hl]
    refine run_convert_bytes_back w 23 9 5 ad c (l.map UInt8.ofBitVec) Try.underlying23 Try.underlying5 Try.underlying9 (fun j hj => ?_)
    have hj' : j < l.length := by simpa using hj
    obtain ⟨g, off, e, _, hc⟩ := h.2 j l[j] (List.getElem?_eq_getElem hj')
    injection e with e
    subst e
    rw [add_plain, hc]
    simp
  · have hA' : a = none := by cases a with
      | none => rfl
      | some ad => exact absurd ⟨ad, rfl⟩ hA
    subst hA'
    have hm : n = 0 := by
      rcases Nat.eq_zero_or_pos n with h0 | h0
      · exact h0
      · obtain ⟨g, off, e, _⟩ := h.cells h0
        cases e
    subst hm
    have hn : l = [] := List.eq_nil_of_length_eq_zero h.1
    subst hn
    exact Lib.run_convert_nil_bytes w 23 9 5 c Try.underlying23 Try.underlying5 Try.underlying9
/-- What a slice of bytes is cloned to. -/
theorem clone_c (a : Option Addr) (n c : Nat) (l : List By) (w : World) (h : Bys w a n l) (hn : n ≤ 1000000000) :
    Calls Try.prog 39 #[.slice a n c] w fun e w' => ∃ v, e = .returned v ∧ OwnB w' w.heap.size v l ∧ Below w.heap.size w w' := by
  have hnil := fun (W : World) => Lib.run_eql_slice_nil (P := Try.prog) W 23 5 a n c 0 0 Try.underlying23
  have H := Lib.hid h
  cases a with
  | none =>
    have hl : l = [] := by
      cases l with
      | nil => rfl
      | cons x t => obtain ⟨g, off, e, _⟩ := h.2 0 x rfl; cases e
    subst hl
    have hn0 : n = 0 := h.1.symm
    subst hn0
    clear h
    go_enter Try.func39, Try.ntmps39
    go_wp2_with fail
    go_ret
    exact ⟨_, rfl, ⟨by simp [bl], .inl ⟨rfl, rfl⟩⟩, Below.refl _ _⟩
  | some ad =>
    clear h
    go_enter Try.func39, Try.ntmps39
    go_wp2_with (at_builtin; refine wpl_append_bys rfl _ _ rfl w.heap.size _ [] rfl (own_empty w) (some ad) n c l rfl (H.out.below ((Below.refl _ _).alloc (Nat.le_refl _) _)) ?c1 ?c2 ?_)
    case c1 => simp; omega
    case c2 => simp
    intro v w1 hown hg _
    have hB := ((Below.refl w.heap.size w).alloc (Nat.le_refl _) (.cells #[] 5)).grown hg (by simp) (fun k e => by simp [Value.ownBlock] at e; omega)
    have Hw := Lib.hid hown; clear hown hg
    go_wp2_with fail
    go_ret
    exact ⟨v, rfl, by simpa using Hw.out, hB⟩
theorem own_blk {W : World} {base g n : Nat} {cs : Array Value} {l : List By} (h : Blk W g 5 cs) (hb : base ≤ g) (hc : cs.toList = bl l) (hn : l.length = n) (hm : n ≤ 1000000) : OwnB W base (.slice (some ⟨g, 0, none⟩) n n) l := by
  subst hn
  have hs : cs.size = l.length := by rw [← Array.length_toList, hc, bl_len]
  exact ⟨by rw [bl_len]; omega, .inr ⟨g, l.length, cs, rfl, hb, h, Nat.le_refl _, by unfold maxLen; omega, by rw [hs]; omega, by rw [hc]; exact List.take_of_length_le (by rw [bl_len]; omega)⟩⟩
theorem run_zeros (n : Nat) (h0 : 0 < n) (hn : n ≤ 1000000000) (ty : TypeId) (w : World) :
    ∃ v w', (Builtin.append_ #[23, 3] ty #[.slice none 0 0, .int .i64 n]).run Try.prog w = .ok v w' ∧ (∃ c : Nat, v = .slice (some ⟨w.heap.size, 0, none⟩) n c ∧ n ≤ c ∧ c ≤ maxLen ∧ OwnB w' w.heap.size (.slice (some ⟨w.heap.size, 0, none⟩) 0 c) []) ∧ Below w.heap.size w w' := by
  obtain ⟨i0, hi, hz0, hz1, hz2⟩ := info_parts info5
  have h := Lib.run_append_grow_zeros w 23 3 ty 5 i0 (.int .u8 0) .i64 .i64 Try.underlying23 Try.underlying3 hi hz0 none 0 0 [] (run_firstCells_none w.drew i0.size 0 0 0) n h0 (by omega) (by omega) (by omega) (by rw [hz2]; omega) (growslice_fits (by omega) (by rw [hz2]; omega))
  refine ⟨_, _, h, ⟨_, by rw [Nat.zero_add], by have := grownCap_ge w (0 + n) 0 5; omega, grownCap_le_maxLen w (0 + n) 0 5 (by unfold maxLen; omega), ?_⟩, ?_⟩
  · refine World.ownsRow_made w.drew _ _ (Nat.le_refl _) (grownCap_le_maxLen w (0 + n) 0 5 (by unfold maxLen; omega)) ?_
    have := grownCap_ge w (0 + n) 0 5
    have e1 : (Value.int .u8 0).cells.size = 1 := rfl
    simp only [Builtin.zeroCells, Array.size_append, Array.size_map, Array.size_range, List.size_toArray, List.length_nil, e1]
    omega
  · exact (Below.refl w.heap.size w).drew.alloc (by simp) _

theorem flat_take (ps : List (List By)) (k : Nat) (p : List By) (h : ps[k]? = some p) : (ps.take (k + 1)).flatten = (ps.take k).flatten ++ p := by
  rw [List.take_add_one, h]; simp
theorem flat_le (ps : List (List By)) (k : Nat) : (ps.take k).flatten.length ≤ ps.flatten.length := by
  conv => rhs; rw [← List.take_append_drop k ps]
  rw [List.flatten_append, List.length_append]
  omega

theorem Prs.one {w : World} {a : Option Addr} {n : Nat} {l : List By} (c : Nat) (t : TypeId) (h : Bys w a n l) (hn : n ≤ 1000000000) : Prs (w.alloc (.cells #[.slice a n c] t)) (some ⟨w.heap.size, 0, none⟩) 1 [l] := by
  refine ⟨rfl, fun i p hi => ?_⟩
  have hlt : i < 1 := by have := (List.getElem?_eq_some_iff.1 hi).1; simpa using this
  obtain rfl : i = 0 := by omega
  obtain rfl : l = p := by simpa using hi
  refine ⟨by rw [h.1]; exact hn, w.heap.size, 0, a, c, rfl, by simp, ?_, ?_⟩
  · rw [h.1]; exact blk0 rfl
  · rw [h.1]; exact h.below ((Below.refl _ _).alloc (Nat.le_refl _) _)
theorem Prs.two {w : World} {a a' : Option Addr} {n n' : Nat} {l l' : List By} (c c' : Nat) (t : TypeId) (h : Bys w a n l) (h' : Bys w a' n' l') (hn : n ≤ 1000000000) (hn' : n' ≤ 1000000000) :
    Prs (w.alloc (.cells #[.slice a n c, .slice a' n' c'] t)) (some ⟨w.heap.size, 0, none⟩) 2 [l, l'] := by
  have hb := (Below.refl w.heap.size w).alloc (Nat.le_refl _) (.cells #[.slice a n c, .slice a' n' c'] t)
  refine ⟨rfl, fun i p hi => ?_⟩
  have hlt : i < 2 := by have := (List.getElem?_eq_some_iff.1 hi).1; simpa using this
  rcases (show i = 0 ∨ i = 1 by omega) with rfl | rfl
  · obtain rfl : l = p := by simpa using hi
    refine ⟨by rw [h.1]; exact hn, w.heap.size, 0, a, c, rfl, by simp, ?_, ?_⟩
    · rw [h.1]; exact blk0 rfl
    · rw [h.1]; exact h.below hb
  · obtain rfl : l' = p := by simpa using hi
    refine ⟨by rw [h'.1]; exact hn', w.heap.size, 0, a', c', rfl, by simp, ?_, ?_⟩
    · rw [h'.1]; exact blk0 rfl
    · rw [h'.1]; exact h'.below hb

theorem Bys.lit {W : World} {cs : Array Value} {l : List By} {n : Nat} (t : TypeId) (h : cs.toList = bl l) (hn : l.length = n) : Bys (W.alloc (.cells cs t)) (some ⟨W.heap.size, 0, none⟩) n l := by
  refine ⟨hn, fun i c hi => ⟨W.heap.size, 0, rfl, by simp, ?_⟩⟩
  rw [Nat.zero_add]
  refine blk0 ?_
  rw [← Array.getElem?_toList, h]
  simp [bl, hi]

theorem Bys.take {w : World} {a : Option Addr} {n : Nat} {l : List By} (h : Bys w a n l) (k : Nat) (hk : k ≤ n) : Bys w a k (l.take k) := by
  refine ⟨by rw [List.length_take, h.1]; omega, fun i c hi => ?_⟩
  have hlt := (List.getElem?_eq_some_iff.1 hi).1
  rw [List.length_take] at hlt
  rw [List.getElem?_take, if_pos (by omega)] at hi
  exact h.2 i c hi
theorem Bys.drop {w : World} {a : Addr} {n : Nat} {l : List By} (h : Bys w (some a) n l) (k : Nat) (_ : k ≤ n) : Bys w (some (a.add k)) (n - k) (l.drop k) := by
  refine ⟨by rw [List.length_drop, h.1], fun i c hi => ?_⟩
  rw [List.getElem?_drop] at hi
  obtain ⟨g, off, e, hg, hc⟩ := h.2 (k + i) c hi
  injection e with e
  subst e
  exact ⟨g, off + k, by rw [add_plain], hg, by rw [Nat.add_assoc]; exact hc⟩

theorem Bys.drop2 {w : World} {g n : Nat} {l : List By} (h : Bys w (some ⟨g, 0, none⟩) n l) (k o : Nat) (hk : k ≤ n) (ho : o = k ∨ n - k = 0) : Bys w (some ⟨g, o, none⟩) (n - k) (l.drop k) := by
  rcases ho with rfl | h0
  · have := h.drop o hk
    rwa [add_plain, Nat.zero_add] at this
  · refine ⟨by rw [List.length_drop, h.1], fun i c hi => ?_⟩
    have hlt := (List.getElem?_eq_some_iff.1 hi).1
    rw [List.length_drop, h.1] at hlt
    omega
theorem made_zero (n : Nat) : (madeCells (Value.int .u8 0).cells (n * 1)).toList = bl (List.replicate n 0#8) := by
  have e : (Value.int .u8 0).cells = #[Value.int .u8 0] := rfl
  rw [e, Nat.mul_one]
  apply List.ext_getElem
  · simp [madeCells, bl]
  · intro i h1 h2
    simp [madeCells, bl, Nat.mod_one]
theorem wpl_make_bys {w : World} {ops : Array Oper} {rest : List Oper} {o : Oper} {a : Act} {Q : Exit → Act → World → Prop} (hg : o.guard = none) (l c : Operand) (hop : o.op = Op.makeSlice 23 l c)
    (n : Nat) (L C : Int) (hl : a.eval l = .int .i64 L) (hc : a.eval c = .int .i64 C) (hL : L = (n : Int)) (hC : C = (n : Int)) (hn : n ≤ 1000000000000)
    (hK : ∀ w', OwnB w' w.heap.size (.slice (some ⟨w.heap.size, 0, none⟩) n n) (List.replicate n 0#8) → Below w.heap.size w w' → wpList Try.prog ops Q rest (a.put o.dst (.slice (some ⟨w.heap.size, 0, none⟩) n n)) w') : wpList Try.prog ops Q (o :: rest) a w := by
  obtain ⟨i0, hi, hz0, hz1, hz2⟩ := info_parts info5
  refine wpList_make_full w hg l c 23 hop w.heap.size 5 i0 (.int .u8 0) 1 Try.underlying23 hi hz0 hz1 .i64 .i64 L C n hl hc hL hC (by rw [hz2]; omega) (by unfold maxLen; omega) (Nat.le_refl _) ?_
  intro w' r1 r2
  refine hK w' ?_ ((Below.refl _ _).grown r2 (Nat.le_refl _) (fun k e => by cases e))
  unfold OwnB
  rw [List.length_replicate, ← made_zero]
  exact r1
end Go.Proofs.Ytlgpoaapmgcloaa

