/- Rows of calls, rows of numbers; what the walk of WireBack keeps. -/
import Derived.Test.YtnecoapbpicloaaXx
namespace Go.Proofs.Ytnecoapbpicloaa
open Go.RowKit
set_option linter.unusedSimpArgs false
set_option linter.unusedVariables false
set_option maxRecDepth 100000

theorem Tch.row {S : Nat → Prop} {w w' : World} {base : Nat} {e : TypeId} {size : Nat} {v : Value} {n : Nat} {xs : List Value} (h : Tch S w w') (ho : w.ownsRow base e size v n xs) (hv : ∀ i, v.ownBlock = some i → ¬ S i) : w'.ownsRow base e size v n xs := by
  obtain ⟨h1, h2⟩ := ho
  refine ⟨h1, ?_⟩
  rcases h2 with h2 | ⟨g, cap, cur, e, hg, hh, r⟩
  · exact .inl h2
  · exact .inr ⟨g, cap, cur, e, hg, (h.block g (Array.getElem?_eq_some_iff.1 hh).1 (hv g (by rw [e]; rfl))).trans hh, r⟩
theorem rows_ne {w : World} {base base' : Nat} {e e' : TypeId} {size size' : Nat} {v v' : Value} {n n' : Nat} {xs xs' : List Value} (h : w.ownsRow base e size v n xs) (h' : w.ownsRow base' e' size' v' n' xs') (he : e ≠ e') : ∀ i, v.ownBlock = some i → v'.ownBlock ≠ some i := by
  intro i hi hi'
  rcases h.2 with ⟨rfl, _⟩ | ⟨g, cap, cur, rfl, _, hg, _⟩
  · simp [Value.ownBlock] at hi
  · rcases h'.2 with ⟨rfl, _⟩ | ⟨g', cap', cur', rfl, _, hg', _⟩
    · simp [Value.ownBlock] at hi'
    · simp [Value.ownBlock] at hi hi'
      subst hi; subst hi'
      rw [hg] at hg'
      simp at hg'
      exact he hg'.2

/-! ### Rows of calls -/
theorem infoAct : (Try.prog.info? 30).map (fun i => (i.zero, i.size, i.bytes)) = some (some (.agg #[.int .i64 0, .slice none 0 0, .string ⟨#[]⟩, .bool false]), 4, 56) := by kernel_rfl
def acells (ds : List WAct) : List Value := ds.flatMap fun x => [.int .i64 x.what, .slice x.a x.n x.c, .string x.text, .bool x.truth]
theorem acells_len (ds : List WAct) : (acells ds).length = ds.length * 4 := by
  induction ds with
  | nil => rfl
  | cons f t ih => simp [acells] at ih ⊢; omega
theorem acells_append (a b : List WAct) : acells (a ++ b) = acells a ++ acells b := by simp [acells]
theorem acells_at {ds : List WAct} {i : Nat} {x : WAct} (h : ds[i]? = some x) : (acells ds)[i * 4]? = some (.int .i64 x.what) ∧ (acells ds)[i * 4 + 1]? = some (.slice x.a x.n x.c) ∧ (acells ds)[i * 4 + 2]? = some (.string x.text) ∧ (acells ds)[i * 4 + 3]? = some (.bool x.truth) := by
  induction ds generalizing i with
  | nil => simp at h
  | cons y t ih =>
    cases i with
    | zero =>
      simp at h
      subst h
      exact ⟨rfl, rfl, rfl, rfl⟩
    | succ i =>
      simp at h
      obtain ⟨h1, h2, h3, h4⟩ := ih h
      have e : acells (y :: t) = [.int .i64 y.what, .slice y.a y.n y.c, .string y.text, .bool y.truth] ++ acells t := rfl
      have hr : ∀ j, (acells (y :: t))[j + 4]? = (acells t)[j]? := fun j => by rw [e, List.getElem?_append_right (by simp)]; simp
      refine ⟨?_, ?_, ?_, ?_⟩
      · rw [show (i + 1) * 4 = i * 4 + 4 from by omega, hr]; exact h1
      · rw [show (i + 1) * 4 + 1 = (i * 4 + 1) + 4 from by omega, hr]; exact h2
      · rw [show (i + 1) * 4 + 2 = (i * 4 + 2) + 4 from by omega, hr]; exact h3
      · rw [show (i + 1) * 4 + 3 = (i * 4 + 3) + 4 from by omega, hr]; exact h4
def OwnA (w : World) (base : Nat) (u : Value) (ds : List WAct) : Prop := w.ownsRow base 30 4 u ds.length (acells ds)
theorem OwnA.nil (w : World) (base : Nat) : OwnA w base (.slice none 0 0) [] := ⟨rfl, .inl ⟨rfl, rfl⟩⟩
theorem OwnA.at_ {W : World} {base : Nat} {u : Value} {ds : List WAct} (h : OwnA W base u ds) : ∃ a c, u = .slice a ds.length c ∧ ∀ (i : Nat) (x : WAct), ds[i]? = some x → ∃ g, a = some ⟨g, 0, none⟩ ∧ W.cell? ⟨g, i * 4, none⟩ = some (.int .i64 x.what) ∧ W.cell? ⟨g, i * 4 + 1, none⟩ = some (.slice x.a x.n x.c) ∧ W.cell? ⟨g, i * 4 + 2, none⟩ = some (.string x.text) ∧ W.cell? ⟨g, i * 4 + 3, none⟩ = some (.bool x.truth) := by
  have hh := h
  obtain ⟨_, h2⟩ := h
  rcases h2 with ⟨rfl, h2⟩ | ⟨g, cap, cur, rfl, hg, hb, hc, _⟩
  · refine ⟨none, 0, by rw [h2], fun i f hi => ?_⟩
    have := (List.getElem?_eq_some_iff.1 hi).1
    omega
  · refine ⟨some ⟨g, 0, none⟩, cap, rfl, fun i f hi => ⟨g, rfl, ?_⟩⟩
    obtain ⟨h0, h1, h2, h3⟩ := acells_at hi
    have hcc := World.ownsRow.cells hh (g := g) rfl
    have b0 := hcc _ _ h0
    have b1 := hcc _ _ h1
    have b2 := hcc _ _ h2
    have b3 := hcc _ _ h3
    rw [add_plain, Nat.zero_add] at b0 b1 b2 b3
    exact ⟨b0, b1, b2, b3⟩
theorem wpl_append_act {ops : Array Oper} {rest : List Oper} {o : Oper} {a : Act} {w : World} {Q : Exit → Act → World → Prop} (hgd : o.guard = none) (s x : Operand)
    (ho : o.op = .call { callee := .builtin .append, args := #[s, x], argTypes := #[45, 45] })
    (base : Nat) (v : Value) (ds : List WAct) (hs : a.eval s = v) (hown : OwnA w base v ds) (g : Nat) (y : WAct) (hx : a.eval x = .slice (some ⟨g, 0, none⟩) 1 1)
    (h0 : w.cell? ⟨g, 0, none⟩ = some (.int .i64 y.what)) (h1 : w.cell? ⟨g, 1, none⟩ = some (.slice y.a y.n y.c)) (h2 : w.cell? ⟨g, 2, none⟩ = some (.string y.text)) (h3 : w.cell? ⟨g, 3, none⟩ = some (.bool y.truth))
    (hsz : ds.length ≤ 1000000) (hbase : base ≤ w.heap.size)
    (h : ∀ v' w', OwnA w' base v' (ds ++ [y]) → Tch (fun i => v.ownBlock = some i) w w' → wpList Try.prog ops Q rest (a.put o.dst v') w') : wpList Try.prog ops Q (o :: rest) a w := by
  obtain ⟨i0, hi, hz0, hz1, hz2⟩ := info_parts infoAct
  obtain ⟨v', w', hrun, k2, k3, k4, k5⟩ := run_append_own_at (P := Try.prog) w base 45 o.type 30 i0 _ 4 56 Try.underlying45 hi hz0 hz1 hz2 rfl (by decide) v ds.length (acells ds) hown ⟨g, 0, none⟩ 1 1 (acells [y]) rfl
    (by
      intro j u hu
      rw [add_plain]
      match j with
      | 0 => simp [acells] at hu; subst hu; exact h0
      | 1 => simp [acells] at hu; subst hu; exact h1
      | 2 => simp [acells] at hu; subst hu; exact h2
      | 3 => simp [acells] at hu; subst hu; exact h3
      | k + 4 => simp [acells] at hu)
    (by
      intro u hu
      simp [acells] at hu
      rcases hu with rfl | rfl | rfl | rfl <;> rfl) (by unfold maxLen; omega) (by omega) hbase
  refine wpList_plain hgd fun K hK => ?_
  unfold Oper.wp execOp
  simp only [ho, resolve, invoke, builtin, Sem.run_bind, Sem.run_pure, Result.andThen_ok, List.map_toArray, List.map_cons, List.map_nil, hs, hx, hrun]
  refine hK _ _ (h v' w' ?_ (Tch.of_grown k3))
  unfold OwnA
  rw [List.length_append, acells_append]
  exact k2

/-! ### Rows of numbers -/
theorem infoInt : (Try.prog.info? 3).map (fun i => (i.zero, i.size, i.bytes)) = some (some (.int .i64 0), 1, 8) := by kernel_rfl
def nucells (ns : List Nat) : List Value := ns.map fun (n : Nat) => Value.int .i64 (n : Int)
def OwnN (w : World) (base : Nat) (u : Value) (ns : List Nat) : Prop := w.ownsRow base 3 1 u ns.length (nucells ns)
theorem OwnN.nil (w : World) (base : Nat) : OwnN w base (.slice none 0 0) [] := ⟨rfl, .inl ⟨rfl, rfl⟩⟩
theorem OwnN.at_ {W : World} {base : Nat} {u : Value} {ns : List Nat} (h : OwnN W base u ns) : ∃ a c, u = .slice a ns.length c ∧ ∀ (i x : Nat), ns[i]? = some x → ∃ g, a = some ⟨g, 0, none⟩ ∧ W.cell? ⟨g, i, none⟩ = some (.int .i64 (x : Int)) := by
  have hh := h
  obtain ⟨_, h2⟩ := h
  rcases h2 with ⟨rfl, h2⟩ | ⟨g, cap, cur, rfl, hg, hb, hc, _⟩
  · refine ⟨none, 0, by rw [h2], fun i f hi => ?_⟩
    have := (List.getElem?_eq_some_iff.1 hi).1
    omega
  · refine ⟨some ⟨g, 0, none⟩, cap, rfl, fun i x hi => ⟨g, rfl, ?_⟩⟩
    have b0 := World.ownsRow.cells hh (g := g) rfl i (.int .i64 (x : Int)) (by simp [nucells, hi])
    rw [add_plain, Nat.zero_add] at b0
    exact b0
theorem wpl_append_num {ops : Array Oper} {rest : List Oper} {o : Oper} {a : Act} {w : World} {Q : Exit → Act → World → Prop} (hgd : o.guard = none) (s x : Operand)
    (ho : o.op = .call { callee := .builtin .append, args := #[s, x], argTypes := #[86, 86] })
    (base : Nat) (v : Value) (ns : List Nat) (hs : a.eval s = v) (hown : OwnN w base v ns) (g : Nat) (y : Nat) (hx : a.eval x = .slice (some ⟨g, 0, none⟩) 1 1)
    (h0 : w.cell? ⟨g, 0, none⟩ = some (.int .i64 (y : Int)))
    (hsz : ns.length ≤ 1000000) (hbase : base ≤ w.heap.size)
    (h : ∀ a' c' w', OwnN w' base (.slice a' (ns.length + 1) c') (ns ++ [y]) → Tch (fun i => v.ownBlock = some i) w w' → wpList Try.prog ops Q rest (a.put o.dst (.slice a' (ns.length + 1) c')) w') : wpList Try.prog ops Q (o :: rest) a w := by
  obtain ⟨i0, hi, hz0, hz1, hz2⟩ := info_parts infoInt
  obtain ⟨v', w', hrun, k2, k3, k4, k5⟩ := run_append_own_at (P := Try.prog) w base 86 o.type 3 i0 _ 1 8 Try.underlying86 hi hz0 hz1 hz2 rfl (by decide) v ns.length (nucells ns) hown ⟨g, 0, none⟩ 1 1 (nucells [y]) rfl
    (by
      intro j u hu
      rw [add_plain]
      match j with
      | 0 => simp [nucells] at hu; subst hu; exact h0
      | k + 1 => simp [nucells] at hu)
    (by
      intro u hu
      simp [nucells] at hu
      subst hu
      rfl) (by unfold maxLen; omega) (by omega) hbase
  have ho9 : OwnN w' base v' (ns ++ [y]) := by
    unfold OwnN
    have e : nucells (ns ++ [y]) = nucells ns ++ nucells [y] := by simp [nucells]
    rw [List.length_append, e]
    exact k2
  obtain ⟨a', c', e, -⟩ := ho9.at_
  have e2 : (ns ++ [y]).length = ns.length + 1 := by simp
  rw [e2] at e
  subst e
  refine wpList_plain hgd fun K hK => ?_
  unfold Oper.wp execOp
  simp only [ho, resolve, invoke, builtin, Sem.run_bind, Sem.run_pure, Result.andThen_ok, List.map_toArray, List.map_cons, List.map_nil, hs, hx, hrun]
  exact hK _ _ (h a' c' w' ho9 (Tch.of_grown k3))

/-! ### What the walk keeps -/
structure DSt (w0 W : World) (p : Nat) (v u : Value) (l : List By) (ds : List WAct) : Prop where
  wr : IsWr W p v l
  ow : OwnA W (p + 1) u ds
  bel : Below w0.heap.size w0 W
  hp : w0.heap.size ≤ p
  good : ∀ (i : Nat) (x : WAct), ds[i]? = some x → (laidA x).2 = 0 ∧ x.n ≤ 20 ∧ x.text.size ≤ 200 ∧ I64s w0 x.a x.n x.zs
theorem DSt.ws {w0 W : World} {p : Nat} {v u : Value} {l : List By} {ds : List WAct} (h : DSt w0 W p v u l ds) : ∀ i, WS p v i → w0.heap.size ≤ i := by
  rintro i (rfl | e)
  · exact h.hp
  · have := (own_lt h.wr.2 i e).1; have := h.hp; omega
theorem DSt.lay {w0 W W' : World} {p : Nat} {v v' u : Value} {l l' : List By} {ds : List WAct} (h : DSt w0 W p v u l ds) (hw : IsWr W' p v' l') (ht : Tch (WS p v) W W') : DSt w0 W' p v' u l' ds := by
  refine ⟨hw, ht.row h.ow ?_, h.bel.trans (ht.below h.bel.size h.ws), h.hp, h.good⟩
  rintro i e (rfl | e')
  · have := (World.ownsRow.lt h.ow i e).1; omega
  · exact rows_ne h.ow (h.wr.2 : W.ownsRow _ 5 _ _ _ _) (by decide) i e e'
theorem DSt.more {w0 W W' : World} {p : Nat} {v u u' : Value} {l : List By} {ds ds' : List WAct} (h : DSt w0 W p v u l ds) (ho : OwnA W' (p + 1) u' ds') (ht : Tch (fun i => u.ownBlock = some i) W W')
    (hg : ∀ (i : Nat) (x : WAct), ds'[i]? = some x → (laidA x).2 = 0 ∧ x.n ≤ 20 ∧ x.text.size ≤ 200 ∧ I64s w0 x.a x.n x.zs) : DSt w0 W' p v u' l ds' := by
  refine ⟨h.wr.tch ht ?_ ?_, ho, h.bel.trans (ht.below h.bel.size ?_), h.hp, hg⟩
  · intro e; have := (World.ownsRow.lt h.ow _ e).1; omega
  · intro i e e'; exact rows_ne h.ow (h.wr.2 : W.ownsRow _ 5 _ _ _ _) (by decide) i e' e
  · intro i e; have := (World.ownsRow.lt h.ow i e).1; have := h.hp; omega
theorem DSt.below {w0 W W' : World} {p : Nat} {v u : Value} {l : List By} {ds : List WAct} (h : DSt w0 W p v u l ds) (hb : Below W.heap.size W W') : DSt w0 W' p v u l ds :=
  ⟨h.wr.below hb, (Tch.of_below hb (Nat.le_refl _) (fun _ => False)).row h.ow (fun _ _ e => e), h.bel.trans (hb.mono h.bel.size), h.hp, h.good⟩
/-- Up to where each frame goes. -/
def endsL (ss : List ByteArray) (k : Nat) : List Nat := (List.range k).map fun j => (jn (ss.take (j + 1))).length
theorem endsL_succ (ss : List ByteArray) (k : Nat) : endsL ss (k + 1) = endsL ss k ++ [(jn (ss.take (k + 1))).length] := by simp [endsL, List.range_succ]
theorem endsL_len (ss : List ByteArray) (k : Nat) : (endsL ss k).length = k := by simp [endsL]
theorem endsL_at {ss : List ByteArray} {n k : Nat} (h : k < n) : (endsL ss n)[k]? = some (jn (ss.take (k + 1))).length := by simp [endsL, h]
/-- A slice's first bytes. -/
theorem slice_hi {W : World} {base : Nat} {a : Option Addr} {n c j : Nat} {l : List By} (h : OwnB W base (.slice a n c) l) (hl : l.length = n) (hj : j ≤ n) (hc : n ≤ c) :
    ∃ C, (∀ W', (Instr.sliceAt 22 (.slice a n c) none (some (.int .i64 (j : Int))) none).run Try.prog W' = .ok (.slice a j C) W') ∧ OwnB W base (.slice a j C) (l.take j) ∧ j ≤ C := by
  have q1 : ¬ (c : Int) < (j : Int) := by omega
  have q3 : (j : Int) ≤ c := by omega
  have q4 : (0 : Int) ≤ j := by omega
  cases a with
  | none =>
    rcases h.2 with ⟨e, _⟩ | ⟨g, cap, cur, e, _⟩
    · injection e with _ e1 e2
      subst e1; subst e2
      obtain rfl : j = 0 := by omega
      refine ⟨0, fun W' => ?_, by have := h.take hl 0 (Nat.le_refl _); exact this, Nat.le_refl _⟩
      go_simp
    · cases e
  | some x =>
    refine ⟨c, fun W' => ?_, h.take hl j hj, by omega⟩
    go_simp
structure CSt (w W : World) (R F E : Nat) (fv ew : Value) (ends : List Nat) (vm : Value) (L : List By) (Bb : Nat) (A : Option Addr) (C n : Nat) (l : List By) : Prop where
  bel : Below w.heap.size w W
  br : Boxed W R 4 (.bool false)
  bf : Boxed W F 75 fv
  be : Boxed W E 86 ew
  en : OwnN W w.heap.size ew ends
  m : OwnB W w.heap.size vm L
  it : FrIt W Bb A n C l
/-- .. behind stores into a number's box that is newer than the row of numbers. -/
theorem CSt.box {w W W' : World} {R F E N : Nat} {fv ew : Value} {ends : List Nat} {vm : Value} {L : List By} {Bb : Nat} {A : Option Addr} {C n : Nat} {l : List By} {z : Int}
    (h : CSt w W R F E fv ew ends vm L Bb A C n l) (hN : Boxed W N 3 (.int .i64 z)) (hw : w.heap.size ≤ N) (hew : ∀ i, ew.ownBlock = some i → i < N) (ht : Tch (fun i => i = N ∨ W.heap.size ≤ i) W W') : CSt w W' R F E fv ew ends vm L Bb A C n l := by
  have far : ∀ i, i < W.heap.size → i ≠ N → ¬ (i = N ∨ W.heap.size ≤ i) := fun i h1 h2 e => by rcases e with e | e; exact h2 e; omega
  have fbx : ∀ {B t v}, Boxed W B t v → t ≠ 3 → ¬ (B = N ∨ W.heap.size ≤ B) := fun hb ht => far _ hb.lt (Boxed.ne hb hN ht)
  exact ⟨h.bel.trans (ht.below h.bel.size (fun i e => by rcases e with e | e; omega; have := h.bel.size; omega)), ht.boxed h.br (fbx h.br (by decide)), ht.boxed h.bf (fbx h.bf (by decide)), ht.boxed h.be (fbx h.be (by decide)),
    ht.row h.en (fun i e => far i (World.ownsRow.lt h.en i e).2 (by have := hew i e; omega)), ht.own h.m (fun i e => far i (own_lt h.m i e).2 (own_box hN h.m i e)), ht.boxed h.it.box (fbx h.it.box (by decide)), ht.own h.it.own (fun i e => far i (own_lt h.it.own i e).2 (own_box hN h.it.own i e)), h.it.cap⟩
theorem CSt.below {w W W' : World} {R F E : Nat} {fv ew : Value} {ends : List Nat} {vm : Value} {L : List By} {Bb : Nat} {A : Option Addr} {C n : Nat} {l : List By}
    (h : CSt w W R F E fv ew ends vm L Bb A C n l) (hb : Below W.heap.size W W') : CSt w W' R F E fv ew ends vm L Bb A C n l :=
  ⟨h.bel.trans (hb.mono h.bel.size), boxed_below h.br hb h.br.lt, boxed_below h.bf hb h.bf.lt, boxed_below h.be hb h.be.lt, (Tch.of_below hb (Nat.le_refl _) (fun _ => False)).row h.en (fun _ _ e => e), h.m.below hb, h.it.below hb⟩
end Go.Proofs.Ytnecoapbpicloaa
