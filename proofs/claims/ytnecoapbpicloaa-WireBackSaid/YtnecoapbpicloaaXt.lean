/- What the walk of WireStream keeps. -/
import Derived.Test.YtnecoapbpicloaaXs
import Derived.Sort.QuietIn
namespace Go.Proofs.Ytnecoapbpicloaa
open Go.RowKit Go.Shelf
set_option linter.unusedSimpArgs false
set_option linter.unusedVariables false
set_option maxRecDepth 100000

/-! ### A region in a round whose operations only read -/
def noDefer (o : Oper) : Bool := match o.op with | .defer _ => false | _ => true
theorem noDefer_ne {o : Oper} (h : noDefer o = true) : ∀ c, o.op ≠ .defer c := by
  intro c e
  unfold noDefer at h
  rw [e] at h
  cases h
section
variable {P : Program} {n : Nat} {ops : Array Oper} {md : Region.Mode} {Q : Exit → Act → World → Prop} {F : Fence}
theorem oper_round {o : Oper} {a : Act} {w : World} {K : Act → World → Prop} (lr : Nat) (hro : F.round = none) (hd : ∀ c, o.op ≠ .defer c) (h : o.wpIn F n P a w K Q) : o.wpIn (F.inRound lr) n P a w K Q := by
  unfold Oper.wpIn at *
  rw [hro, Oper.semAt_none] at h
  rw [show (F.inRound lr).round = some lr from rfl, Oper.semAt_some _ _ _ hd]
  exact h
theorem any_round (lr : Nat) (hro : F.round = none) (hd : ∀ (i : Nat) (o : Oper), ops[i]? = some o → ∀ c, o.op ≠ .defer c) : ∀ (fuel : Nat) (listed : Array Bool) (a : Act) (w : World),
    wpAnyIn F n P md ops Q fuel listed a w → wpAnyIn (F.inRound lr) n P md ops Q fuel listed a w := by
  intro fuel
  induction fuel with
  | zero => intro listed a w h; exact h
  | succ fuel ih =>
    intro listed a w h
    refine ⟨h.1, fun i hi => ?_⟩
    have h2 := h.2 i hi
    unfold wpOpIn at h2 ⊢
    split
    · rename_i ho
      rw [ho] at h2
      exact ih _ _ _ h2
    · rename_i o ho
      rw [ho] at h2
      simp only at h2
      split
      · rename_i hw
        rw [if_pos hw] at h2
        exact oper_round lr hro (hd i o ho) (Oper.wpIn_mono (fun a w h => ih _ _ _ h) h2)
      · rename_i hw
        rw [if_neg hw] at h2
        exact ⟨h2.1, ih _ _ _ h2.2⟩
theorem region_quiet_round {id : Nat} {a : Act} {w : World} {l : List Oper} {lr : Nat} (hro : F.round = none) (hm : P.follows .mixedOrders = true) (hB : Region.lexB .any l.toArray = true) (hd : l.all noDefer = true)
    (h : wpQuietIn F n P l.toArray (fun w' => ∃ n, w' = w.drewN n) (fun a' => ∀ w', (∃ n, w' = w.drewN n) → Q .normal a' w') l a) : (Code.region id l.toArray true).wpIn (F.inRound lr) n P Q a w := by
  simp only [Region.lexB, Bool.and_eq_true] at hB
  refine wpIn_region_any hm (any_round lr hro (fun i o ho => noDefer_ne (List.all_eq_true.1 hd o (by simpa using List.mem_of_getElem? (l := l) (by simpa using ho)))) _ _ _ _ ?_)
  refine wpAnyIn_of_quiet (C := fun w' => ∃ n, w' = w.drewN n) (Q := fun a' => ∀ w', (∃ n, w' = w.drewN n) → Q .normal a' w') hro (fun _ w' hw' h => h w' hw') _ _ _ _ ⟨1, rfl⟩ ?_
  have := wpAnyQIn_lex (F := F) (n := n) (C := fun w' => ∃ n, w' = w.drewN n) (md := .any) hB.1 l 0 (Array.replicate l.toArray.size false) a (by simp) (by simpa using hB.2) h
  simpa using this
end

theorem und70 : Try.prog.underlying 70 = some (.func #[107] #[] false) := by kernel_rfl
theorem run_eql_func_nil (W : World) (f : FuncId) (cs : Array Value) : (binOp .eql 70 (.func (.func f) #[] cs) .nilFunc).run Try.prog W = .ok (.bool false) W := by
  have h : ∀ d : Nat, (Op.equalIn (d + 1) 70 (.func (.func f) #[] cs) .nilFunc).run Try.prog W = .ok false W := fun d => by
    simp [Op.equalIn, run_underlying und70]
  simp only [binOp]
  simp [Op.equal, Op.maxDepth, h 9999]

theorem OwnF.at_ {W : World} {base : Nat} {u : Value} {fs : List (Nat × Value)} (h : OwnF W base u fs) : ∃ a c, u = .slice a fs.length c ∧ fs.length ≤ c ∧ ∀ (i : Nat) (f : Nat × Value), fs[i]? = some f → ∃ g, a = some ⟨g, 0, none⟩ ∧ W.cell? ⟨g, i * 2, none⟩ = some (.int .i64 (f.1 : Int)) ∧ W.cell? ⟨g, i * 2 + 1, none⟩ = some f.2 := by
  have hh := h
  obtain ⟨_, h2⟩ := h
  rcases h2 with ⟨rfl, h2⟩ | ⟨g, cap, cur, rfl, hg, hb, hc, _⟩
  · refine ⟨none, 0, by rw [h2], by omega, fun i f hi => ?_⟩
    have := (List.getElem?_eq_some_iff.1 hi).1
    omega
  · refine ⟨some ⟨g, 0, none⟩, cap, rfl, hc, fun i f hi => ⟨g, rfl, ?_⟩⟩
    obtain ⟨h0, h1⟩ := fcells_at hi
    have hcc := World.ownsRow.cells hh (g := g) rfl
    have b0 := hcc _ _ h0
    have b1 := hcc _ _ h1
    rw [add_plain, Nat.zero_add] at b0 b1
    exact ⟨b0, b1⟩

/-- What lies while the frames are gone over. -/
structure WSt (w W : World) (B5 Bb : Nat) (many : Int) (u : Value) (fs : List (Nat × Value)) (vm : Value) (A : Option Addr) (C n : Nat) (l : List By) : Prop where
  bel : Below w.heap.size w W
  bm : Boxed W w.heap.size 3 (.int .i64 many)
  br : Boxed W (w.heap.size + 1) 4 (.bool false)
  bw : Boxed W B5 67 u
  row : OwnF W w.heap.size u fs
  bod : Bodies W u fs (partsB l)
  m : OwnB W w.heap.size vm l
  it : FrIt W Bb A n C l
theorem WSt.below {w W W' : World} {B5 Bb : Nat} {many : Int} {u : Value} {fs : List (Nat × Value)} {vm : Value} {A : Option Addr} {C n : Nat} {l : List By}
    (h : WSt w W B5 Bb many u fs vm A C n l) (hb : Below W.heap.size W W') : WSt w W' B5 Bb many u fs vm A C n l :=
  ⟨h.bel.trans (hb.mono h.bel.size), boxed_below h.bm hb h.bm.lt, boxed_below h.br hb h.br.lt, boxed_below h.bw hb h.bw.lt, h.row.below hb, h.bod.below hb, h.m.below hb, h.it.below hb⟩
theorem below_tch {B' : Nat} {Z X Y : World} (h : Below Z.heap.size Z X) (ht : Tch (fun i => False ∨ B' ≤ i) X Y) (hB : Z.heap.size ≤ B') : Below Z.heap.size Z Y :=
  h.trans (ht.below h.size (fun i e => by rcases e with e | e; exact e.elim; omega))
theorem strm_start {w : World} (many : Int) : Boxed ((w.alloc (.cells #[.int .i64 many] 3)).alloc (.cells #[.bool false] 4)) w.heap.size 3 (.int .i64 many) ∧ Boxed ((w.alloc (.cells #[.int .i64 many] 3)).alloc (.cells #[.bool false] 4)) (w.heap.size + 1) 4 (.bool false) ∧ Below w.heap.size w ((w.alloc (.cells #[.int .i64 many] 3)).alloc (.cells #[.bool false] 4)) ∧ ((w.alloc (.cells #[.int .i64 many] 3)).alloc (.cells #[.bool false] 4)).heap.size = w.heap.size + 2 :=
  ⟨(Boxed.new w _ _).alloc _, by have := Boxed.new (w.alloc (.cells #[.int .i64 many] 3)) 4 (.bool false); simpa using this, ((Below.refl _ _).alloc (Nat.le_refl _) _).alloc (by simp) _, by simp⟩
theorem ownF_low {w : World} {base base' : Nat} {v : Value} {fs : List (Nat × Value)} (h : OwnF w base v fs) (hb : base' ≤ base) : OwnF w base' v fs := own_low h hb
theorem own_max {w : World} {base : Nat} {v : Value} {l : List By} (h : OwnB w base v l) : l.length ≤ 9223372036854775807 := by
  rcases h.2 with ⟨_, h3⟩ | ⟨g, cap, cur, e, hg, hb, hc, hm, _⟩
  · omega
  · unfold maxLen at hm; omega
theorem partsFrom_len : ∀ (m : Nat) (l : List By), l.length = m → ∀ off, (partsFrom off l).length ≤ l.length := by
  intro m
  induction m using Nat.strongRecOn with
  | _ m ih =>
    intro l hl off
    have hb := (splitB_bound l).1
    by_cases hs : (splitB l).2.2 ≠ 0 ∨ (splitB l).2.1 = 0
    · rw [partsFrom_stop hs]; simp
    · have h1 : (splitB l).2.2 = 0 := by
        rcases Classical.em ((splitB l).2.2 = 0) with h | h
        · exact h
        · exact absurd (.inl h) hs
      have h2 : (splitB l).2.1 ≠ 0 := fun e => hs (.inr e)
      have hne : l ≠ [] := by intro e; rw [e] at h2; simp [split0] at h2
      have hp : 0 < l.length := List.length_pos_iff.2 hne
      have hlt : (l.drop (splitB l).2.1).length < m := by rw [List.length_drop]; omega
      have := ih _ hlt (l.drop (splitB l).2.1) rfl (off + (splitB l).2.1)
      rw [List.length_drop] at this
      rw [partsFrom_more h1 h2 hne, List.length_cons]
      omega
theorem partsB_len (l : List By) : (partsB l).length ≤ l.length := partsFrom_len _ l rfl 0
end Go.Proofs.Ytnecoapbpicloaa
