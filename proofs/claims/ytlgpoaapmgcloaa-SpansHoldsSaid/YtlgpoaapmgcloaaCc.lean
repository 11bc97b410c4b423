/- Contracts: a number of a set's bytes; what Read keeps. -/
import Derived.Test.YtlgpoaapmgcloaaCb
namespace Go.Proofs.Ytlgpoaapmgcloaa
open Go.RowKit
set_option linter.unusedSimpArgs false
set_option linter.unusedVariables false
set_option maxRecDepth 100000

/-- A number is taken, or given up. -/
theorem numS_c (X rp : Nat) (s : RS) (w : World) (h : IsRd w rp s) (hl : s.l.length ≤ 1000000000) (hx : w.cell? ⟨X, 0, none⟩ = some (.pointer (some ⟨rp, 0, none⟩))) :
    Calls Try.prog 20 #[.pointer (some ⟨X, 0, none⟩)] w fun e w' => (IsRd w' rp (rnum s 4096).1 ∧ Only rp w w') ∧
      (((rnum s 4096).2.2 = 0 ∧ e = .returned (.int .i64 ((rnum s 4096).2.1 : Int))) ∨ ((rnum s 4096).2.2 ≠ 0 ∧ e = .panicked gaveS)) := by
  have H := Lib.hid h
  have HL := Lib.hid hl
  clear h hl
  go_enter Try.func20, Try.ntmps20
  go_wp2_with fail
  refine (rd_number rp s 4096 w H.out HL.out).mono ?_
  rintro e w2 ⟨rfl, hi, ho⟩
  obtain ⟨r, hr⟩ : ∃ r, r = rnum s 4096 := ⟨_, rfl⟩
  rw [← hr] at hi ⊢
  have HI := Lib.hid hi; have HO := Lib.hid ho; have HR := Lib.hid hr
  clear hi ho hr
  by_cases hz : r.2.2 = 0
  · have q : (r.2.2 == 0) = true := by rw [beq_iff_eq]; exact hz
    go_wp2_with fail
    try rw [q]
    refine (mustS_yes _).mono ?_
    rintro e w' ⟨rfl, rfl⟩
    go_wp2_with fail
    go_ret
    rw [← HR.out]
    exact ⟨⟨HI.out, HO.out⟩, .inl ⟨hz, rfl⟩⟩
  · have q : (r.2.2 == 0) = false := by rw [beq_eq_false_iff_ne]; exact hz
    go_wp2_with fail
    try rw [q]
    refine (mustS_no _).mono ?_
    rintro e w' ⟨rfl, rfl⟩
    refine ⟨rfl, ?_⟩
    rw [← HR.out]
    exact ⟨⟨HI.out, HO.out⟩, .inr ⟨hz, rfl⟩⟩
theorem rnum_len (s : RS) (most : Int) : (rnum s most).1.l.length ≤ s.l.length := by
  unfold rnum
  split
  · simp
  · split
    · simp
    · split
      · simp [RS.fail]
      · simp
theorem rnum_top (s : RS) (most : Int) (hm : 0 ≤ most) : ((rnum s most).2.1 : Int) ≤ most := by
  unfold rnum
  split
  · simpa using hm
  · split
    · simpa using hm
    · split
      · simpa using hm
      · rename_i h; simp only; omega
/-- What Read holds. -/
structure RdSt (w : World) (rp X q : Nat) (s : RS) (v : Value) (acc : List Sp) (W : World) : Prop where
  bs : Blk W w.heap.size 25 #[.pointer (some ⟨q, 0, none⟩)]
  be : Blk W (w.heap.size + 1) 26 #[.int .i64 0]
  rd : IsRd W rp s
  bx : Blk W X 44 #[.pointer (some ⟨rp, 0, none⟩)]
  bq : Blk W q 51 #[v, .bool true]
  own : OwnR W (q + 1) v acc
  bel : Below w.heap.size w W
  lo : w.heap.size + 2 ≤ rp
  hX : rp < X
  hq : X < q
theorem RdSt.below {w W W' : World} {rp X q : Nat} {s : RS} {v : Value} {acc : List Sp} (h : RdSt w rp X q s v acc W) (hb : Below W.heap.size W W') : RdSt w rp X q s v acc W' :=
  ⟨h.bs.below hb h.bs.lt, h.be.below hb h.be.lt, h.rd.below hb, h.bx.below hb h.bx.lt, h.bq.below hb h.bq.lt, h.own.below hb, h.bel.trans (hb.mono h.bel.size), h.lo, h.hX, h.hq⟩
theorem RdSt.num {w W W' : World} {rp X q : Nat} {s s' : RS} {v : Value} {acc : List Sp} (h : RdSt w rp X q s v acc W) (hi : IsRd W' rp s') (ho : Only rp W W') : RdSt w rp X q s' v acc W' := by
  have h1 := h.lo; have h2 := h.hX; have h3 := h.hq
  exact ⟨ho.blk h.bs (by omega), ho.blk h.be (by omega), hi, ho.blk h.bx (by omega), ho.blk h.bq (by omega), h.own.only ho (by omega), h.bel.trans (ho.below h.bel.size (by omega)), h1, h2, h3⟩
/-- Above the set nothing is touched but its row. -/
theorem RdSt.up {w W W' : World} {rp X q : Nat} {s : RS} {v v' : Value} {acc acc' : List Sp} {S : Nat → Prop} (h : RdSt w rp X q s v acc W) (ht : Tch S W W') (hS : ∀ i, S i → q ≤ i) (hb : Blk W' q 51 #[v', .bool true]) (ho : OwnR W' (q + 1) v' acc') : RdSt w rp X q s v' acc' W' := by
  have h1 := h.lo; have h2 := h.hX; have h3 := h.hq
  exact ⟨ht.blk h.bs (fun e => by have := hS _ e; omega), ht.blk h.be (fun e => by have := hS _ e; omega), h.rd.above ht (fun i e => by have := hS _ e; omega), ht.blk h.bx (fun e => by have := hS _ e; omega), hb, ho, h.bel.trans (ht.below h.bel.size (fun i e => by have := hS _ e; omega)), h1, h2, h3⟩
/-- A region out of which one may give up. -/
def PanQ (D : List Deferred) (p2 p3 : Value) (R : List PanicEntry → World → Prop) (Q : Exit → Act → World → Prop) : Exit → Act → World → Prop
  | .normal, a, w => Q .normal a w
  | .panic c, a, w => a.defers = D ∧ a.tmps.getD 2 undef = p2 ∧ a.tmps.getD 3 undef = p3 ∧ R c w
  | _, _, _ => False
theorem PanQ.to {D : List Deferred} {p2 p3 : Value} {R : List PanicEntry → World → Prop} {Q : Exit → Act → World → Prop} (h : ∀ c tm w, tm.getD 2 undef = p2 → tm.getD 3 undef = p3 → R c w → Q (.panic c) { tmps := tm, defers := D } w) : ∀ e a w, PanQ D p2 p3 R Q e a w → Q e a w := by
  intro e a w hp
  cases e with
  | normal => exact hp
  | panic c =>
    obtain ⟨tm, df⟩ := a
    obtain ⟨h1, h2, h3, h4⟩ := hp
    simp only at h1
    subst h1
    exact h c tm w h2 h3 h4
  | _ => exact hp.elim
theorem PanQ.put {D : List Deferred} {p2 p3 : Value} {R : List PanicEntry → World → Prop} {Q : Exit → Act → World → Prop} {d : Nat} {v : Value} {c : List PanicEntry} {a : Act} {w : World} (h2 : d ≠ 2) (h3 : d ≠ 3) (h : PanQ D p2 p3 R Q (.panic c) (a.put (some d) v) w) : PanQ D p2 p3 R Q (.panic c) a w := by
  obtain ⟨e1, e2, e3, e4⟩ := h
  refine ⟨e1, ?_, ?_, e4⟩
  · rw [← e2]; simp [Act.put, Array.getElem?_setIfInBounds, h2]
  · rw [← e3]; simp [Act.put, Array.getElem?_setIfInBounds, h3]
theorem PanQ.norm {D : List Deferred} {p2 p3 : Value} {R : List PanicEntry → World → Prop} {Q : Exit → Act → World → Prop} {a : Act} {w : World} (h : Q .normal a w) : PanQ D p2 p3 R Q .normal a w := h
theorem results5_at {fn : Func} (h : fn.results = #[.cell 2 25, .cell 3 26]) {tm : Array Value} {w : World} {b1 b2 : Nat} {v1 v2 : Value} (h2 : tm.getD 2 undef = .pointer (some ⟨b1, 0, none⟩)) (h3 : tm.getD 3 undef = .pointer (some ⟨b2, 0, none⟩)) (k0 : w.cell? ⟨b1, 0, none⟩ = some v1) (k1 : w.cell? ⟨b2, 0, none⟩ = some v2) :
    (results fn tm).run Try.prog w = .ok (.tuple #[v1, v2]) w := by
  have h2' : tm[2]?.getD undef = .pointer (some ⟨b1, 0, none⟩) := by simpa using h2
  have h3' : tm[3]?.getD undef = .pointer (some ⟨b2, 0, none⟩) := by simpa using h3
  simp [results, h, go_sem, h2', h3', k0, k1]
theorem wp_append_sps {o : Oper} {a : Act} {w : World} {K : Act → World → Prop} {Q : Exit → Act → World → Prop} (s x : Operand) (t t2 : TypeId) (e2 : TypeId)
    (ho : o.op = .call { callee := .builtin .append, args := #[s, x], argTypes := #[t, t2] }) (ht : Try.prog.underlying t = some (.slice 33)) (ht2 : Try.prog.underlying t2 = some (.slice e2))
    (base : Nat) (v : Value) (l : List Sp) (hs : a.eval s = v) (hown : OwnR w base v l) (A : Option Addr) (m c : Nat) (news : List Sp) (hx : a.eval x = .slice A m c) (hr : Sps w A m news)
    (hsz : l.length + m ≤ 1000000000) (hbase : base ≤ w.heap.size)
    (h : ∀ v' w', OwnR w' base v' (l ++ news) → w.grownBy w' v.ownBlock → K (a.put o.dst v') w') : o.wp Try.prog a w K Q := by
  obtain ⟨v', w', hrun, h2, h3⟩ := run_append_sps w base v l hown o.type A m c news hr hsz hbase
  rw [append_on Try.prog 22 t 33 o.type _ _ _ Try.underlying22 ht, ← append_as Try.prog t t2 33 e2 o.type _ _ _ ht ht2] at hrun
  unfold Oper.wp execOp
  simp only [ho, resolve, invoke, builtin, Sem.run_bind, Sem.run_pure, Result.andThen_ok, List.map_toArray, List.map_cons, List.map_nil, hs, hx, hrun]
  exact h v' w' h2 h3
/-- How a failed Read ends. -/
theorem readGone_c (w : World) {rp X q : Nat} {s : RS} {v : Value} {acc : List Sp} {W : World} (h : RdSt w rp X q s v acc W) :
    CallsD Try.prog 18 #[.pointer (some ⟨w.heap.size, 0, none⟩), .pointer (some ⟨w.heap.size + 1, 0, none⟩)] (.panicking gaveS) W fun e u' w' =>
      e = .returned (.tuple #[]) ∧ u' = .panicking [{ v := .iface 26 (.int .i64 270), recovered := true }] ∧ w'.cell? ⟨w.heap.size, 0, none⟩ = some (.pointer none) ∧ w'.cell? ⟨w.heap.size + 1, 0, none⟩ = some (.int .i64 270) ∧ Below w.heap.size w w' := by
  refine (caughtS_c w.heap.size (w.heap.size + 1) _ _ [] W h.bs h.be (by omega)).mono ?_
  rintro e u' wz ⟨rfl, rfl, hbz, hez, htz⟩
  exact ⟨rfl, rfl, hbz.cell (i := 0) rfl, hez.cell (i := 0) rfl, h.bel.trans (htz.below h.bel.size (fun i e => by omega))⟩
end Go.Proofs.Ytlgpoaapmgcloaa
