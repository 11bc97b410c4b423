/- Watches that are the same. -/
import Derived.Test.YtgajbaipkhopkaaXn
import Derived.DeepKeys
namespace Go.Proofs.Ytgajbaipkhopkaa
open Go.RowKit

theorem cellsO32 : Try.prog.cellsOf 32 = 3 := by kernel_rfl
theorem cellsO33 : Try.prog.cellsOf 33 = 27 := by kernel_rfl
theorem cellsO35 : Try.prog.cellsOf 35 = 31 := by kernel_rfl
theorem cellsO56 : Try.prog.cellsOf 56 = 1 := by kernel_rfl
theorem cellsO58 : Try.prog.cellsOf 58 = 31 := by kernel_rfl
theorem cellsO30 : Try.prog.cellsOf 30 = 1 := by kernel_rfl
def wl (x : Wd) : List Lit := [.int .i64 x.since, .int .i64 x.wait, .bool x.susp]
def pls (s : St) : List Lit := ((List.range 9).map fun p => wl (s.pl p)).flatten
def Wf (n : Int) : Prop := (Lit.int .i64 n).wf = true
theorem wf_mk {n : Int} (h1 : -9223372036854775808 ≤ n) (h2 : n ≤ 9223372036854775807) : Wf n := by
  unfold Wf
  simpa [Lit.wf, IntKind.min, IntKind.max, IntKind.signed, IntKind.bits] using ⟨h1, h2⟩
theorem lits_i64 {t : TypeId} {d : Nat} {n : Int} (ht : Try.prog.underlying t = some (.int .i64)) (h : Wf n) : Try.prog.keyLits (d + 1) t [.int .i64 n] = some [.int .i64 n] := by
  unfold Program.keyLits
  rw [ht]
  exact if_pos ⟨rfl, h⟩
theorem lits_bool {t : TypeId} {d : Nat} {b : Bool} (ht : Try.prog.underlying t = some .bool) : Try.prog.keyLits (d + 1) t [.bool b] = some [.bool b] := by
  unfold Program.keyLits
  rw [ht]
theorem lits_wd {d : Nat} {x : Wd} (h1 : Wf x.since) (h2 : Wf x.wait) : Try.prog.keyLits (d + 2) 32 [.int .i64 x.since, .int .i64 x.wait, .bool x.susp] = some (wl x) := by
  rw [show d + 2 = (d + 1) + 1 from rfl]
  unfold Program.keyLits
  rw [Try.underlying32]
  have e1 := lits_i64 (d := d) (t := 2) Try.underlying2 h1
  have e2 := lits_i64 (d := d) (t := 2) Try.underlying2 h2
  have e3 := lits_bool (d := d) (t := 4) (b := x.susp) Try.underlying4
  simp [cellsO32, cells2, cells4, List.mapM_cons, e1, e2, e3, wl]
theorem mapM_some {α β : Type} (f : α → Option β) (g : α → β) : ∀ (l : List α), (∀ a ∈ l, f a = some (g a)) → l.mapM f = some (l.map g) := by
  intro l
  induction l with
  | nil => intro _; rfl
  | cons a l ih =>
    intro h
    rw [List.mapM_cons, h a (by simp), ih (fun b hb => h b (by simp [hb]))]
    rfl
theorem lits_arr {d : Nat} {s : St} {cs : List Value} (hs : cs.length = 27) (hp : ∀ p, p < 9 → (cs.drop (p * 3)).take 3 = [.int .i64 (s.pl p).since, .int .i64 (s.pl p).wait, .bool (s.pl p).susp])
    (hw : ∀ p, p < 9 → Wf (s.pl p).since ∧ Wf (s.pl p).wait) : Try.prog.keyLits (d + 3) 33 cs = some (pls s) := by
  rw [show d + 3 = (d + 2) + 1 from rfl]
  unfold Program.keyLits
  rw [Try.underlying33]
  show (if cs.length = Try.prog.cellsOf 33 then _ else _) = _
  rw [cellsO33, if_pos hs, cellsO32, mapM_some _ (fun p => wl (s.pl p))]
  · rfl
  · intro p hpm
    have h9 : p < 9 := by simpa using hpm
    rw [hp p h9]
    exact lits_wd (hw p h9).1 (hw p h9).2

theorem take3 {l : List Value} {i : Nat} {a b c : Value} (h0 : l[i]? = some a) (h1 : l[i + 1]? = some b) (h2 : l[i + 2]? = some c) : (l.drop i).take 3 = [a, b, c] := by
  apply List.ext_getElem?
  intro j
  rw [List.getElem?_take]
  rcases (by omega : j = 0 ∨ j = 1 ∨ j = 2 ∨ 3 ≤ j) with rfl | rfl | rfl | h
  · simp [List.getElem?_drop, h0]
  · simp [List.getElem?_drop, h1]
  · simp [List.getElem?_drop, h2]
  · rw [if_neg (by omega), List.getElem?_eq_none (by simp; omega)]
theorem take1 {l : List Value} {i : Nat} {a : Value} (h0 : l[i]? = some a) : (l.drop i).take 1 = [a] := by
  apply List.ext_getElem?
  intro j
  rw [List.getElem?_take]
  rcases (by omega : j = 0 ∨ 1 ≤ j) with rfl | h
  · simp [List.getElem?_drop, h0]
  · rw [if_neg (by omega), List.getElem?_eq_none (by simp; omega)]
/-- Ranges of a state. -/
structure WfS (s : St) : Prop where
  now : Wf s.now
  c : Wf s.c
  self : Wf s.self
  wait : Wf s.wait
  pl : ∀ p, p < 9 → Wf (s.pl p).since ∧ Wf (s.pl p).wait
theorem Good.wf {s : St} (h : Good s) : WfS s := by
  have s1 := h.fair.sane
  have a := s1.c1; have b := s1.c2; have c := s1.now0; have d := s1.now1; have e := h.self0; have f := h.self1; have g := h.fair.w0; have i := h.fair.w1
  refine ⟨wf_mk (by omega) (by omega), wf_mk (by omega) (by omega), wf_mk (by omega) (by omega), wf_mk (by omega) (by omega), fun p _ => ?_⟩
  have j := s1.since0 p; have k := s1.since1 p; have l := h.fair.x0 p; have m := h.fair.x1 p
  exact ⟨wf_mk (by omega) (by omega), wf_mk (by omega) (by omega)⟩
def lit35 (s : St) : List Lit := [.int .i64 s.c, .int .i64 s.self, .int .i64 s.wait, .int .i64 s.now] ++ pls s
def lit58 (s : St) : List Lit := [.int .i64 s.now, .int .i64 s.c, .int .i64 s.self, .int .i64 s.wait] ++ pls s
theorem arr_of {l : List Value} {s : St} (hl : l.length = 31) (hp : ∀ p, p < 9 → l[4 + p * 3]? = some (.int .i64 (s.pl p).since) ∧ l[4 + p * 3 + 1]? = some (.int .i64 (s.pl p).wait) ∧ l[4 + p * 3 + 2]? = some (.bool (s.pl p).susp)) (hw : WfS s) (d : Nat) :
    Try.prog.keyLits (d + 3) 33 ((l.drop 4).take 27) = some (pls s) := by
  refine lits_arr (by simp; omega) (fun p h9 => ?_) hw.pl
  rw [List.drop_take, List.take_take, List.drop_drop, Nat.min_eq_left (by omega)]
  obtain ⟨a, b, c⟩ := hp p h9
  exact take3 a b c
theorem lits35 {cs : Array Value} {s : St} (h : RC cs s) (hw : WfS s) (d : Nat) : Try.prog.keyLits (d + 4) 35 cs.toList = some (lit35 s) := by
  have hl : cs.toList.length = 31 := by simpa using h.size
  have g : ∀ {i : Nat} {v : Value}, cs[i]? = some v → cs.toList[i]? = some v := fun h => by simpa using h
  have e0 := lits_i64 (d := d + 2) (t := 3) Try.underlying3 hw.c
  have e1 := lits_i64 (d := d + 2) (t := 3) Try.underlying3 hw.self
  have e2 := lits_i64 (d := d + 2) (t := 2) Try.underlying2 hw.wait
  have e3 := lits_i64 (d := d + 2) (t := 2) Try.underlying2 hw.now
  have e4 := arr_of hl (fun p hp => ⟨g (h.since p hp), g (h.waits p hp), g (h.susp p hp)⟩) hw d
  have t0 := take1 (g h.c)
  have t1 := take1 (g h.self)
  have t2 := take1 (g h.wait)
  have t3 := take1 (g h.now)
  rw [show d + 4 = (d + 3) + 1 from rfl]
  unfold Program.keyLits
  rw [Try.underlying35]
  generalize cs.toList = l at hl e4 t0 t1 t2 t3
  show (if l.length = Try.prog.cellsOf 35 ∧ _ then _ else _) = _
  rw [cellsO35, if_pos ⟨hl, by kernel_rfl⟩]
  simp only [List.mapM_cons, List.mapM_nil, cells3, cells2, cellsO33, t0, t1, t2, t3, e0, e1, e2, e3, e4]
  rfl
theorem lits56 {d : Nat} {n : Int} (h : Wf n) : Try.prog.keyLits (d + 2) 56 [.int .i64 n] = some [.int .i64 n] := by
  rw [show d + 2 = (d + 1) + 1 from rfl]
  unfold Program.keyLits
  rw [Try.underlying56]
  have e1 := lits_i64 (d := d) (t := 2) Try.underlying2 h
  simp [cellsO56, cells2, List.mapM_cons, e1]
theorem lits58 {cs : Array Value} {s : St} (h : WCells cs s) (hw : WfS s) (d : Nat) : Try.prog.keyLits (d + 4) 58 cs.toList = some (lit58 s) := by
  have hl : cs.toList.length = 31 := by simpa using h.size
  have g : ∀ {i : Nat} {v : Value}, cs[i]? = some v → cs.toList[i]? = some v := fun h => by simpa using h
  have e0 := lits56 (d := d + 1) hw.now
  have e1 := lits_i64 (d := d + 2) (t := 30) Try.underlying30 hw.c
  have e2 := lits_i64 (d := d + 2) (t := 3) Try.underlying3 hw.self
  have e3 := lits_i64 (d := d + 2) (t := 2) Try.underlying2 hw.wait
  have e4 := arr_of hl (fun p hp => ⟨g (h.since p hp), g (h.waits p hp), g (h.susp p hp)⟩) hw d
  have t0 := take1 (g h.now)
  have t1 := take1 (g h.c)
  have t2 := take1 (g h.self)
  have t3 := take1 (g h.wait)
  rw [show d + 4 = (d + 3) + 1 from rfl]
  unfold Program.keyLits
  rw [Try.underlying58]
  generalize cs.toList = l at hl e4 t0 t1 t2 t3
  show (if l.length = Try.prog.cellsOf 58 ∧ _ then _ else _) = _
  rw [cellsO58, if_pos ⟨hl, by kernel_rfl⟩]
  simp only [List.mapM_cons, List.mapM_nil, cellsO56, cellsO30, cells3, cells2, cellsO33, t0, t1, t2, t3, e0, e1, e2, e3, e4]
  rfl
theorem lit_iff (s s' : St) : lit58 s = lit58 s' ↔ lit35 s = lit35 s' := by
  unfold lit58 lit35
  simp
  constructor
  · rintro ⟨a, b, c, d, e⟩; exact ⟨b, c, d, a, e⟩
  · rintro ⟨a, b, c, d, e⟩; exact ⟨d, a, b, c, e⟩
/-- Are two states the same? -/
def sameB (s s' : St) : Bool := decide (s.c = s'.c) && decide (s.self = s'.self) && decide (s.wait = s'.wait) && decide (s.now = s'.now) &&
  (List.range 9).all fun p => decide ((s.pl p).since = (s'.pl p).since) && decide ((s.pl p).wait = (s'.pl p).wait) && decide ((s.pl p).susp = (s'.pl p).susp)
theorem sameB_iff (s s' : St) : sameB s s' = true ↔ lit35 s = lit35 s' := by
  have hr : List.range 9 = [0, 1, 2, 3, 4, 5, 6, 7, 8] := by decide
  unfold sameB lit35 pls
  rw [hr]
  simp [wl, and_assoc]
theorem sameB_self (s : St) : sameB s s = true := (sameB_iff s s).2 rfl
theorem eq35 {cs cs' : Array Value} {s s' : St} (h : RC cs s) (h' : RC cs' s') (hw : WfS s) (hw' : WfS s') (w : World) : (Op.equalIn 10000 35 (.agg cs) (.agg cs')).run Try.prog w = .ok (sameB s s') w := by
  obtain ⟨r, hr, hi⟩ := run_equalIn_deep (P := Try.prog) 9996 4 35 (by kernel_rfl) w 4 4 (.agg cs) (.agg cs') (lit35 s) (lit35 s')
    (by simp [Value.formed, Try.underlying35, cellsO35, h.size]) (by simp [Value.formed, Try.underlying35, cellsO35, h'.size]) (lits35 h hw 0) (lits35 h' hw' 0)
  have e : r = sameB s s' := by rw [Bool.eq_iff_iff, sameB_iff]; exact hi
  rw [← e]; exact hr
theorem eq58 {cs cs' : Array Value} {s s' : St} (h : WCells cs s) (h' : WCells cs' s') (hw : WfS s) (hw' : WfS s') (w : World) : (Op.equalIn 10000 58 (.agg cs) (.agg cs')).run Try.prog w = .ok (sameB s s') w := by
  obtain ⟨r, hr, hi⟩ := run_equalIn_deep (P := Try.prog) 9996 4 58 (by kernel_rfl) w 4 4 (.agg cs) (.agg cs') (lit58 s) (lit58 s')
    (by simp [Value.formed, Try.underlying58, cellsO58, h.size]) (by simp [Value.formed, Try.underlying58, cellsO58, h'.size]) (lits58 h hw 0) (lits58 h' hw' 0)
  have e : r = sameB s s' := by rw [Bool.eq_iff_iff, sameB_iff, ← lit_iff]; exact hi
  rw [← e]; exact hr
theorem run_eql35 {cs cs' : Array Value} {s s' : St} (h : RC cs s) (h' : RC cs' s') (hw : WfS s) (hw' : WfS s') (w : World) : (binOp .eql 35 (.agg cs) (.agg cs')).run Try.prog w = .ok (.bool (sameB s s')) w := by
  rw [run_eql_struct, eq35 h h' hw hw']; rfl
theorem run_eql58 {cs cs' : Array Value} {s s' : St} (h : WCells cs s) (h' : WCells cs' s') (hw : WfS s) (hw' : WfS s') (w : World) : (binOp .eql 58 (.agg cs) (.agg cs')).run Try.prog w = .ok (.bool (sameB s s')) w := by
  rw [run_eql_struct, eq58 h h' hw hw']; rfl
end Go.Proofs.Ytgajbaipkhopkaa
