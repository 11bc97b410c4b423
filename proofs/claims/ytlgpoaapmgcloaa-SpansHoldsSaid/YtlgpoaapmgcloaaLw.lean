/- What the laws' proofs share. -/
import Derived.Test.YtlgpoaapmgcloaaBz
import Derived.ProofKit
import Derived.OpenShut
import Derived.ShutString
import Derived.ChangeOld
import Derived.Deep.Matrix
import Derived.DeepKeys
namespace Go.Proofs.Ytlgpoaapmgcloaa
open Go.RowKit
open Go.ChangeShapes Go.WideShapes Go.ChangeAt
open Go.ChangeMaps (open_string shut_string)
set_option linter.unusedSimpArgs false
set_option linter.unusedVariables false
set_option maxRecDepth 100000

theorem own : ownKnob Try.prog.godebug = none := by kernel_rfl
theorem laidOut : laidOutB Try.prog = true := by kernel_rfl

/-- A slice of integers that came in: nil, or a row of cells. -/
def IsRow (k : IntKind) (w : World) (a : Option Addr) (len cap : Nat) (zs : List Int) : Prop :=
  (a = none ∧ len = 0 ∧ cap = 0 ∧ zs = []) ∨
  ∃ x, a = some x ∧ len ≤ cap ∧ cap ≤ maxLen ∧ zs.length = cap ∧ (∀ i, i < zs.length → w.cell? (x.add i) = some (.int k (zs.getD i 0))) ∧ ∀ n ∈ zs, (Lit.int k n).wf = true

theorem wf_word {n : Int} (h : (Lit.int .u32 n).wf = true) : ∃ x : BitVec 32, n = (x.toNat : Int) := by
  have h' : 0 ≤ n ∧ n ≤ 4294967295 := by simpa [Lit.wf, IntKind.min, IntKind.max, IntKind.signed, IntKind.bits] using h
  refine ⟨BitVec.ofNat 32 n.toNat, ?_⟩
  simp
  omega
theorem wf_byte {n : Int} (h : (Lit.int .u8 n).wf = true) : ∃ x : By, n = (x.toNat : Int) := by
  have h' : 0 ≤ n ∧ n ≤ 255 := by simpa [Lit.wf, IntKind.min, IntKind.max, IntKind.signed, IntKind.bits] using h
  refine ⟨BitVec.ofNat 8 n.toNat, ?_⟩
  simp
  omega
/-- A slice of bytes that came in reads as some bytes. -/
theorem IsRow.bys {w : World} {a : Option Addr} {len cap : Nat} {zs : List Int} (h : IsRow .u8 w a len cap zs) : ∃ l, Bys w a len l ∧ len ≤ cap := by
  rcases h with ⟨rfl, rfl, rfl, rfl⟩ | ⟨x, rfl, hl, hm, hz, hc, hw⟩
  · exact ⟨[], ⟨rfl, fun i c h => by simp at h⟩, Nat.le_refl _⟩
  · refine ⟨(zs.take len).map fun n => BitVec.ofNat 8 n.toNat, ⟨by simp; omega, fun i c hi => ?_⟩, hl⟩
    have hlt : i < len := by
      have := (List.getElem?_eq_some_iff.1 hi).1
      simp at this; omega
    obtain ⟨b, off, spot⟩ := x
    have h0 := hc 0 (by omega)
    have hs : spot = none := by simpa [Addr.add] using World.cell?_spot h0
    subst hs
    have h1 := hc i (by omega)
    have hb : b < w.heap.size := by have := cell_lt h0; simpa [Addr.add] using this
    refine ⟨b, off, rfl, hb, ?_⟩
    rw [add_plain] at h1
    rw [h1]
    have hiz : i < zs.length := by omega
    have e1 : zs.getD i 0 = zs[i] := by simp [List.getD, hiz]
    obtain ⟨y, hy⟩ := wf_byte (hw _ (List.getElem_mem hiz))
    rw [e1, hy]
    have : c = y := by
      rw [List.getElem?_map, List.getElem?_take, if_pos hlt, List.getElem?_eq_getElem hiz, Option.map_some] at hi
      injection hi with hi
      rw [← hi, hy]
      simp
    rw [this]

/-- A slice of slices of bytes, of whatever lengths. -/
def PrsX (w : World) (a : Option Addr) (n : Nat) (ps : List (List By)) : Prop :=
  ps.length = n ∧ ∀ i p, ps[i]? = some p → ∃ g off a' c', a = some ⟨g, off, none⟩ ∧ g < w.heap.size ∧ w.cell? ⟨g, off + i, none⟩ = some (.slice a' p.length c') ∧ Bys w a' p.length p
theorem PrsX.below {w w' : World} {a : Option Addr} {n : Nat} {ps : List (List By)} (h : PrsX w a n ps) (hb : Below w.heap.size w w') : PrsX w' a n ps := by
  refine ⟨h.1, fun i p hi => ?_⟩
  obtain ⟨g, off, a', c', e, hg, hc, hB⟩ := h.2 i p hi
  exact ⟨g, off, a', c', e, Nat.lt_of_lt_of_le hg hb.size, (hb.cell (p := ⟨g, off + i, none⟩) hg).trans hc, hB.below hb⟩

theorem prsx_of {w : World} {x : Addr} {len cap : Nat} {A : Nat → Option Addr} {L C : Nat → Nat} {Z : Nat → List Int} (hl : len ≤ cap)
    (hx : ∀ r, r < cap → w.cell? (x.add r) = some (.slice (A r) (L r) (C r)) ∧ L r ≤ C r ∧ C r ≤ maxLen ∧ (Z r).length = C r ∧ (∀ n ∈ Z r, (Lit.int .u8 n).wf = true) ∧ (A r = none → C r = 0) ∧
      ∀ a', A r = some a' → 0 ≤ a'.block ∧ ∀ c, c < C r → w.cell? (a'.add c) = some (.int .u8 ((Z r).getD c 0))) : ∃ ps, PrsX w (some x) len ps := by
  have each : ∀ r, r < cap → ∃ l, Bys w (A r) (L r) l := by
    intro r hr
    obtain ⟨_, h1, h2, h3, h4, h5, h6⟩ := hx r hr
    have : IsRow .u8 w (A r) (L r) (C r) (Z r) := by
      cases ha : A r with
      | none =>
        have := h5 ha
        exact .inl ⟨rfl, by omega, this, List.eq_nil_of_length_eq_zero (by omega)⟩
      | some a' => exact .inr ⟨a', rfl, h1, h2, h3, fun i hi => (h6 a' ha).2 i (by omega), h4⟩
    obtain ⟨l, hl, _⟩ := this.bys
    exact ⟨l, hl⟩
  refine ⟨(List.range len).map fun r => if h : r < cap then (each r h).choose else [], by simp, fun i p hi => ?_⟩
  have hlt : i < len := by have := (List.getElem?_eq_some_iff.1 hi).1; simpa using this
  have hc : i < cap := by omega
  have hp : (each i hc).choose = p := by
    rw [List.getElem?_map, List.getElem?_range hlt, Option.map_some, dif_pos hc] at hi
    injection hi
  have hB := (each i hc).choose_spec
  rw [hp] at hB
  obtain ⟨b, off, spot⟩ := x
  have h0 := (hx 0 (by omega)).1
  have hs : spot = none := by simpa [Addr.add] using World.cell?_spot h0
  subst hs
  have h1 := (hx i hc).1
  rw [add_plain] at h1
  rw [← hB.1] at h1
  refine ⟨b, off, A i, C i, rfl, by have := cell_lt h1; exact this, h1, ?_⟩
  rw [hB.1]; exact hB
/-- The number in a cell. -/
def numOf : Value → Int
  | .int _ n => n
  | _ => 0
/-- An array of words that came in. -/
theorem arr32_open {H : Type} {enc : TypeId × Value → H} {w : World} {base b0 : Nat} {spare : Nat → Bool} {held : Bool} {r : Reach} {v : Value} {d : DataW H} {p : List MemPlace} {t n : Nat} (hu : Try.prog.underlying t = some (.array n 100)) (hn : Try.prog.cellsOf t = n)
    (hv : Value.okWide Try.prog w r b0 t v) (h : DataW.Trod enc Try.prog w base spare held t v d p) : ∃ l : List (BitVec 32), l.length = n ∧ v = .agg (l.map fun x => Value.int .u32 (x.toNat : Int)).toArray := by
  simp only [Value.okWide, hu] at hv
  obtain ⟨cs, rfl, hsz, _⟩ := hv
  obtain ⟨fuel, hf⟩ := h
  obtain ⟨xs, m, _, _, hlen, hxl, hel⟩ := DataW.trod_array hu hf
  have c1 : Try.prog.cellsOf 100 = 1 := by kernel_rfl
  simp only [Value.cells] at hel hlen
  refine ⟨cs.toList.map fun v => BitVec.ofNat 32 (numOf v).toNat, by simp; omega, ?_⟩
  congr 1
  apply Array.ext_getElem?
  intro i
  by_cases hi : i < n
  · have hE := hel i hi
    rw [c1, Nat.mul_one, List.getElem?_eq_getElem (by omega)] at hE
    obtain ⟨z, e1, _, hw⟩ := DataW.trod_int Try.underlying100 hE
    have hz : cs.toList[i]? = some (.int .u32 z) := by
      have h0 : ((cs.toList.drop i).take 1)[0]? = some (.int .u32 z) := by rw [e1]; rfl
      simpa using h0
    obtain ⟨y, rfl⟩ := wf_word hw
    have hz' : cs[i]? = some (.int .u32 (y.toNat : Int)) := by simpa using hz
    simp [hz', numOf]
  · rw [Array.getElem?_eq_none (by omega), Array.getElem?_eq_none (by simp; omega)]
/-- An array of bytes that came in. -/
theorem arr8_open {H : Type} {enc : TypeId × Value → H} {w : World} {base b0 : Nat} {spare : Nat → Bool} {held : Bool} {r : Reach} {v : Value} {d : DataW H} {p : List MemPlace} {t n : Nat} (hu : Try.prog.underlying t = some (.array n 5)) (hn : Try.prog.cellsOf t = n)
    (hv : Value.okWide Try.prog w r b0 t v) (h : DataW.Trod enc Try.prog w base spare held t v d p) : ∃ l : List (BitVec 8), l.length = n ∧ v = .agg (bl l).toArray := by
  simp only [Value.okWide, hu] at hv
  obtain ⟨cs, rfl, hsz, _⟩ := hv
  obtain ⟨fuel, hf⟩ := h
  obtain ⟨xs, m, _, _, hlen, hxl, hel⟩ := DataW.trod_array hu hf
  have c1 : Try.prog.cellsOf 5 = 1 := by kernel_rfl
  simp only [Value.cells] at hel hlen
  refine ⟨cs.toList.map fun v => BitVec.ofNat 8 (numOf v).toNat, by simp; omega, ?_⟩
  congr 1
  apply Array.ext_getElem?
  intro i
  by_cases hi : i < n
  · have hE := hel i hi
    rw [c1, Nat.mul_one, List.getElem?_eq_getElem (by omega)] at hE
    obtain ⟨z, e1, _, hw⟩ := DataW.trod_int Try.underlying5 hE
    have hz : cs.toList[i]? = some (.int .u8 z) := by
      have h0 : ((cs.toList.drop i).take 1)[0]? = some (.int .u8 z) := by rw [e1]; rfl
      simpa using h0
    obtain ⟨y, rfl⟩ := wf_byte hw
    have hz' : cs[i]? = some (.int .u8 (y.toNat : Int)) := by simpa using hz
    simp [hz', numOf, bl]
  · rw [Array.getElem?_eq_none (by omega), Array.getElem?_eq_none (by simp [bl]; omega)]
theorem mapM_some {α β : Type} (f : α → Option β) (g : α → β) : ∀ (l : List α), (∀ a ∈ l, f a = some (g a)) → l.mapM f = some (l.map g) := by
  intro l
  induction l with
  | nil => intro _; rfl
  | cons a l ih =>
    intro h
    rw [List.mapM_cons, h a (by simp), ih (fun b hb => h b (by simp [hb]))]
    rfl
theorem lits_ints {k : IntKind} {t e : TypeId} {n : Nat} (hu : Try.prog.underlying t = some (.array n e)) (he : Try.prog.underlying e = some (.int k)) (hce : Try.prog.cellsOf e = 1) (hct : Try.prog.cellsOf t = n) (xs : List Int) (hx : xs.length = n) (wf : ∀ x ∈ xs, (Lit.int k x).wf = true) (d : Nat) :
    Try.prog.keyLits (d + 2) t (xs.map (Value.int k)) = some (xs.map (Lit.int k)) := by
  rw [show d + 2 = (d + 1) + 1 from rfl]
  unfold Program.keyLits
  rw [hu]
  show (if (xs.map (Value.int k)).length = Try.prog.cellsOf t then _ else _) = _
  rw [hct, if_pos (by simpa using hx), hce, mapM_some _ (fun i => [Lit.int k (xs.getD i 0)])]
  · simp only [Option.map_some, Option.some.injEq]
    apply List.ext_getElem?
    intro i
    have : (List.map (fun i => [Lit.int k (xs.getD i 0)]) (List.range n)).flatten = (List.range n).map fun i => Lit.int k (xs.getD i 0) := by
      generalize List.range n = l
      induction l with
      | nil => rfl
      | cons a l ih => simp only [List.map_cons, List.flatten_cons, List.singleton_append, ih]
    rw [this]
    by_cases h : i < n
    · simp [h, hx]
    · rw [List.getElem?_eq_none (by simp; omega), List.getElem?_eq_none (by simp; omega)]
  · intro i hi
    have hin : i < n := by simpa using hi
    have e1 : ((xs.map (Value.int k)).drop (i * 1)).take 1 = [.int k (xs.getD i 0)] := by
      rw [Nat.mul_one]
      apply List.ext_getElem?
      intro j
      rw [List.getElem?_take]
      rcases (by omega : j = 0 ∨ 1 ≤ j) with rfl | h
      · simp [hx, hin]
      · rw [if_neg (by omega), List.getElem?_eq_none (by simp; omega)]
    rw [e1]
    unfold Program.keyLits
    rw [he]
    exact if_pos ⟨rfl, wf _ (by simp [List.getD_eq_getElem?_getD, hx, hin])⟩
/-- Two arrays of numbers are held against each other. -/
theorem eql_ints {k : IntKind} {t e : TypeId} {n : Nat} (hu : Try.prog.underlying t = some (.array n e)) (he : Try.prog.underlying e = some (.int k)) (hce : Try.prog.cellsOf e = 1) (hct : Try.prog.cellsOf t = n) (hk : Try.prog.keyTypeAt 2 t = true) (xs ys : List Int) (hx : xs.length = n) (hy : ys.length = n) (wfx : ∀ x ∈ xs, (Lit.int k x).wf = true) (wfy : ∀ x ∈ ys, (Lit.int k x).wf = true) (w : World) :
    (Op.equalIn 10000 t (.agg (xs.map (Value.int k)).toArray) (.agg (ys.map (Value.int k)).toArray)).run Try.prog w = .ok (decide (xs = ys)) w := by
  obtain ⟨r, hr, hi⟩ := run_equalIn_deep (P := Try.prog) 9998 2 t hk w 2 2 (.agg (xs.map (Value.int k)).toArray) (.agg (ys.map (Value.int k)).toArray) (xs.map (Lit.int k)) (ys.map (Lit.int k))
    (by simp [Value.formed, hu, hct, hx]) (by simp [Value.formed, hu, hct, hy]) (by simpa [Value.cells] using lits_ints hu he hce hct xs hx wfx 0) (by simpa [Value.cells] using lits_ints hu he hce hct ys hy wfy 0)
  have e : r = decide (xs = ys) := by
    rw [Bool.eq_iff_iff, decide_eq_true_iff, hi]
    constructor
    · intro h
      have h2 := congrArg (List.map fun l : Lit => match l with | .int _ x => x | _ => (0 : Int)) h
      have hid : ∀ zs : List Int, (zs.map (Lit.int k)).map (fun l : Lit => match l with | .int _ x => x | _ => (0 : Int)) = zs := fun zs => by
        rw [List.map_map]
        induction zs with
        | nil => rfl
        | cons a l ih => rw [List.map_cons, ih]; rfl
      rwa [hid, hid] at h2
    · rintro rfl; rfl
  rw [← e]; exact hr
end Go.Proofs.Ytlgpoaapmgcloaa

