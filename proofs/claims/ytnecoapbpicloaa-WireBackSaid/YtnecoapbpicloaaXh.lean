/- Rows of calls of a writer; few; lay. -/
import Derived.Test.YtnecoapbpicloaaXa
import Derived.Deep.Slices
import Derived.Deep.Fields
import Derived.ChangeSlices
namespace Go.Proofs.Ytnecoapbpicloaa
open Go.RowKit Go.ChangeShapes Go.WideShapes Go.Deep
set_option linter.unusedSimpArgs false
set_option linter.unusedVariables false
set_option maxRecDepth 100000

def Lays (w : World) (a : Option Addr) (n : Nat) (xs : List WAct) : Prop := xs.length = n ∧ ∀ (i : Nat) (x : WAct), xs[i]? = some x → ∃ g off, a = some ⟨g, off, none⟩ ∧ g < w.heap.size ∧
  w.cell? ⟨g, off + i * 4, none⟩ = some (.int .i64 x.what) ∧ w.cell? ⟨g, off + i * 4 + 1, none⟩ = some (.slice x.a x.n x.c) ∧ w.cell? ⟨g, off + i * 4 + 2, none⟩ = some (.string x.text) ∧ w.cell? ⟨g, off + i * 4 + 3, none⟩ = some (.bool x.truth) ∧
  I64s w x.a x.n x.zs
theorem lays_at {w W : World} (hb : Below w.heap.size w W) {ga off n k : Nat} {xs : List WAct} {x : WAct} (h : Lays w (some ⟨ga, off, none⟩) n xs) (hx : xs[k]? = some x) :
    W.cell? ⟨ga, off + k * 4, none⟩ = some (.int .i64 x.what) ∧ W.cell? ⟨ga, off + k * 4 + 1, none⟩ = some (.slice x.a x.n x.c) ∧ W.cell? ⟨ga, off + k * 4 + 2, none⟩ = some (.string x.text) ∧ W.cell? ⟨ga, off + k * 4 + 3, none⟩ = some (.bool x.truth) ∧ I64s W x.a x.n x.zs := by
  obtain ⟨g, o, e, hg, c0, c1, c2, c3, hi⟩ := h.2 k x hx
  injection e with e; injection e with e1 e2 _; subst e1; subst e2
  exact ⟨(hb.cell (p := ⟨ga, _, none⟩) hg).trans c0, (hb.cell (p := ⟨ga, _, none⟩) hg).trans c1, (hb.cell (p := ⟨ga, _, none⟩) hg).trans c2, (hb.cell (p := ⟨ga, _, none⟩) hg).trans c3, hi.below hb⟩

theorem cellsAct : Try.prog.cellsOf 30 = 4 := by kernel_rfl
theorem cellsInt2 : Try.prog.cellsOf 3 = 1 := by kernel_rfl
theorem cellsNums : Try.prog.cellsOf 28 = 1 := by kernel_rfl
theorem cellsStr : Try.prog.cellsOf 9 = 1 := by kernel_rfl
theorem cellsBool : Try.prog.cellsOf 4 = 1 := by kernel_rfl
section
variable {H : Type} {enc : TypeId × Value → H} {w : World} {base : Nat} {held : Bool} {fuel : Nat}
theorem i64s_open {spare : Nat → Bool} {v : Value} {x : DataW H × List MemPlace} (h : DataW.trod enc Try.prog w base spare held fuel 28 [v] = some x) : ∃ a n c zs, v = .slice a n c ∧ I64s w a n zs := by
  rcases open_ints Try.underlying28 Try.underlying2 (by kernel_rfl) h with ⟨hcs, _⟩ | ⟨ad, l, c, zs, hcs, _, hl, hm, hz, _, hcell, hwz⟩
  · simp at hcs
    exact ⟨none, 0, 0, [], hcs, rfl, fun i x hx => by simp at hx⟩
  · simp at hcs
    have hzl : l ≤ zs.length := by rw [hz]; split <;> omega
    refine ⟨some ad, l, c, zs.take l, hcs, by rw [List.length_take]; omega, fun i x hx => ?_⟩
    have hi : i < l := by
      have := (List.getElem?_eq_some_iff.1 hx).1
      rw [List.length_take] at this
      omega
    have hx' : zs[i]? = some x := by rw [List.getElem?_take_of_lt hi] at hx; exact hx
    have hc := hcell i (by omega)
    obtain ⟨b, off, spot⟩ := ad
    have hc0 := hcell 0 (by omega)
    have hs : spot = none := by simpa [Addr.add] using World.cell?_spot hc0
    subst hs
    have had : (⟨b, off, none⟩ : Addr).add i = ⟨b, off + i, none⟩ := by
      unfold Addr.add
      split
      · simp_all
      · simp
    rw [had] at hc
    have hd : zs.getD i 0 = x := by rw [List.getD_eq_getElem?_getD, hx']; rfl
    rw [hd] at hc
    exact ⟨b, off, rfl, cell_lt hc, hc⟩
theorem act_cells {cs : List Value} {x : DataW H × List MemPlace} {spare : Nat → Bool} (h : DataW.trod enc Try.prog w base spare held fuel 30 cs = some x) :
    ∃ c : WAct, cs[0]? = some (.int .i64 c.what) ∧ cs[1]? = some (.slice c.a c.n c.c) ∧ cs[2]? = some (.string c.text) ∧ cs[3]? = some (.bool c.truth) ∧ I64s w c.a c.n c.zs := by
  obtain ⟨xs, n, _, _, hlen, hxl, hf⟩ := DataW.trod_struct Try.underlying30 h
  rw [cellsAct] at hlen
  have h0 : DataW.trod enc Try.prog w base spare held n 3 ((cs.drop 0).take (Try.prog.cellsOf 3)) = xs[0]? := hf 0 _ rfl
  have h1 : DataW.trod enc Try.prog w base spare held n 28 ((cs.drop 1).take (Try.prog.cellsOf 28)) = xs[1]? := hf 1 _ rfl
  have h2 : DataW.trod enc Try.prog w base spare held n 9 ((cs.drop 2).take (Try.prog.cellsOf 9)) = xs[2]? := hf 2 _ rfl
  have h3 : DataW.trod enc Try.prog w base spare held n 4 ((cs.drop 3).take (Try.prog.cellsOf 4)) = xs[3]? := hf 3 _ rfl
  rw [cellsInt2] at h0
  rw [cellsNums] at h1
  rw [cellsStr] at h2
  rw [cellsBool] at h3
  match cs, hlen with
  | [c0, c1, c2, c3], _ =>
    match xs, hxl with
    | [y0, y1, y2, y3], _ =>
      obtain ⟨p, e0, _⟩ := DataW.trod_int Try.underlying3 h0
      obtain ⟨a, k, c, zs, e1, hi⟩ := i64s_open h1
      obtain ⟨s, e2, _⟩ := DataW.trod_string Try.underlying9 h2
      obtain ⟨b, e3, _⟩ := DataW.trod_bool Try.underlying4 h3
      simp at e0 e2 e3
      subst e0; subst e1; subst e2; subst e3
      exact ⟨⟨p, a, k, c, zs, s, b⟩, rfl, rfl, rfl, rfl, hi⟩
theorem lays_open {a : Option Addr} {len cap : Nat} {x : DataW H × List MemPlace} (h : DataW.trod enc Try.prog w base (fun _ => true) held fuel 45 [.slice a len cap] = some x) : ∃ xs, Lays w a len xs ∧ len ≤ maxLen := by
  rcases open_slice Try.underlying45 h with ⟨h0, _⟩ | ⟨ad, len', cap', m, n, D, Pl, hcs, hb, hl, hm, hmm, hx, hi⟩
  · simp at h0
    obtain ⟨rfl, rfl, rfl⟩ := h0
    exact ⟨[], ⟨rfl, fun i x hx => by simp at hx⟩, Nat.zero_le _⟩
  · simp at hcs
    obtain ⟨rfl, rfl, rfl⟩ := hcs
    rw [if_pos rfl] at hmm
    subst hmm
    have key : ∀ i, i < len → ∃ c : WAct, w.cell? (ad.add (i * 4)) = some (.int .i64 c.what) ∧ w.cell? (ad.add (i * 4 + 1)) = some (.slice c.a c.n c.c) ∧ w.cell? (ad.add (i * 4 + 2)) = some (.string c.text) ∧ w.cell? (ad.add (i * 4 + 3)) = some (.bool c.truth) ∧ I64s w c.a c.n c.zs := by
      intro i hlt
      obtain ⟨cs', hc, ht⟩ := hi i (by omega)
      rw [cellsAct] at hc
      obtain ⟨c, c0, c1, c2, c3, hi9⟩ := act_cells ht
      obtain ⟨_, hcl, hat⟩ := World.cells?_some hc
      refine ⟨c, ?_, ?_, ?_, ?_, hi9⟩
      · have := hat 0 (by omega); rw [Go.Deep.add_add, c0] at this; exact this
      · have := hat 1 (by omega); rw [Go.Deep.add_add, c1] at this; exact this
      · have := hat 2 (by omega); rw [Go.Deep.add_add, c2] at this; exact this
      · have := hat 3 (by omega); rw [Go.Deep.add_add, c3] at this; exact this
    refine ⟨(List.range len).pmap (fun i hi => (key i hi).choose) (fun i hi => by simpa using hi), ⟨by simp, fun i c hc => ?_⟩, Nat.le_trans hl hm⟩
    have hlt : i < len := by have := (List.getElem?_eq_some_iff.1 hc).1; simpa using this
    rw [List.getElem?_pmap] at hc
    simp [hlt] at hc
    have hk := (key i hlt).choose_spec
    rw [hc] at hk
    obtain ⟨k0, k1, k2, k3, k4⟩ := hk
    obtain ⟨b, off, spot⟩ := ad
    have hz := key 0 (by omega)
    obtain ⟨_, z0, _⟩ := hz
    have hs : spot = none := by simpa [Addr.add] using World.cell?_spot z0
    subst hs
    have had : ∀ j, (⟨b, off, none⟩ : Addr).add j = ⟨b, off + j, none⟩ := fun j => by
      unfold Addr.add
      split
      · simp_all
      · simp
    rw [had] at k0 k1 k2 k3 z0
    exact ⟨b, off, rfl, cell_lt z0, k0, by rw [Nat.add_assoc]; exact k1, by rw [Nat.add_assoc]; exact k2, by rw [Nat.add_assoc]; exact k3, k4⟩
end

def fewA (x : WAct) : Bool := decide (x.n ≤ 20) && decide (x.text.size ≤ 200)
def fewL (xs : List WAct) : Bool := xs.all fewA && decide (xs.length ≤ 40)
set_option maxHeartbeats 2000000 in
theorem few_c (a : Option Addr) (n c : Nat) (xs : List WAct) (w : World) (h : Lays w a n xs) (hmx : n ≤ maxLen) :
    Calls Try.prog 21 #[.slice a n c] w fun e w' => e = .returned (.bool (fewL xs)) ∧ w = w' := by
  have H := Lib.hid h
  have hmx : n ≤ 9223372036854775807 := Nat.le_trans hmx (by decide)
  clear h
  go_enter Try.func21, Try.ntmps21
  go_wp2_with fail
  go_loopw [3] (fun iv wr => ∃ (i : Nat), i ≤ n ∧ iv = .int .i64 (i : Int) ∧ w = wr ∧ (xs.take i).all fewA = true) (fun iv _ => n - (intOf iv).toNat)
  case atStart => exact ⟨0, Nat.zero_le _, rfl, rfl, rfl⟩
  case round =>
  obtain ⟨i, hi, rfl, rfl, hall⟩ := hrel
  have HAll := Lib.hid hall
  clear hall
  by_cases hlt : i < n
  · obtain ⟨x, hx⟩ : ∃ x, xs[i]? = some x := ⟨xs[i]'(by rw [H.out.1]; exact hlt), List.getElem?_eq_getElem _⟩
    obtain ⟨ga, off, rfl, hga, c0, c1, c2, c3, -⟩ := H.out.2 i x hx
    have hsnoc : (xs.take (i + 1)).all fewA = ((xs.take i).all fewA && fewA x) := by
      rw [List.take_add_one, hx]; simp
    have HX := Lib.hid hx
    rw [HAll.out, Bool.true_and] at hsnoc
    have HS := Lib.hid hsnoc
    clear hsnoc hx c0 c3
    by_cases hn : 20 < x.n
    · have r1 : decide ((20 : Int) < (x.n : Int)) = true := decide_eq_true (by omega)
      have r2 : (20 : Int) < (x.n : Int) := by omega
      have hf : fewL xs = false := by
        have : ¬ xs.all fewA = true := by
          intro hh
          have := List.all_eq_true.1 hh x (List.mem_of_getElem? HX.out)
          simp [fewA] at this
          omega
        simp [fewL, this]
      have HF := Lib.hid hf
      clear hf hn
      go_wp2_with fail
      go_ret
      rw [HF.out]
      exact ⟨rfl, rfl⟩
    · have r1 : ¬ (20 : Int) < (x.n : Int) := by omega
      have r1' : decide ((20 : Int) < (x.n : Int)) = false := decide_eq_false (by omega)
      by_cases hs : 200 < x.text.size
      · have r2 : decide ((200 : Int) < (x.text.size : Int)) = true := decide_eq_true (by omega)
        have r3 : (200 : Int) < (x.text.size : Int) := by omega
        have hf : fewL xs = false := by
          have : ¬ xs.all fewA = true := by
            intro hh
            have := List.all_eq_true.1 hh x (List.mem_of_getElem? HX.out)
            simp [fewA] at this
            omega
          simp [fewL, this]
        have HF := Lib.hid hf
        clear hf hn hs
        go_wp2_with fail
        go_ret
        rw [HF.out]
        exact ⟨rfl, rfl⟩
      · have r2 : ¬ (200 : Int) < (x.text.size : Int) := by omega
        have r2' : decide ((200 : Int) < (x.text.size : Int)) = false := decide_eq_false (by omega)
        have hok : fewA x = true := by simp [fewA]; omega
        have HK := Lib.hid hok
        clear hok hn hs
        go_wp2_with fail
        go_roundw
        case rel => exact ⟨i + 1, by omega, by go_num, trivial, by rw [HS.out]; exact HK.out⟩
        case measure => simp [intOf]; omega
  obtain rfl : i = n := by omega
  obtain ⟨ok, hok⟩ : ∃ ok, ok = decide ((i : Int) ≤ 40) := ⟨_, rfl⟩
  have hf : fewL xs = ok := by
    have h1 := HAll.out
    rw [← H.out.1, List.take_length] at h1
    unfold fewL
    rw [h1, hok, H.out.1]
    simp
    omega
  have HF := Lib.hid hf
  have q := hok.symm
  clear hf hok
  go_wp2_with fail
  go_ret
  rw [HF.out]
  exact ⟨rfl, rfl⟩
end Go.Proofs.Ytnecoapbpicloaa
