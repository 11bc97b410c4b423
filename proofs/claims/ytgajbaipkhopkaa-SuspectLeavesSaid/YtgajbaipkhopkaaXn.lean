/- A row of calls that comes in. -/
import Derived.Test.YtgajbaipkhopkaaXm
import Derived.Deep.Slices
import Derived.Deep.Fields
namespace Go.Proofs.Ytgajbaipkhopkaa
open Go.RowKit Go.ChangeShapes Go.WideShapes Go.Deep

theorem cells24 : Try.prog.cellsOf 24 = 3 := by kernel_rfl
theorem cells4 : Try.prog.cellsOf 4 = 1 := by kernel_rfl
theorem cells3 : Try.prog.cellsOf 3 = 1 := by kernel_rfl
theorem cells2 : Try.prog.cellsOf 2 = 1 := by kernel_rfl

section
variable {H : Type} {enc : TypeId × Value → H} {w : World} {base : Nat} {held : Bool} {fuel : Nat}
theorem act_cells {cs : List Value} {x : DataW H × List MemPlace} {spare : Nat → Bool} (h : DataW.trod enc Try.prog w base spare held fuel 24 cs = some x) :
    ∃ c : Ac, cs[0]? = some (.bool c.hear) ∧ cs[1]? = some (.int .i64 c.place) ∧ cs[2]? = some (.int .i64 c.n) := by
  obtain ⟨xs, n, _, _, hlen, hxl, hf⟩ := DataW.trod_struct Try.underlying24 h
  rw [cells24] at hlen
  have h0 : DataW.trod enc Try.prog w base spare held n 4 ((cs.drop 0).take (Try.prog.cellsOf 4)) = xs[0]? := hf 0 _ rfl
  have h1 : DataW.trod enc Try.prog w base spare held n 3 ((cs.drop 1).take (Try.prog.cellsOf 3)) = xs[1]? := hf 1 _ rfl
  have h2 : DataW.trod enc Try.prog w base spare held n 2 ((cs.drop 2).take (Try.prog.cellsOf 2)) = xs[2]? := hf 2 _ rfl
  rw [cells4] at h0
  rw [cells3] at h1
  rw [cells2] at h2
  match cs, hlen with
  | [c0, c1, c2], _ =>
    match xs, hxl with
    | [y0, y1, y2], _ =>
      obtain ⟨b, e0, _⟩ := DataW.trod_bool Try.underlying4 h0
      obtain ⟨p, e1, _⟩ := DataW.trod_int Try.underlying3 h1
      obtain ⟨m, e2, _⟩ := DataW.trod_int Try.underlying2 h2
      simp at e0 e1 e2
      subst e0; subst e1; subst e2
      exact ⟨⟨b, p, m⟩, rfl, rfl, rfl⟩
theorem acts_open {a : Option Addr} {len cap : Nat} {x : DataW H × List MemPlace} (h : DataW.trod enc Try.prog w base (fun _ => true) held fuel 22 [.slice a len cap] = some x) : ∃ xs, Acts w a len xs ∧ len ≤ cap := by
  rcases open_slice Try.underlying22 h with ⟨h0, _⟩ | ⟨ad, len', cap', m, n, D, Pl, hcs, hb, hl, hm, hmm, hx, hi⟩
  · simp at h0
    obtain ⟨rfl, rfl, rfl⟩ := h0
    exact ⟨[], ⟨rfl, fun i x hx => by simp at hx⟩, Nat.le_refl _⟩
  · simp at hcs
    obtain ⟨rfl, rfl, rfl⟩ := hcs
    rw [if_pos rfl] at hmm
    subst hmm
    have key : ∀ i, i < len → ∃ c : Ac, w.cell? (ad.add (i * 3)) = some (.bool c.hear) ∧ w.cell? (ad.add (i * 3 + 1)) = some (.int .i64 c.place) ∧ w.cell? (ad.add (i * 3 + 2)) = some (.int .i64 c.n) := by
      intro i hlt
      obtain ⟨cs', hc, ht⟩ := hi i (by omega)
      rw [cells24] at hc
      obtain ⟨c, c0, c1, c2⟩ := act_cells ht
      obtain ⟨_, hcl, hat⟩ := World.cells?_some hc
      refine ⟨c, ?_, ?_, ?_⟩
      · have := hat 0 (by omega); rw [Go.Deep.add_add, c0] at this; exact this
      · have := hat 1 (by omega); rw [Go.Deep.add_add, c1] at this; exact this
      · have := hat 2 (by omega); rw [Go.Deep.add_add, c2] at this; exact this
    refine ⟨(List.range len).pmap (fun i hi => (key i hi).choose) (fun i hi => by simpa using hi), ⟨by simp, fun i c hc => ?_⟩, hl⟩
    have hlt : i < len := by have := (List.getElem?_eq_some_iff.1 hc).1; simpa using this
    rw [List.getElem?_pmap] at hc
    simp [hlt] at hc
    have hk := (key i hlt).choose_spec
    rw [hc] at hk
    obtain ⟨k0, k1, k2⟩ := hk
    obtain ⟨b, off, spot⟩ := ad
    have hz := key 0 (by omega)
    obtain ⟨_, z0, _⟩ := hz
    have hs : spot = none := by simpa [Addr.add] using World.cell?_spot z0
    subst hs
    have had : ∀ j, (⟨b, off, none⟩ : Addr).add j = ⟨b, off + j, none⟩ := fun j => by
      unfold Addr.add
      split
      · simp_all
      · simp
    rw [had] at k0 k1 k2 z0
    exact ⟨b, off, rfl, cell_lt z0, k0, by rw [Nat.add_assoc]; exact k1, by rw [Nat.add_assoc]; exact k2⟩
end

theorem plays_walk (c self wait : Int) (a : Option Addr) (n cap : Nat) (xs : List Ac) (w : World) (ha : Acts w a n xs) :
    Calls Try.prog 6 #[.int .i64 c, .int .i64 self, .int .i64 wait, .slice a n cap] w fun e w' => e = .returned (.bool true) ∧ Below w.heap.size w w' := by
  rcases Nat.lt_or_ge 50 n with hn | hn
  · clear ha
    have hnn : (50 : Int) < (n : Int) := by omega
    go_enter Try.func6, Try.ntmps6
    go_wp2_with fail
    refine (works_any _).mono ?_; rintro e w1 ⟨rfl, hb⟩
    have HB := Lib.hid hb; clear hb
    go_wp2_with fail
    go_ret
    exact ⟨rfl, HB.out⟩
  · cases h : newOk c self wait
    · exact plays_no c self wait a n cap w hn h
    · exact plays_ok c self wait a n cap xs w hn h ha
end Go.Proofs.Ytgajbaipkhopkaa
