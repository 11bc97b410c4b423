/- A row of spans that comes in. -/
import Derived.Test.YtlgpoaapmgcloaaCg
import Derived.Test.YtlgpoaapmgcloaaLw
import Derived.Deep.Slices
import Derived.Deep.Fields
namespace Go.Proofs.Ytlgpoaapmgcloaa
open Go.RowKit Go.ChangeShapes Go.WideShapes Go.Deep

theorem cells33 : Try.prog.cellsOf 33 = 2 := by kernel_rfl
theorem cells3 : Try.prog.cellsOf 3 = 1 := by kernel_rfl

section
variable {H : Type} {enc : TypeId × Value → H} {w : World} {base : Nat} {held : Bool} {fuel : Nat}
theorem span_cells {cs : List Value} {x : DataW H × List MemPlace} {spare : Nat → Bool} (h : DataW.trod enc Try.prog w base spare held fuel 33 cs = some x) :
    ∃ c : Sp, cs[0]? = some (.int .i64 c.f) ∧ cs[1]? = some (.int .i64 c.t) := by
  obtain ⟨xs, n, _, _, hlen, hxl, hf⟩ := DataW.trod_struct Try.underlying33 h
  rw [cells33] at hlen
  have h0 : DataW.trod enc Try.prog w base spare held n 3 ((cs.drop 0).take (Try.prog.cellsOf 3)) = xs[0]? := hf 0 _ rfl
  have h1 : DataW.trod enc Try.prog w base spare held n 3 ((cs.drop 1).take (Try.prog.cellsOf 3)) = xs[1]? := hf 1 _ rfl
  rw [cells3] at h0
  rw [cells3] at h1
  match cs, hlen with
  | [c0, c1], _ =>
    match xs, hxl with
    | [y0, y1], _ =>
      obtain ⟨p, e0, _⟩ := DataW.trod_int Try.underlying3 h0
      obtain ⟨m, e1, _⟩ := DataW.trod_int Try.underlying3 h1
      simp at e0 e1
      subst e0; subst e1
      exact ⟨⟨p, m⟩, rfl, rfl⟩
theorem sps_open {a : Option Addr} {len cap : Nat} {x : DataW H × List MemPlace} (h : DataW.trod enc Try.prog w base (fun _ => true) held fuel 22 [.slice a len cap] = some x) : ∃ xs, Sps w a len xs ∧ len ≤ cap := by
  rcases open_slice Try.underlying22 h with ⟨h0, _⟩ | ⟨ad, len', cap', m, n, D, Pl, hcs, hb, hl, hm, hmm, hx, hi⟩
  · simp at h0
    obtain ⟨rfl, rfl, rfl⟩ := h0
    exact ⟨[], ⟨rfl, fun i x hx => by simp at hx⟩, Nat.le_refl _⟩
  · simp at hcs
    obtain ⟨rfl, rfl, rfl⟩ := hcs
    rw [if_pos rfl] at hmm
    subst hmm
    have key : ∀ i, i < len → ∃ c : Sp, w.cell? (ad.add (i * 2)) = some (.int .i64 c.f) ∧ w.cell? (ad.add (i * 2 + 1)) = some (.int .i64 c.t) := by
      intro i hlt
      obtain ⟨cs', hc, ht⟩ := hi i (by omega)
      rw [cells33] at hc
      obtain ⟨c, c0, c1⟩ := span_cells ht
      obtain ⟨_, hcl, hat⟩ := World.cells?_some hc
      refine ⟨c, ?_, ?_⟩
      · have := hat 0 (by omega); rw [Go.Deep.add_add, c0] at this; exact this
      · have := hat 1 (by omega); rw [Go.Deep.add_add, c1] at this; exact this
    refine ⟨(List.range len).pmap (fun i hi => (key i hi).choose) (fun i hi => by simpa using hi), ⟨by simp, fun i c hc => ?_⟩, hl⟩
    have hlt : i < len := by have := (List.getElem?_eq_some_iff.1 hc).1; simpa using this
    rw [List.getElem?_pmap] at hc
    simp [hlt] at hc
    have hk := (key i hlt).choose_spec
    rw [hc] at hk
    obtain ⟨k0, k1⟩ := hk
    obtain ⟨b, off, spot⟩ := ad
    have hz := key 0 (by omega)
    obtain ⟨_, z0, _⟩ := hz
    have hs : spot = none := by simpa [Addr.add] using World.cell?_spot z0
    subst hs
    have had : ∀ j, (⟨b, off, none⟩ : Addr).add j = ⟨b, off + j, none⟩ := fun j => by
      unfold Addr.add
      split
      · simp_all
      · simp
    rw [had] at k0 k1 z0
    exact ⟨b, off, rfl, cell_lt z0, k0, by rw [Nat.add_assoc]; exact k1⟩
end
end Go.Proofs.Ytlgpoaapmgcloaa
