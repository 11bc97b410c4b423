/- The walk of SumParts. -/
import Derived.Test.YtodjbgcmlpmknaaWo
import Derived.Deep.Matrix
namespace Go.Proofs.Ytodjbgcmlpmknaa
open Go.RowKit

/-- A slice of slices of bytes, of whatever lengths. -/
def PrsX (w : World) (a : Option Addr) (n : Nat) (ps : List (List By)) : Prop :=
  ps.length = n ∧ ∀ i p, ps[i]? = some p → ∃ g off a' c', a = some ⟨g, off, none⟩ ∧ g < w.heap.size ∧ w.cell? ⟨g, off + i, none⟩ = some (.slice a' p.length c') ∧ Bys w a' p.length p
theorem PrsX.below {w w' : World} {a : Option Addr} {n : Nat} {ps : List (List By)} (h : PrsX w a n ps) (hb : Below w.heap.size w w') : PrsX w' a n ps := by
  refine ⟨h.1, fun i p hi => ?_⟩
  obtain ⟨g, off, a', c', e, hg, hc, hB⟩ := h.2 i p hi
  exact ⟨g, off, a', c', e, Nat.lt_of_lt_of_le hg hb.size, (hb.cell (p := ⟨g, off + i, none⟩) hg).trans hc, hB.below hb⟩

set_option maxRecDepth 100000 in
set_option maxHeartbeats 2000000 in
theorem parts_walk (a : Option Addr) (n c : Nat) (ps : List (List By)) (w : World) (h : PrsX w a n ps) :
    Calls Try.prog 4 #[.slice a n c] w fun e w' => e = .returned (.bool true) ∧ Below w.heap.size w w' := by
  have H := Lib.hid h; clear h
  by_cases hn : 30 < n
  · go_enter Try.func4, Try.ntmps4
    go_wp2_with fail
    refine (works_c _).mono ?_
    rintro e w4 ⟨rfl, B4⟩
    go_wp2_with fail
    go_ret
    exact ⟨rfl, B4⟩
  · go_enter Try.func4, Try.ntmps4
    go_wp2
    go_loopw [3, 4] (fun vv i wr => ∃ k : Nat, k ≤ n ∧ i = .int .i64 k ∧ OwnB wr w.heap.size vv (ps.take k).flatten ∧ Below w.heap.size w wr ∧ Hid ((ps.take k).flatten.length ≤ 100 * k) ∧ Hid (∀ j p, j < k → ps[j]? = some p → p.length ≤ 100)) (fun _ i _ => n - (intOf i).toNat)
    case atStart => exact ⟨0, Nat.zero_le _, rfl, ⟨by simp [bl], .inl ⟨rfl, by simp⟩⟩, Below.refl _ _, Lib.hid (by simp), Lib.hid (fun j p hj => by omega)⟩
    case round =>
      obtain ⟨k, hk, rfl, ho, hb, HL, HA⟩ := hrel
      have HO := Lib.hid ho; have HB := Lib.hid hb
      clear ho hb
      obtain ⟨aa, cc, hvv, _, hyy⟩ := HO.out.bys
      obtain ⟨m, hm⟩ : ∃ m, m = (ps.take k).flatten.length := ⟨_, rfl⟩
      rw [← hm] at hvv hyy
      subst hvv
      have HYY := Lib.hid hyy
      have HM := Lib.hid hm
      clear hm hyy
      by_cases hlt : k < n
      · obtain ⟨p, hp⟩ : ∃ p, ps[k]? = some p := ⟨ps[k]'(by rw [H.out.1]; exact hlt), List.getElem?_eq_getElem _⟩
        obtain ⟨g, off, a', c', rfl, hg, hcell, hbys⟩ := (H.out.below HB.out).2 k p hp
        have HY := Lib.hid hbys; have HP := Lib.hid hp
        clear hbys hp
        by_cases hp100 : 100 < p.length
        · go_wp2_with fail
          refine (works_c _).mono ?_
          rintro e w4 ⟨rfl, B4⟩
          go_wp2_with fail
          go_ret
          exact ⟨rfl, HB.out.trans (B4.mono HB.out.size)⟩
        · have HLE : Hid ((ps.take (k + 1)).flatten.length ≤ 100 * (k + 1)) := Lib.hid (by
            have := flat_take _ _ _ HP.out
            have := HL.out
            rw [flat_take _ _ _ HP.out, List.length_append]
            omega)
          go_wp2_with (at_builtin; refine wpl_append_bys rfl _ _ rfl w.heap.size _ _ rfl HO.out a' p.length c' p rfl HY.out ?c1 ?c2 ?_)
          case c1 => have := HL.out; omega
          case c2 => exact HB.out.size
          intro v w3 hown hg3 _
          have HB3 := Lib.hid (HB.out.trans (own_grown HO.out hg3 (Nat.le_refl _) HB.out.size))
          rw [← flat_take _ _ _ HP.out] at hown
          have HO3 := Lib.hid hown
          clear hown hg3 hcell
          go_wp2_with fail
          go_roundw
          case rel =>
            refine ⟨k + 1, by omega, by go_num, HO3.out, HB3.out, HLE, Lib.hid (fun j q hj hq => ?_)⟩
            by_cases e : j = k
            · subst e
              have := HP.out
              rw [hq] at this
              injection this with this
              rw [this]; omega
            · exact HA.out j q (by omega) hq
          case measure => simp [intOf]; omega
      · obtain rfl : k = n := by omega
        have e : Hid (ps.take k = ps) := Lib.hid (List.take_of_length_le (by rw [H.out.1]; exact Nat.le_refl _))
        have HPr : Hid (Prs _ a k ps) := Lib.hid ⟨(H.out.below HB.out).1, fun i p hi => ⟨by
          have hlt := (List.getElem?_eq_some_iff.1 hi).1
          have := HA.out i p (by rw [H.out.1] at hlt; exact hlt) hi
          omega, (H.out.below HB.out).2 i p hi⟩⟩
        obtain ⟨S, hS⟩ : ∃ S : Int, S = ((sumB ps.flatten).toNat : Int) := ⟨_, rfl⟩
        have HS := Lib.hid hS; clear hS
        go_wp2_with fail
        refine (sum_as a k c ps S _ HPr.out (by omega) HS.out).mono ?_
        rintro e w3 ⟨rfl, hb⟩
        have HB3 := Lib.hid (HB.out.trans (hb.mono HB.out.size))
        have HY3 := Lib.hid (HYY.out.below hb)
        clear hb
        go_wp2_with fail
        refine (rsum_c aa m cc ps.flatten _ (by have := HY3.out; rwa [e.out] at this) (by have := HL.out; have := HM.out; omega)).mono ?_
        rw [← HS.out]
        rintro e w' ⟨rfl, rfl⟩
        go_wp2_with fail
        refine (works_c _).mono ?_
        rintro e w4 ⟨rfl, B4⟩
        go_wp2_with fail
        go_ret
        exact ⟨rfl, HB3.out.trans (B4.mono HB3.out.size)⟩

theorem prsx_of {w : World} {x : Addr} {len cap : Nat} {A : Nat → Option Addr} {L C : Nat → Nat} {Z : Nat → List Int} (hl : len ≤ cap)
    (hx : ∀ r, r < cap → w.cell? (x.add r) = some (.slice (A r) (L r) (C r)) ∧ L r ≤ C r ∧ C r ≤ maxLen ∧ (Z r).length = C r ∧ (∀ n ∈ Z r, (Lit.int .u8 n).wf = true) ∧ (A r = none → C r = 0) ∧
      ∀ a', A r = some a' → 0 ≤ a'.block ∧ ∀ c, c < C r → w.cell? (a'.add c) = some (.int .u8 ((Z r).getD c 0))) : ∃ ps, PrsX w (some x) len ps := by
  have each : ∀ r, r < cap → ∃ l, Bys w (A r) (L r) l := by
    intro r hr
    obtain ⟨_, h1, h2, h3, h4, h5, h6⟩ := hx r hr
    have : IsRow .u8 w (A r) (L r) (C r) (Z r) := by
      cases ha : A r with
      | none =>
        have := h5 ha
        exact .inl ⟨rfl, by omega, this, List.eq_nil_of_length_eq_zero (by omega)⟩
      | some a' => exact .inr ⟨a', rfl, h1, h2, h3, fun i hi => (h6 a' ha).2 i (by omega), h4⟩
    obtain ⟨l, hl, _⟩ := this.bys
    exact ⟨l, hl⟩
  refine ⟨(List.range len).map fun r => if h : r < cap then (each r h).choose else [], by simp, fun i p hi => ?_⟩
  have hlt : i < len := by have := (List.getElem?_eq_some_iff.1 hi).1; simpa using this
  have hc : i < cap := by omega
  have hp : (each i hc).choose = p := by
    rw [List.getElem?_map, List.getElem?_range hlt, Option.map_some, dif_pos hc] at hi
    injection hi
  have hB := (each i hc).choose_spec
  rw [hp] at hB
  obtain ⟨b, off, spot⟩ := x
  have h0 := (hx 0 (by omega)).1
  have hs : spot = none := by simpa [Addr.add] using World.cell?_spot h0
  subst hs
  have h1 := (hx i hc).1
  rw [add_plain] at h1
  rw [← hB.1] at h1
  refine ⟨b, off, A i, C i, rfl, by have := cell_lt h1; exact this, h1, ?_⟩
  rw [hB.1]; exact hB
end Go.Proofs.Ytodjbgcmlpmknaa
