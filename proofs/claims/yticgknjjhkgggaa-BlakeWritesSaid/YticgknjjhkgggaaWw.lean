/- Contracts: parts joined, where there are not too many. -/
import Derived.Test.YticgknjjhkgggaaWv
namespace Go.Proofs.Yticgknjjhkgggaa
open Go.RowKit
set_option linter.unusedSimpArgs false
set_option linter.unusedVariables false

theorem PrsX.prs {w : World} {a : Option Addr} {n : Nat} {ps : List (List By)} (h : PrsX w a n ps) (hl : ∀ p ∈ ps, p.length ≤ 1000000000) : Prs w a n ps :=
  ⟨h.1, fun i p hi => ⟨hl p (List.mem_of_getElem? hi), h.2 i p hi⟩⟩
theorem flat_bound (ps : List (List By)) (m : Nat) (h : ∀ p ∈ ps, p.length ≤ m) : ps.flatten.length ≤ m * ps.length := by
  induction ps with
  | nil => simp
  | cons p t ih =>
    have h1 := h p (by simp)
    have h2 := ih (fun q hq => h q (by simp [hq]))
    simp only [List.flatten_cons, List.length_append, List.length_cons, Nat.mul_add]
    omega
set_option maxRecDepth 100000 in
set_option maxHeartbeats 2000000 in
theorem joined_c (a : Option Addr) (n c : Nat) (ps : List (List By)) (w : World) (h : PrsX w a n ps) :
    Calls Try.prog 15 #[.slice a n c] w fun e w' => ∃ v ok, e = .returned (.tuple #[v, .bool ok]) ∧ Below w.heap.size w w' ∧ (ok = true → OwnB w' w.heap.size v ps.flatten ∧ n ≤ 20 ∧ ∀ p ∈ ps, p.length ≤ 200) := by
  have H := Lib.hid h; clear h
  by_cases hn : 20 < n
  · have hn' : (20 : Int) < (n : Int) := by omega
    go_enter Try.func15, Try.ntmps15
    go_wp2_with fail
    go_ret2
    exact ⟨_, _, rfl, Below.refl _ _, fun e => by cases e⟩
  · have hn' : ¬ (20 : Int) < (n : Int) := by omega
    go_enter Try.func15, Try.ntmps15
    go_wp2
    go_loopw [4, 5] (fun vv i wr => ∃ k : Nat, k ≤ n ∧ i = .int .i64 k ∧ OwnB wr w.heap.size vv (ps.take k).flatten ∧ Below w.heap.size w wr ∧ Hid ((ps.take k).flatten.length ≤ 200 * k) ∧ Hid (∀ j p, j < k → ps[j]? = some p → p.length ≤ 200)) (fun _ i _ => n - (intOf i).toNat)
    case atStart => exact ⟨0, Nat.zero_le _, rfl, ⟨by simp [bl], .inl ⟨rfl, by simp⟩⟩, Below.refl _ _, Lib.hid (by simp), Lib.hid (fun j p hj => by omega)⟩
    case round =>
      obtain ⟨k, hk, rfl, ho, hb, HL, HA⟩ := hrel
      have HO := Lib.hid ho; have HB := Lib.hid hb
      clear ho hb
      obtain ⟨aa, cc, hvv, _, hyy⟩ := HO.out.bys
      obtain ⟨m, hm⟩ : ∃ m, m = (ps.take k).flatten.length := ⟨_, rfl⟩
      rw [← hm] at hvv hyy
      subst hvv
      have HM := Lib.hid hm
      clear hm hyy
      have hk20 : k ≤ 20 := by omega
      by_cases hlt : k < n
      · obtain ⟨p, hp⟩ : ∃ p, ps[k]? = some p := ⟨ps[k]'(by rw [H.out.1]; exact hlt), List.getElem?_eq_getElem _⟩
        obtain ⟨g, off, a', c', rfl, hg, hcell, hbys⟩ := (H.out.below HB.out).2 k p hp
        have HY := Lib.hid hbys; have HP := Lib.hid hp
        clear hbys hp
        by_cases hp200 : 200 < p.length
        · have hp' : (200 : Int) < (p.length : Int) := by omega
          go_wp2_with fail
          go_ret2
          exact ⟨_, _, rfl, HB.out, fun e => by cases e⟩
        · have hp' : ¬ (200 : Int) < (p.length : Int) := by omega
          have HLE : Hid ((ps.take (k + 1)).flatten.length ≤ 200 * (k + 1)) := Lib.hid (by
            have := flat_take _ _ _ HP.out
            have := HL.out
            rw [flat_take _ _ _ HP.out, List.length_append]
            omega)
          have HA2 : Hid (∀ j q, j < k + 1 → ps[j]? = some q → q.length ≤ 200) := Lib.hid (fun j q hj hq => by
            by_cases e : j = k
            · subst e
              have := HP.out
              rw [hq] at this
              injection this with this
              subst this
              omega
            · exact HA.out j q (by omega) hq)
          go_wp2_with (at_builtin; refine wpl_append_bys rfl _ _ rfl w.heap.size _ _ rfl HO.out a' p.length c' p rfl HY.out ?c1 ?c2 ?_)
          case c1 => have h1 := HL.out; simp only [List.length_flatten, List.map_take] at h1 ⊢; omega
          case c2 => exact HB.out.size
          intro v w3 hown hg3 _
          have HB3 := Lib.hid (HB.out.trans (own_grown HO.out hg3 (Nat.le_refl _) HB.out.size))
          rw [← flat_take _ _ _ HP.out] at hown
          have HO3 := Lib.hid hown
          clear hown hg3 hcell
          go_wp2_with fail
          go_roundw
          case rel => exact ⟨k + 1, by omega, by go_num, HO3.out, HB3.out, HLE, HA2⟩
          case measure => simp [intOf]; omega
      · obtain rfl : k = n := by omega
        have e : Hid (ps.take k = ps) := Lib.hid (List.take_of_length_le (by rw [H.out.1]; exact Nat.le_refl _))
        have ho := HO.out
        rw [e.out] at ho
        have HO2 := Lib.hid ho
        clear ho HO
        go_wp2
        go_ret2
        refine ⟨_, _, rfl, HB.out, fun _ => ⟨HO2.out, by omega, fun p hp => ?_⟩⟩
        obtain ⟨j, hj, rfl⟩ := List.mem_iff_getElem.1 hp
        exact HA.out j _ (by have := H.out.1; omega) (List.getElem?_eq_getElem hj)
end Go.Proofs.Yticgknjjhkgggaa
