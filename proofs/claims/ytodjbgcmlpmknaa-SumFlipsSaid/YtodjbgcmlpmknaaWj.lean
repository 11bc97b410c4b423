/- Contracts: parts are put together. -/
import Derived.Test.YtodjbgcmlpmknaaWi
namespace Go.Proofs.Ytodjbgcmlpmknaa
open Go.RowKit

theorem run_zeros (n : Nat) (h0 : 0 < n) (hn : n ≤ 1000000000) (ty : TypeId) (w : World) :
    ∃ v w', (Builtin.append_ #[22, 3] ty #[.slice none 0 0, .int .i64 n]).run Try.prog w = .ok v w' ∧ (∃ c : Nat, v = .slice (some ⟨w.heap.size, 0, none⟩) n c ∧ n ≤ c ∧ c ≤ maxLen ∧ OwnB w' w.heap.size (.slice (some ⟨w.heap.size, 0, none⟩) 0 c) []) ∧ Below w.heap.size w w' := by
  obtain ⟨i0, hi, hz0, hz1, hz2⟩ := info_parts info5
  have h := Lib.run_append_grow_zeros w 22 3 ty 5 i0 (.int .u8 0) .i64 .i64 Try.underlying22 Try.underlying3 hi hz0 none 0 0 [] (run_firstCells_none w.drew i0.size 0 0 0) n h0 (by omega) (by omega) (by omega) (by rw [hz2]; omega) (growslice_fits (by omega) (by rw [hz2]; omega))
  refine ⟨_, _, h, ⟨_, by rw [Nat.zero_add], by have := grownCap_ge w (0 + n) 0 5; omega, grownCap_le_maxLen w (0 + n) 0 5 (by unfold maxLen; omega), ?_⟩, ?_⟩
  · refine World.ownsRow_made w.drew _ _ (Nat.le_refl _) (grownCap_le_maxLen w (0 + n) 0 5 (by unfold maxLen; omega)) ?_
    have := grownCap_ge w (0 + n) 0 5
    have e1 : (Value.int .u8 0).cells.size = 1 := rfl
    simp only [Builtin.zeroCells, Array.size_append, Array.size_map, Array.size_range, List.size_toArray, List.length_nil, e1]
    omega
  · exact (Below.refl w.heap.size w).drew.alloc (by simp) _

set_option maxHeartbeats 1000000 in
theorem grow_c (n : Nat) (hn : n ≤ 1000000000) (w : World) :
    Calls Try.prog 43 #[.slice none 0 0, .int .i64 n] w fun e w' => ∃ v, e = .returned v ∧ OwnB w' w.heap.size v [] ∧ Below w.heap.size w w' := by
  by_cases h0 : 0 < n
  · obtain ⟨v, w1, hrun, ⟨c, rfl, hc, hm, hown⟩, hB⟩ := run_zeros n h0 hn 22 w
    have Ho := Lib.hid hown; clear hown
    unfold maxLen at hm
    go_enter Try.func43, Try.ntmps43
    go_wp2_with (at_builtin; refine Lib.wpList_append_run _ rfl _ _ _ _ rfl _ _ rfl rfl _ _ hrun ?_)
    go_ret
    exact ⟨_, rfl, Ho.out, hB⟩
  · obtain rfl : n = 0 := by omega
    go_enter Try.func43, Try.ntmps43
    go_wp2
    go_ret
    exact ⟨_, rfl, ⟨by simp [bl], .inl ⟨rfl, rfl⟩⟩, Below.refl _ _⟩

theorem flat_take (ps : List (List By)) (k : Nat) (p : List By) (h : ps[k]? = some p) : (ps.take (k + 1)).flatten = (ps.take k).flatten ++ p := by
  rw [List.take_add_one, h]; simp
theorem flat_le (ps : List (List By)) (k : Nat) : (ps.take k).flatten.length ≤ ps.flatten.length := by
  conv => rhs; rw [← List.take_append_drop k ps]
  rw [List.flatten_append, List.length_append]
  omega

set_option maxHeartbeats 2000000 in
theorem concat_c (a : Option Addr) (n cp : Nat) (ps : List (List By)) (w : World) (hl : Prs w a n ps) (hn : n ≤ 1000000) (hf : ps.flatten.length ≤ 1000000000) :
    Calls Try.prog 35 #[.slice a n cp] w fun e w' => ∃ v, e = .returned v ∧ OwnB w' w.heap.size v ps.flatten ∧ Below w.heap.size w w' := by
  have HL := Lib.hid hl; clear hl
  have HF := Lib.hid hf; clear hf
  go_enter Try.func35, Try.ntmps35
  go_wp2
  go_loop [3, 11] (fun sv i => ∃ k m : Nat, k ≤ n ∧ i = .int .i64 k ∧ sv = .int .i64 m ∧ m = (ps.take k).flatten.length ∧ m ≤ 1000000000) (fun _ i => n - (intOf i).toNat)
  case atStart => exact ⟨0, 0, Nat.zero_le _, rfl, rfl, by simp, by omega⟩
  case round =>
    obtain ⟨k, m, hk, rfl, rfl, hm, hm2⟩ := hrel
    have HM := Lib.hid hm; clear hm
    by_cases hlt : k < n
    · obtain ⟨p, hp⟩ : ∃ p, ps[k]? = some p := ⟨ps[k]'(by rw [HL.out.1]; exact hlt), List.getElem?_eq_getElem _⟩
      obtain ⟨hpl, g, off, a', c', rfl, hg, hcell, hbys⟩ := HL.out.2 k p hp
      have HM2 : Hid (m + p.length = (ps.take (k + 1)).flatten.length) := Lib.hid (by rw [flat_take _ _ _ hp, List.length_append, HM.out])
      have hm3 : m + p.length ≤ 1000000000 := by rw [HM2.out]; exact Nat.le_trans (flat_le _ _) HF.out
      clear hbys hp
      go_wp2
      go_round
      case rel => exact ⟨k + 1, m + p.length, by omega, by go_num, by go_num, HM2.out, hm3⟩
      case measure => simp [intOf]; omega
    · obtain rfl : k = n := by omega
      have HM3 : Hid (m = ps.flatten.length) := Lib.hid (by rw [HM.out, List.take_of_length_le (by rw [HL.out.1]; exact Nat.le_refl _)])
      go_wp2_with fail
      refine (grow_c m hm2 _).mono ?_
      rintro e w1 ⟨v, rfl, ho, hb⟩
      have HO := Lib.hid ho; have HB := Lib.hid hb
      clear ho hb
      go_wp2_with fail
      go_loopw [6, 27] (fun vv i wr => ∃ k' : Nat, k' ≤ k ∧ i = .int .i64 k' ∧ OwnB wr w.heap.size vv (ps.take k').flatten ∧ Below w.heap.size w wr) (fun _ i _ => k - (intOf i).toNat)
      case atStart => exact ⟨0, Nat.zero_le _, rfl, by simpa using HO.out, HB.out⟩
      case round =>
        obtain ⟨k', hk', rfl, ho, hb⟩ := hrel
        have HO' := Lib.hid ho; have HB' := Lib.hid hb
        clear ho hb
        by_cases hlt' : k' < k
        · obtain ⟨p, hp⟩ : ∃ p, ps[k']? = some p := ⟨ps[k']'(by rw [HL.out.1]; exact hlt'), List.getElem?_eq_getElem _⟩
          obtain ⟨hpl, g, off, a', c', rfl, hg, hcell, hbys⟩ := (HL.out.below HB'.out).2 k' p hp
          have HY := Lib.hid hbys; clear hbys
          have HP := Lib.hid hp; clear hp
          obtain ⟨aa, cc, hvv, _, _⟩ := HO'.out.bys
          obtain ⟨m', hm'⟩ : ∃ m', m' = (ps.take k').flatten.length := ⟨_, rfl⟩
          rw [← hm'] at hvv
          subst hvv
          have HM' := Lib.hid hm'; clear hm'
          have hle : (ps.take k').flatten.length + p.length ≤ 1000000000 := by
            have := flat_take _ _ _ HP.out
            have h2 := flat_le ps (k' + 1)
            rw [this, List.length_append] at h2
            exact Nat.le_trans h2 HF.out
          have HLE := Lib.hid hle; clear hle
          go_wp2_with (at_builtin; refine wpl_append_bys rfl _ _ rfl w.heap.size _ _ rfl HO'.out a' p.length c' p rfl HY.out ?c1 ?c2 ?_)
          case c1 => exact Nat.le_trans HLE.out (by decide)
          case c2 => exact HB'.out.size
          intro v w3 hown hg3 _
          have HB3 := Lib.hid (HB'.out.trans (own_grown HO'.out hg3 (Nat.le_refl _) HB'.out.size))
          rw [← flat_take _ _ _ HP.out] at hown
          have HO3 := Lib.hid hown
          clear hown hg3 hcell
          go_wp2_with fail
          go_roundw
          case rel => exact ⟨k' + 1, by omega, by go_num, HO3.out, HB3.out⟩
          case measure => simp [intOf]; omega
        · obtain rfl : k' = k := by omega
          have e : Hid (ps.take k' = ps) := Lib.hid (List.take_of_length_le (by rw [HL.out.1]; exact Nat.le_refl _))
          go_wp2
          go_ret
          exact ⟨_, rfl, by rw [← e.out]; exact HO'.out, HB'.out⟩
end Go.Proofs.Ytodjbgcmlpmknaa
