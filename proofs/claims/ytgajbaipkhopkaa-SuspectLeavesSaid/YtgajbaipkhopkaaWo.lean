/- The walk of SuspectEnds. -/
import Derived.Test.YtgajbaipkhopkaaWn
namespace Go.Proofs.Ytgajbaipkhopkaa
open Go.RowKit

set_option maxRecDepth 100000 in
set_option maxHeartbeats 8000000 in
theorem ends_walk (a0 a1 a2 a3 : Int) (a4 : Option Addr) (len4 cap4 : Nat) (z4 : List Int) (a5 : Int) (w : World) (w4 : Row .i64 w a4 len4 z4) :
    Calls Try.prog 5 #[.int .i64 a0, .int .i64 a1, .int .i64 a2, .int .i64 a3, .slice a4 len4 cap4, .int .i64 a5] w fun e w' => e = .returned (.bool true) ∧ Below w.heap.size w w' := by
  have W4 := Lib.hid w4; clear w4
  by_cases hout : 60 < len4 ∨ a5 < 1 ∨ 5 < a5
  · have hout' : 60 < len4 ∨ (len4 ≤ 60 ∧ a5 < 1) ∨ (len4 ≤ 60 ∧ 1 ≤ a5 ∧ 5 < a5) := by omega
    clear hout
    rcases hout' with h | ⟨h1, h2⟩ | ⟨h1, h2, h3⟩
    · have hq : (60 : Int) < (len4 : Int) := by omega
      go_enter Try.func5, Try.ntmps5
      go_wp2_with fail
      refine (works_any _).mono ?_
      rintro e w' ⟨rfl, hb⟩
      go_wp2
      go_ret
      exact ⟨rfl, hb⟩
    all_goals
      have hq : ¬ (60 : Int) < (len4 : Int) := by omega
      go_enter Try.func5, Try.ntmps5
      go_wp2_with fail
      refine (works_any _).mono ?_
      rintro e w' ⟨rfl, hb⟩
      go_wp2
      go_ret
      exact ⟨rfl, hb⟩
  obtain ⟨hl4, hs1, hs5⟩ : len4 ≤ 60 ∧ 1 ≤ a5 ∧ a5 ≤ 5 := by omega
  clear hout
  have hq : ¬ (60 : Int) < (len4 : Int) := by omega
  cases hok : newOk a0 a1 a2
  · have Hok := Lib.hid hok; clear hok
    go_enter Try.func5, Try.ntmps5
    go_wp2_with fail
    refine (new_no _ _ _ _ Hok.out).mono ?_
    rintro e w1 ⟨rfl, hb⟩
    go_wp2_with (go_at_call 14; refine (num_any _ _).mono ?_; rintro e w' ⟨rfl, rfl⟩)
    refine (works_any _).mono ?_
    rintro e w2 ⟨rfl, hb2⟩
    have hb3 := hb.trans (hb2.mono hb.size)
    go_wp2
    go_ret
    exact ⟨rfl, hb3⟩
  · by_cases hp : 0 ≤ a3 ∧ a3 < a0 ∧ a3 ≠ a1
    · obtain ⟨hp1, hp2, hp3⟩ := hp
      obtain ⟨hc1, hc2, hs1, hs2⟩ := newOk_self hok
      obtain ⟨pl, rfl⟩ : ∃ pl : Nat, a3 = pl := ⟨a3.toNat, by omega⟩
      obtain ⟨me, rfl⟩ : ∃ me : Nat, a1 = me := ⟨a1.toNat, by omega⟩
      have hE0 := ends_new hok (k := pl) hp2 hs1
      rw [Int.toNat_natCast] at hE0
      have hw0 : 1 ≤ a2 := hE0.fair.w0
      have hw1 : a2 ≤ 1000000 := hE0.fair.w1
      have HE0 := Lib.hid hE0; clear hE0
      have hne : ((pl : Int) == (me : Int)) = false := by rw [beq_eq_false_iff_ne]; exact hp3
      have Hpm : Hid (pl ≠ me) := Lib.hid (by omega)
      have Hpc : Hid (pl < a0.toNat) := Lib.hid (by omega)
      clear hp3
      have Hok := Lib.hid hok; clear hok
      go_enter Try.func5, Try.ntmps5
      go_wp2_with fail
      refine (new_ok _ _ _ _ Hok.out).mono ?_
      rintro e w1 ⟨b, rfl, hbb, hW1, hb1⟩
      go_wp2_with (go_at_call 14; refine (num_any _ _).mono ?_; rintro e w' ⟨rfl, rfl⟩)
      have HW1 := Lib.hid hW1; clear hW1
      have HB1 := Lib.hid hb1; clear hb1 hne
      go_loopw [15, 16] (fun tv i wr => ∃ k t : Nat, k ≤ len4 ∧ i = .int .i64 k ∧ tv = .int .i64 t ∧ ∃ s, Ends s a0 a2 me pl t s.now ∧ s.now ≤ k * 16000000 ∧ IsW wr b s ∧ Below w.heap.size w wr) (fun _ i _ => len4 - (intOf i).toNat)
      case atStart => exact ⟨0, 0, Nat.zero_le _, rfl, rfl, _, HE0.out, by simp [St.new], HW1.out, HB1.out⟩
      case round =>
        obtain ⟨k, t, hk, rfl, rfl, s, hE, hnow, hW, hB⟩ := hrel
        have HE := Lib.hid hE; clear hE
        have HW := Lib.hid hW; clear hW
        have HB := Lib.hid hB; clear hB
        have ht4 : t ≤ 4 := HE.out.t4
        by_cases hlt : k < len4
        · obtain ⟨b4, off4, rfl, hlt4, hc4⟩ := W4.out k hlt
          have c4 := (HB.out.cell (p := ⟨b4, off4 + k, none⟩) hlt4).trans hc4
          clear hc4
          generalize z4.getD k 0 = x at c4
          by_cases hx : 0 ≤ x ∧ x < 16 * a2
          · obtain ⟨hx1, hx2⟩ := hx
            obtain ⟨nw, hnw⟩ : ∃ nw, nw = s.now := ⟨_, rfl⟩
            have Hnw := Lib.hid hnw
            rw [← hnw] at hnow
            clear hnw
            have hn0 : 0 ≤ nw := by rw [Hnw.out]; exact HE.out.fair.sane.now0
            go_wp2_with fail
            go_loopw [17, 18] (fun lv j wi => ∃ (q : Nat) (lf : Int) (s2 : St), (q : Int) ≤ a5 ∧ j = .int .i64 q ∧ lv = .int .i64 lf ∧ 0 ≤ lf ∧ lf ≤ x ∧ Ends s2 a0 a2 me pl t nw ∧ s2.now = nw + (x - lf) ∧ IsW wi b s2 ∧ Below w.heap.size w wi) (fun _ j _ => a5.toNat - (intOf j).toNat)
            case atStart => exact ⟨0, x, s, by omega, rfl, rfl, hx1, Int.le_refl _, by rw [Hnw.out]; exact HE.out, by rw [Hnw.out]; omega, HW.out, HB.out⟩
            case round =>
              obtain ⟨q, lf, s2, hq, rfl, rfl, hlf0, hlf1, hE2, hnow2, hW2, hB2⟩ := hrel
              have HE2 := Lib.hid hE2; clear hE2
              have HW2 := Lib.hid hW2; clear hW2
              have HB2 := Lib.hid hB2; clear hB2
              have HN2 := Lib.hid hnow2; clear hnow2
              by_cases hqs : (q : Int) < a5
              · obtain ⟨d0, d1⟩ := part_le lf (a5 - q) hlf0 (by omega)
                go_wp2_with fail
                generalize lf / (a5 - (q : Int)) = n at d0 d1 ⊢
                have hnb : s2.now + n ≤ 4611686018427387904 := by have := HN2.out; omega
                refine (tick_fair b s2 n _ HW2.out HE2.out.fair d0 (by omega) hnb).mono ?_
                rintro e w3 ⟨ta, tc, rfl, _, hW3, hO3⟩
                have HE3 := Lib.hid (ends_tick HE2.out d0 hnb)
                have HB3 := Lib.hid (HB2.out.trans (hO3.below HB2.out.size hbb))
                have HW3 := Lib.hid hW3
                have HN3 : Hid ((s2.tick n).now = nw + (x - (lf - n))) := Lib.hid (by show s2.now + n = _; have := HN2.out; omega)
                clear hW3 hO3 hnb
                go_wp2_with fail
                go_roundw
                case rel => exact ⟨q + 1, lf - n, _, by omega, by go_num, rfl, by omega, by omega, HE3.out, HN3.out, HW3.out, HB3.out⟩
                case measure => simp [intOf]; omega
              · have hpc : pl < s2.c.toNat := by rw [HE2.out.hc]; exact Hpc.out
                obtain ⟨t', hE3, ht'⟩ := ends_heard HE2.out (by have := HN2.out; omega)
                have HE3 := Lib.hid hE3; clear hE3
                have HT := Lib.hid ht'; clear ht'
                have HP := Lib.hid hpc; clear hpc
                cases hu : (s2.pl pl).susp
                · have HU := Lib.hid hu; clear hu
                  have HT2 : Hid (t' = t) := Lib.hid (by have := HT.out; rw [HU.out] at this; simpa using this)
                  go_wp2_with fail
                  refine (hear_as b s2 (s2.heard pl) pl _ false _ HW2.out HE2.out.fair HP.out rfl HU.out rfl).mono ?_
                  rintro e w4 ⟨rfl, hW4, hO4⟩
                  have HB4 := Lib.hid (HB2.out.trans (hO4.below HB2.out.size hbb))
                  have HW4 := Lib.hid hW4
                  clear hW4 hO4
                  go_wp2_with fail
                  go_roundw
                  case rel => exact ⟨k + 1, t, by omega, by go_num, rfl, _, by rw [← HT2.out]; exact HE3.out, by show s2.now ≤ _; have := HN2.out; push_cast; omega, HW4.out, HB4.out⟩
                  case measure => simp [intOf]; omega
                · have HU := Lib.hid hu; clear hu
                  have HT2 : Hid (t' = t + 1) := Lib.hid (by have := HT.out; rw [HU.out] at this; simpa using this)
                  go_wp2_with fail
                  refine (hear_as b s2 (s2.heard pl) pl _ true _ HW2.out HE2.out.fair HP.out rfl HU.out rfl).mono ?_
                  rintro e w4 ⟨rfl, hW4, hO4⟩
                  have HB4 := Lib.hid (HB2.out.trans (hO4.below HB2.out.size hbb))
                  have HW4 := Lib.hid hW4
                  clear hW4 hO4
                  go_wp2_with fail
                  go_roundw
                  case rel => exact ⟨k + 1, t + 1, by omega, by go_num, by go_num, _, by rw [← HT2.out]; exact HE3.out, by show s2.now ≤ _; have := HN2.out; push_cast; omega, HW4.out, HB4.out⟩
                  case measure => simp [intOf]; omega
          · have hx' : x < 0 ∨ (0 ≤ x ∧ 16 * a2 ≤ x) := by omega
            clear hx
            rcases hx' with hx' | ⟨hx1, hx2⟩
            all_goals
              go_wp2_with fail
              refine (works_any _).mono ?_
              rintro e w2 ⟨rfl, hb2⟩
              have hb3 := HB.out.trans (hb2.mono HB.out.size)
              go_wp2
              go_ret
              exact ⟨rfl, hb3⟩
        · obtain rfl : k = len4 := by omega
          have ht5 : ¬ (4 : Int) < (t : Int) := by omega
          have hn0 : 0 ≤ s.now := HE.out.fair.sane.now0
          have Hn0 := Lib.hid hn0
          have Hnow := Lib.hid hnow
          clear hn0 hnow
          have hm1 : 0 ≤ 16 * a2 - 1 := by omega
          have hm2 : s.now + (16 * a2 - 1) ≤ 4611686018427387904 := by have := Hnow.out; omega
          have HE2 := Lib.hid (ends_tick HE.out hm1 hm2)
          have HM := Lib.hid hm2
          clear hm2
          go_wp2_with fail
          refine (tick_fair b s (16 * a2 - 1) _ HW.out HE.out.fair hm1 (by omega) HM.out).mono ?_
          rintro e w3 ⟨ta, tc, rfl, _, hW3, hO3⟩
          have HB3 := Lib.hid (HB.out.trans (hO3.below HB.out.size hbb))
          have HW3 := Lib.hid hW3
          clear hW3 hO3
          have hpc : pl < (s.tick (16 * a2 - 1)).c.toNat := by rw [HE2.out.hc]; exact Hpc.out
          have hpc3 : pl < ((s.tick (16 * a2 - 1)).tick 1).c.toNat := hpc
          have hm3 : (s.tick (16 * a2 - 1)).now + 1 ≤ 4611686018427387904 := by show s.now + (16 * a2 - 1) + 1 ≤ _; have := Hnow.out; omega
          have hlast := ends_last HE2.out hpc Hpm.out (by show 16 * a2 ≤ s.now + (16 * a2 - 1) + 1 - s.now; omega)
          have HE3 := Lib.hid (fair_tick HE2.out.fair (n := 1) (by omega) hm3)
          have HM3 := Lib.hid hm3
          have HL := Lib.hid hlast
          have HP3 := Lib.hid hpc3
          clear hpc hpc3 hm3 hlast
          go_wp2_with fail
          refine (tick_fair b _ 1 _ HW3.out HE2.out.fair (by omega) (by omega) HM3.out).mono ?_
          rintro e w4 ⟨ta, tc, rfl, _, hW4, hO4⟩
          have HB4 := Lib.hid (HB3.out.trans (hO4.below HB3.out.size hbb))
          have HW4 := Lib.hid hW4
          clear hW4 hO4
          go_wp2_with (go_at_call 14; refine (num_any _ _).mono ?_; rintro e w' ⟨rfl, rfl⟩)
          refine (susp_in b _ pl _ HW4.out HE3.out.sane HP3.out).mono ?_
          rintro e w' ⟨rfl, rfl⟩
          rw [HL.out]
          go_wp2_with fail
          refine (works_any _).mono ?_
          rintro e w5 ⟨rfl, hb5⟩
          have hb6 := HB4.out.trans (hb5.mono HB4.out.size)
          go_wp2
          go_ret
          exact ⟨rfl, hb6⟩
    · have Hok := Lib.hid hok; clear hok
      have hp' : a3 < 0 ∨ (0 ≤ a3 ∧ a0 ≤ a3) ∨ (0 ≤ a3 ∧ a3 < a0 ∧ a3 = a1) := by omega
      clear hp
      rcases hp' with hp' | ⟨hp1, hp2⟩ | ⟨hp1, hp2, rfl⟩
      all_goals
        go_enter Try.func5, Try.ntmps5
        go_wp2_with fail
        refine (new_ok _ _ _ _ Hok.out).mono ?_
        rintro e w1 ⟨b, rfl, _, _, hb⟩
        go_wp2_with (go_at_call 14; refine (num_any _ _).mono ?_; rintro e w' ⟨rfl, rfl⟩)
        refine (works_any _).mono ?_
        rintro e w2 ⟨rfl, hb2⟩
        have hb3 := hb.trans (hb2.mono hb.size)
        go_wp2
        go_ret
        exact ⟨rfl, hb3⟩
end Go.Proofs.Ytgajbaipkhopkaa
