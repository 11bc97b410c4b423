/- The walk of SuspectTrusts. -/
import Derived.Test.YtgajbaipkhopkaaWl
namespace Go.Proofs.Ytgajbaipkhopkaa
open Go.RowKit

set_option maxRecDepth 100000 in
set_option maxHeartbeats 4000000 in
theorem trusts_walk (a0 a1 a2 a3 : Int) (a4 : Option Addr) (len4 cap4 : Nat) (z4 : List Int) (a5 : Option Addr) (len5 cap5 : Nat) (z5 : List Int) (w : World)
    (w4 : Row .i64 w a4 len4 z4) (w5 : Row .i64 w a5 len5 z5) :
    Calls Try.prog 4 #[.int .i64 a0, .int .i64 a1, .int .i64 a2, .int .i64 a3, .slice a4 len4 cap4, .slice a5 len5 cap5] w fun e w' => e = .returned (.bool true) ∧ Below w.heap.size w w' := by
  have W4 := Lib.hid w4; clear w4
  have W5 := Lib.hid w5; clear w5
  by_cases h40 : 40 < len4
  · have hq : (40 : Int) < (len4 : Int) := by omega
    go_enter Try.func4, Try.ntmps4
    go_wp2_with fail
    refine (works_any _).mono ?_
    rintro e w' ⟨rfl, hb⟩
    go_wp2
    go_ret
    exact ⟨rfl, hb⟩
  have hq : ¬ (40 : Int) < (len4 : Int) := by omega
  cases hok : newOk a0 a1 a2
  · have Hok := Lib.hid hok; clear hok
    go_enter Try.func4, Try.ntmps4
    go_wp2_with fail
    refine (new_no _ _ _ _ Hok.out).mono ?_
    rintro e w1 ⟨rfl, hb⟩
    go_wp2_with (go_at_call 14; refine (num_any _ _).mono ?_; rintro e w' ⟨rfl, rfl⟩)
    refine (works_any _).mono ?_
    rintro e w2 ⟨rfl, hb2⟩
    have hb3 := hb.trans (hb2.mono hb.size)
    go_wp2
    go_ret
    exact ⟨rfl, hb3⟩
  · by_cases hp : 0 ≤ a3 ∧ a3 < a0
    · obtain ⟨hp1, hp2⟩ := hp
      obtain ⟨hc1, hc2, hs1, hs2⟩ := newOk_self hok
      obtain ⟨pl, rfl⟩ : ∃ pl : Nat, a3 = pl := ⟨a3.toNat, by omega⟩
      obtain ⟨me, rfl⟩ : ∃ me : Nat, a1 = me := ⟨a1.toNat, by omega⟩
      have hT0 := Lib.hid (trust_new hok (k := pl) hp2 hs1)
      rw [Int.toNat_natCast] at hT0
      have Hok := Lib.hid hok; clear hok
      go_enter Try.func4, Try.ntmps4
      go_wp2_with fail
      refine (new_ok _ _ _ _ Hok.out).mono ?_
      rintro e w1 ⟨b, rfl, hbb, hW1, hb1⟩
      go_wp2_with (go_at_call 14; refine (num_any _ _).mono ?_; rintro e w' ⟨rfl, rfl⟩)
      have HW1 := Lib.hid hW1; clear hW1
      have HB1 := Lib.hid hb1; clear hb1
      go_loopw [15] (fun i wr => ∃ k : Nat, k ≤ len4 ∧ i = .int .i64 k ∧ ∃ s, Trust s a0 a2 me pl k ∧ (s.pl pl).since = s.now ∧ IsW wr b s ∧ Below w.heap.size w wr) (fun i _ => len4 - (intOf i).toNat)
      case atStart => exact ⟨0, Nat.zero_le _, rfl, _, hT0.out, rfl, HW1.out, HB1.out⟩
      case round =>
        obtain ⟨k, hk, rfl, s, hT, hsi, hW, hB⟩ := hrel
        have HT := Lib.hid hT; clear hT
        have HS := Lib.hid hsi; clear hsi
        have HW := Lib.hid hW; clear hW
        have HB := Lib.hid hB; clear hB
        by_cases hlt : k < len4
        · obtain ⟨b4, off4, rfl, hlt4, hc4⟩ := W4.out k hlt
          have c4 := (HB.out.cell (p := ⟨b4, off4 + k, none⟩) hlt4).trans hc4
          clear hc4
          generalize z4.getD k 0 = x at c4
          by_cases hx : 0 ≤ x ∧ x < a2
          · obtain ⟨hx1, hx2⟩ := hx
            have hnow := HT.out.now
            have hwait := HT.out.hwait
            have hw1 := HT.out.fair.w1
            have hsc : s.c = a0 := HT.out.hc
            have T1 := Lib.hid (trust_tick HT.out HS.out hx1 hx2 (by omega))
            have hpc : pl < s.c.toNat := by omega
            have hmc : me < s.c.toNat := by omega
            have Hn := Lib.hid hnow; have Hw := Lib.hid hwait; have Hsc := Lib.hid hsc
            clear hnow hwait hsc
            by_cases h5 : k < len5
            · have h5' : (k : Int) < (len5 : Int) := by omega
              obtain ⟨b5, off5, rfl, hlt5, hc5⟩ := W5.out k h5
              have HC5 := Lib.hid hc5; clear hc5
              go_wp2_with fail
              refine (tick_fair b s x _ HW.out HT.out.fair hx1 (by have := Hw.out; omega) (by have := Hn.out; have := Hw.out; omega)).mono ?_
              rintro e w2 ⟨ta, tc, rfl, _, hW2, hO2⟩
              have hB2 := HB.out.trans (hO2.below HB.out.size hbb)
              have c5 := (hB2.cell (p := ⟨b5, off5 + k, none⟩) hlt5).trans HC5.out
              generalize z5.getD k 0 = y at c5
              go_wp2_with fail
              refine (hear_all b _ y _ hW2 T1.out.fair).mono ?_
              rintro e w3 ⟨u, n, s2, rfl, hs2, hW3, hO3⟩
              have T2 : Trust s2 a0 a2 me pl (k + 1) := by
                rcases hs2 with rfl | ⟨p, _, rfl⟩
                · exact T1.out
                · exact trust_heard T1.out p
              have hB3 := hB2.trans (hO3.below hB2.size hbb)
              clear hW2 hO2 c5 hs2 hO3 hB2
              go_wp2_with fail
              refine (hear_as b s2 (s2.heard pl) pl _ false _ hW3 T2.fair (by rw [T2.hc]; omega) rfl T2.splace rfl).mono ?_
              rintro e w4 ⟨rfl, hW4, hO4⟩
              have T3 := trust_heard T2 pl
              have hB4 := hB3.trans (hO4.below hB3.size hbb)
              have q1 := T3.splace
              have q2 := T3.sself
              have Q1 := Lib.hid q1; have Q2 := Lib.hid q2
              have HT3 := Lib.hid T3
              have HB4 := Lib.hid hB4
              clear q1 q2 T3 hO4 hB3 hB4 hW3
              go_wp2_with (go_at_call 14; refine (num_any _ _).mono ?_; rintro e w' ⟨rfl, rfl⟩)
              refine (susp_in b _ pl _ hW4 HT3.out.fair.sane (by rw [HT3.out.hc]; omega)).mono ?_
              rintro e w' ⟨rfl, rfl⟩
              rw [Q1.out]
              go_wp2_with fail
              refine (susp_in b _ me _ hW4 HT3.out.fair.sane (by rw [HT3.out.hc]; omega)).mono ?_
              rintro e w' ⟨rfl, rfl⟩
              rw [Q2.out]
              have HW4 := Lib.hid hW4; clear hW4
              go_wp2_with fail
              go_roundw
              case rel => exact ⟨k + 1, by omega, by go_num, _, HT3.out, by simp [St.heard, St.put], HW4.out, HB4.out⟩
              case measure => simp [intOf]; omega
            · have h5' : ¬ (k : Int) < (len5 : Int) := by omega
              go_wp2_with fail
              refine (tick_fair b s x _ HW.out HT.out.fair hx1 (by have := Hw.out; omega) (by have := Hn.out; have := Hw.out; omega)).mono ?_
              rintro e w2 ⟨ta, tc, rfl, _, hW2, hO2⟩
              have hB2 := HB.out.trans (hO2.below HB.out.size hbb)
              have T2 := T1.out
              clear hO2
              go_wp2_with fail
              refine (hear_as b _ ((s.tick x).heard pl) pl _ false _ hW2 T2.fair (by rw [T2.hc]; omega) rfl T2.splace rfl).mono ?_
              rintro e w4 ⟨rfl, hW4, hO4⟩
              have T3 := trust_heard T2 pl
              have hB4 := hB2.trans (hO4.below hB2.size hbb)
              have q1 := T3.splace
              have q2 := T3.sself
              have Q1 := Lib.hid q1; have Q2 := Lib.hid q2
              have HT3 := Lib.hid T3
              have HB4 := Lib.hid hB4
              clear q1 q2 T3 hO4 hB2 hB4 hW2
              go_wp2_with (go_at_call 14; refine (num_any _ _).mono ?_; rintro e w' ⟨rfl, rfl⟩)
              refine (susp_in b _ pl _ hW4 HT3.out.fair.sane (by rw [HT3.out.hc]; omega)).mono ?_
              rintro e w' ⟨rfl, rfl⟩
              rw [Q1.out]
              go_wp2_with fail
              refine (susp_in b _ me _ hW4 HT3.out.fair.sane (by rw [HT3.out.hc]; omega)).mono ?_
              rintro e w' ⟨rfl, rfl⟩
              rw [Q2.out]
              have HW4 := Lib.hid hW4; clear hW4
              go_wp2_with fail
              go_roundw
              case rel => exact ⟨k + 1, by omega, by go_num, _, HT3.out, by simp [St.heard, St.put], HW4.out, HB4.out⟩
              case measure => simp [intOf]; omega
          · have hx' : x < 0 ∨ (0 ≤ x ∧ a2 ≤ x) := by omega
            rcases hx' with hx' | ⟨hx1, hx2⟩
            all_goals
              go_wp2_with fail
              refine (works_any _).mono ?_
              rintro e w2 ⟨rfl, hb2⟩
              have hb3 := HB.out.trans (hb2.mono HB.out.size)
              go_wp2
              go_ret
              exact ⟨rfl, hb3⟩
        · obtain rfl : k = len4 := by omega
          go_wp2_with fail
          refine (works_any _).mono ?_
          rintro e w2 ⟨rfl, hb2⟩
          have hb3 := HB.out.trans (hb2.mono HB.out.size)
          go_wp2
          go_ret
          exact ⟨rfl, hb3⟩
    · have Hok := Lib.hid hok; clear hok
      have hp' : a3 < 0 ∨ (0 ≤ a3 ∧ a0 ≤ a3) := by omega
      rcases hp' with hp' | ⟨hp1, hp2⟩
      all_goals
        go_enter Try.func4, Try.ntmps4
        go_wp2_with fail
        refine (new_ok _ _ _ _ Hok.out).mono ?_
        rintro e w1 ⟨b, rfl, _, _, hb⟩
        go_wp2_with (go_at_call 14; refine (num_any _ _).mono ?_; rintro e w' ⟨rfl, rfl⟩)
        refine (works_any _).mono ?_
        rintro e w2 ⟨rfl, hb2⟩
        have hb3 := hb.trans (hb2.mono hb.size)
        go_wp2
        go_ret
        exact ⟨rfl, hb3⟩
end Go.Proofs.Ytgajbaipkhopkaa
