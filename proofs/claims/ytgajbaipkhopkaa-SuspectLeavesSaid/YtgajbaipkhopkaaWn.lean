/- Whoever is not heard of any more is suspected: plain laws. -/
import Derived.Test.YtgajbaipkhopkaaWm
namespace Go.Proofs.Ytgajbaipkhopkaa
open Go.RowKit

/-- Wait, doubled so many times. -/
def dbl (wait : Int) : Nat → Int
  | 0 => wait
  | 1 => 2 * wait
  | 2 => 4 * wait
  | 3 => 8 * wait
  | _ => 16 * wait

/-- What holds of a watch while a place p was suspected t times; it was heard of at 'at_'. -/
structure Ends (s : St) (c wait : Int) (me p t : Nat) (at_ : Int) : Prop where
  fair : Fair s
  hc : s.c = c
  hself : s.self = me
  hwait : s.wait = wait
  psince : (s.pl p).since = at_
  pwait : (s.pl p).wait = dbl wait t
  t4 : t ≤ 4
  late : (s.pl p).susp = true → dbl wait t ≤ s.now - at_

theorem tick_late {s : St} {n : Int} {p : Nat} (hp : p < s.c.toNat) (h : lateB (s.setNow (s.now + n)) p = true) : ((s.tick n).pl p) = { s.pl p with susp := true } := by
  simp only [St.tick, St.tickTo]
  rw [if_pos ⟨hp, h⟩]
  rfl
theorem tick_since (s : St) (n : Int) (p : Nat) : ((s.tick n).pl p).since = (s.pl p).since := by
  simp only [St.tick, St.tickTo]; split <;> rfl
theorem tick_wait (s : St) (n : Int) (p : Nat) : ((s.tick n).pl p).wait = (s.pl p).wait := by
  simp only [St.tick, St.tickTo]; split <;> rfl
theorem late_is {s : St} {p : Nat} (h : lateB s p = true) : (s.pl p).wait ≤ s.now - (s.pl p).since := by
  simp only [lateB, and3, Bool.and_eq_true, decide_eq_true_eq] at h
  exact h.2
theorem tick_susp {s : St} {n : Int} {p : Nat} (h : (s.pl p).susp = true) : ((s.tick n).pl p).susp = true := by
  simp only [St.tick, St.tickTo]; split
  · rfl
  · exact h

theorem ends_tick {s : St} {c wait : Int} {me p t : Nat} {at_ : Int} (h : Ends s c wait me p t at_) {n : Int} (n0 : 0 ≤ n) (hn : s.now + n ≤ 4611686018427387904) : Ends (s.tick n) c wait me p t at_ := by
  refine ⟨fair_tick h.fair n0 hn, h.hc, h.hself, h.hwait, by rw [tick_since]; exact h.psince, by rw [tick_wait]; exact h.pwait, h.t4, fun hs => ?_⟩
  have hnow : (s.tick n).now = s.now + n := rfl
  rw [hnow]
  by_cases hu : (s.pl p).susp = true
  · have := h.late hu; omega
  · cases hl : lateB (s.setNow (s.now + n)) p
    · rw [tick_same hl] at hs; exact absurd hs hu
    · have := late_is hl
      have h1 := h.psince
      have h2 := h.pwait
      have e1 : ((s.setNow (s.now + n)).pl p) = s.pl p := rfl
      have e2 : (s.setNow (s.now + n)).now = s.now + n := rfl
      rw [e1, e2, h1, h2] at this
      omega

/-- It is heard of again, in less than 16 times Wait. -/
theorem ends_heard {s : St} {c wait : Int} {me p t : Nat} {at_ : Int} (h : Ends s c wait me p t at_) (hd : s.now - at_ < 16 * wait) :
    ∃ t', Ends (s.heard p) c wait me p t' s.now ∧ t' = (if (s.pl p).susp then t + 1 else t) := by
  have hw := h.hwait
  have hf := h.fair.w0
  have h4 := h.t4
  cases hu : (s.pl p).susp
  · refine ⟨t, ⟨fair_heard h.fair p, h.hc, h.hself, h.hwait, by simp [St.heard, St.put], by simp [St.heard, St.put, hu, h.pwait], h.t4, by simp [St.heard, St.put]⟩, by simp⟩
  · have hl := h.late hu
    have h3 : t ≤ 3 := by
      rcases Nat.lt_or_ge t 4 with h5 | h5
      · omega
      · obtain rfl : t = 4 := by omega
        simp only [dbl] at hl; omega
    refine ⟨t + 1, ⟨fair_heard h.fair p, h.hc, h.hself, h.hwait, by simp [St.heard, St.put], ?_, by omega, by simp [St.heard, St.put]⟩, by simp⟩
    have hp := h.pwait
    simp only [St.heard, St.put, if_true, hu]
    rw [hp, hw]
    have ht : t = 0 ∨ t = 1 ∨ t = 2 ∨ t = 3 := by omega
    rcases ht with rfl | rfl | rfl | rfl <;> simp only [dbl] <;> omega

theorem ends_new {c self wait : Int} {k : Nat} (h : newOk c self wait = true) (hk : (k : Int) < c) (h0 : 0 ≤ self) : Ends (St.new c self wait c.toNat) c wait self.toNat k 0 0 := by
  refine ⟨fair_new h _, rfl, ?_, rfl, rfl, ?_, by omega, by simp [St.new]⟩
  · simp [St.new]; omega
  · simp only [St.new]; rw [if_pos (by omega)]; rfl

/-- After 16 times Wait it is suspected. -/
theorem ends_last {s : St} {c wait : Int} {me p t : Nat} {at_ : Int} (h : Ends s c wait me p t at_) (hp : p < s.c.toNat) (hm : p ≠ me) (hat : 16 * wait ≤ s.now + 1 - at_) : ((s.tick 1).pl p).susp = true := by
  have hw := h.hwait
  have hf := h.fair.w0
  by_cases hu : (s.pl p).susp = true
  · exact tick_susp hu
  · have hl : lateB (s.setNow (s.now + 1)) p = true := by
      have h1 := h.psince
      have h2 := h.pwait
      have h3 : dbl wait t ≤ 16 * wait := by unfold dbl; split <;> omega
      simp only [lateB, and3, Bool.and_eq_true, decide_eq_true_eq]
      refine ⟨⟨?_, ?_⟩, ?_⟩
      · rw [bne_iff_ne]; show (p : Int) ≠ s.self; rw [h.hself]; omega
      · show (!(s.pl p).susp) = true; simpa using hu
      · show (s.pl p).wait ≤ s.now + 1 - (s.pl p).since; rw [h1, h2]; omega
    rw [tick_late hp hl]

theorem part_le (l d : Int) (h0 : 0 ≤ l) (h1 : 1 ≤ d) : 0 ≤ l / d ∧ l / d ≤ l :=
  ⟨Int.ediv_nonneg h0 (by omega), Int.ediv_le_self d h0⟩
end Go.Proofs.Ytgajbaipkhopkaa
