/- What ticks and hearing make of a watch. -/
import Derived.Test.YtgajbaipkhopkaaWi
namespace Go.Proofs.Ytgajbaipkhopkaa
open Go.RowKit

/-- Ticks go by. -/
def St.tick (s : St) (n : Int) : St := (s.setNow (s.now + n)).tickTo s.c.toNat
def St.told (s : St) (n : Int) : List Int := (s.setNow (s.now + n)).outs s.c.toNat

/-- Waits stay within bounds. -/
structure Fair (s : St) : Prop where
  sane : Sane s
  w0 : 1 ≤ s.wait
  w1 : s.wait ≤ 1000000
  x0 : ∀ p, 0 ≤ (s.pl p).wait
  x1 : ∀ p, (s.pl p).wait ≤ 16 * s.wait

theorem fair_new {c self wait : Int} (h : newOk c self wait = true) (k : Nat) : Fair (St.new c self wait k) := by
  have h1 : rightB c = true ∧ inB wait 1 1000000 = true := by
    simp only [newOk, and3, Bool.and_eq_true] at h
    exact ⟨h.1.1, h.2⟩
  have h2 := right_bounds h1.1
  have h3 : 1 ≤ wait ∧ wait ≤ 1000000 := by simpa [inB] using h1.2
  refine ⟨⟨h2.1, h2.2, by simp [St.new], by simp [St.new], by simp [St.new], by simp [St.new]⟩, h3.1, h3.2, fun p => ?_, fun p => ?_⟩
  · simp only [St.new]; split <;> omega
  · simp only [St.new]; split <;> omega
theorem fair_tick {s : St} (h : Fair s) {n : Int} (h0 : 0 ≤ n) (h1 : s.now + n ≤ 4611686018427387904) : Fair (s.tick n) := by
  have hs := setNow_sane h.sane h0 h1
  refine ⟨⟨hs.c1, hs.c2, hs.now0, hs.now1, fun p => ?_, fun p => ?_⟩, h.w0, h.w1, fun p => ?_, fun p => ?_⟩
  · simp only [St.tick, St.tickTo]; split
    · exact hs.since0 p
    · exact hs.since0 p
  · simp only [St.tick, St.tickTo]; split
    · exact hs.since1 p
    · exact hs.since1 p
  · simp only [St.tick, St.tickTo]; split
    · exact h.x0 p
    · exact h.x0 p
  · simp only [St.tick, St.tickTo]; split
    · exact h.x1 p
    · exact h.x1 p
theorem fair_heard {s : St} (h : Fair s) (p : Nat) : Fair (s.heard p) := by
  have hs := h.sane
  refine ⟨⟨hs.c1, hs.c2, hs.now0, hs.now1, fun q => ?_, fun q => ?_⟩, h.w0, h.w1, fun q => ?_, fun q => ?_⟩
  · simp only [St.heard, St.put]; split
    · exact hs.now0
    · exact hs.since0 q
  · simp only [St.heard, St.put]; split
    · exact Int.le_refl _
    · exact hs.since1 q
  · simp only [St.heard, St.put]; split
    · have := h.x0 p; have := h.w0; simp only; split <;> omega
    · exact h.x0 q
  · simp only [St.heard, St.put]; split
    · have := h.x1 p; simp only; split <;> omega
    · exact h.x1 q

theorem tick_fair (b : Nat) (s : St) (n : Int) (w : World) (hW : IsW w b s) (hs : Fair s) (n0 : 0 ≤ n) (n1 : n ≤ 2147483647) (n2 : s.now + n ≤ 4611686018427387904) :
    Calls Try.prog 15 #[.pointer (some ⟨b, 0, none⟩), .int .i64 n] w fun e w' => ∃ a c, e = .returned (.tuple #[.slice a (s.told n).length c, .int .i64 0]) ∧
      Ints w' w.heap.size (.slice a (s.told n).length c) (s.told n) ∧ IsW w' b (s.tick n) ∧ Only b w w' :=
  (tick_ok b s n w hW hs.sane n0 n1 n2).mono fun e w' ⟨v, he, hI, h1, h2⟩ => by
    obtain ⟨a, c, hv, _⟩ := hI.ri
    subst hv
    exact ⟨a, c, he, hI, h1, h2⟩
theorem hear_fair (b : Nat) (s : St) (p : Nat) (w : World) (hW : IsW w b s) (hs : Fair s) (hp : p < s.c.toNat) :
    Calls Try.prog 16 #[.pointer (some ⟨b, 0, none⟩), .int .i64 p] w fun e w' => e = .returned (.tuple #[.bool (s.pl p).susp, .int .i64 0]) ∧ IsW w' b (s.heard p) ∧ Only b w w' := by
  cases hu : (s.pl p).susp
  · exact hear_no b s p w hW hs.sane hp hu
  · exact hear_yes b s p w hW hs.sane hp hu (by have := hs.w0; omega) hs.w1 (hs.x0 p) (by have := hs.x1 p; have := hs.w1; omega)
theorem all_any (v : Option Addr) (xs : List Wd) (w : World) (hG : Goes w v xs) :
    Calls Try.prog 18 #[.pointer v] w fun e W' => ∃ a c, e = .returned (.slice a (sus xs xs.length).length c) ∧ Ints W' w.heap.size (.slice a (sus xs xs.length).length c) ((sus xs xs.length).map Int.ofNat) ∧ Below w.heap.size w W' :=
  (callsIn_wide.1 (all_in v xs w hG)).mono fun e w' ⟨r, he, hI, hb⟩ => by
    obtain ⟨a, c, hv, _⟩ := hI.ri
    subst hv
    refine ⟨a, c, ?_, ?_, hb⟩
    · simpa using he
    · simpa using hI

def k0 : St := St.new 3 0 5 3
def k1 : St := k0.tick 4
def k2 : St := k1.tick 1
def k3 : St := k2.heard 1
def k4 : St := k3.tick 9
def k5 : St := k4.tick 1
def k6 : St := k5.heard 0
theorem f0 : Fair k0 := fair_new (by decide +kernel) _
theorem f1 : Fair k1 := fair_tick f0 (by decide) (by decide +kernel)
theorem f2 : Fair k2 := fair_tick f1 (by decide) (by decide +kernel)
theorem f3 : Fair k3 := fair_heard f2 1
theorem f4 : Fair k4 := fair_tick f3 (by decide) (by decide +kernel)
theorem f5 : Fair k5 := fair_tick f4 (by decide) (by decide +kernel)
theorem f6 : Fair k6 := fair_heard f5 0
theorem o1 : k0.told 4 = [] := by decide +kernel
theorem o2 : k1.told 1 = [1, 2] := by decide +kernel
theorem o3 : k3.told 9 = [] := by decide +kernel
theorem o4 : k4.told 1 = [1] := by decide +kernel
theorem o5 : sus k5.list k5.list.length = [1, 2] := by decide +kernel
theorem o6 : fmo (sus k2.list k2.list.length) = 0 := by decide +kernel
end Go.Proofs.Ytgajbaipkhopkaa
