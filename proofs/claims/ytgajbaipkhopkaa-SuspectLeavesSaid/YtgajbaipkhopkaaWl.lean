/- Whoever is heard of in time stays trusted: plain laws; a slice of integers that came in. -/
import Derived.Test.YtgajbaipkhopkaaWk
import Derived.ProofKit
import Derived.OpenShut
import Derived.ShutString
import Derived.ChangeOld
namespace Go.Proofs.Ytgajbaipkhopkaa
open Go.RowKit
open Go.ChangeShapes Go.WideShapes Go.ChangeAt
open Go.ChangeMaps (open_string shut_string)

theorem own : ownKnob Try.prog.godebug = none := by kernel_rfl
theorem laidOut : laidOutB Try.prog = true := by kernel_rfl

/-- A slice of integers that came in: nil, or a row of cells. -/
def IsRow (k : IntKind) (w : World) (a : Option Addr) (len cap : Nat) (zs : List Int) : Prop :=
  (a = none ∧ len = 0 ∧ cap = 0 ∧ zs = []) ∨
  ∃ x, a = some x ∧ len ≤ cap ∧ cap ≤ maxLen ∧ zs.length = cap ∧ (∀ i, i < zs.length → w.cell? (x.add i) = some (.int k (zs.getD i 0))) ∧ ∀ n ∈ zs, (Lit.int k n).wf = true

/-- .. as the walk wants it. -/
def Row (k : IntKind) (w : World) (a : Option Addr) (len : Nat) (zs : List Int) : Prop :=
  ∀ i, i < len → ∃ b off, a = some ⟨b, off, none⟩ ∧ b < w.heap.size ∧ w.cell? ⟨b, off + i, none⟩ = some (.int k (zs.getD i 0))
theorem IsRow.row {k : IntKind} {w : World} {a : Option Addr} {len cap : Nat} {zs : List Int} (h : IsRow k w a len cap zs) : Row k w a len zs := by
  rcases h with ⟨rfl, rfl, rfl, rfl⟩ | ⟨x, rfl, hl, hm, hz, hc, _⟩
  · intro i hi; omega
  · intro i hi
    obtain ⟨b, off, spot⟩ := x
    have h0 := hc 0 (by omega)
    have hs : spot = none := by simpa [Addr.add] using World.cell?_spot h0
    subst hs
    have h1 := hc i (by omega)
    refine ⟨b, off, rfl, ?_, ?_⟩
    · have := cell_lt h0; simpa [Addr.add] using this
    · unfold Addr.add at h1
      split at h1
      · rename_i e; subst e; exact h1
      · exact h1
theorem Row.below {k : IntKind} {w w' : World} {a : Option Addr} {len : Nat} {zs : List Int} (h : Row k w a len zs) (hb : Below w.heap.size w w') : Row k w' a len zs := by
  intro i hi
  obtain ⟨b, off, e, hlt, hc⟩ := h i hi
  exact ⟨b, off, e, Nat.lt_of_lt_of_le hlt hb.size, (hb.cell (p := ⟨b, off + i, none⟩) hlt).trans hc⟩

theorem tick_same {s : St} {n : Int} {p : Nat} (h : lateB (s.setNow (s.now + n)) p = false) : (s.tick n).pl p = s.pl p := by
  simp only [St.tick, St.tickTo]
  rw [if_neg (by simp [h])]
  rfl
theorem late_self {s : St} {p : Nat} (h : (p : Int) = s.self) : lateB s p = false := by simp [lateB, and3, h]
theorem late_soon {s : St} {p : Nat} (h : s.now - (s.pl p).since < (s.pl p).wait) : lateB s p = false := by simp [lateB, and3]; omega
theorem heard_same {s : St} {p q : Nat} (h : q ≠ p) : (s.heard p).pl q = s.pl q := by simp [St.heard, St.put, h]

theorem hear_all (b : Nat) (s : St) (x : Int) (w : World) (hW : IsW w b s) (hs : Fair s) :
    Calls Try.prog 16 #[.pointer (some ⟨b, 0, none⟩), .int .i64 x] w fun e w' => ∃ u n s', e = .returned (.tuple #[.bool u, .int .i64 n]) ∧ (s' = s ∨ ∃ p, p < s.c.toNat ∧ s' = s.heard p) ∧ IsW w' b s' ∧ Only b w w' := by
  cases h : inB x 0 (s.c - 1)
  · refine (hear_arg b s x w hW hs.sane h).mono ?_
    rintro e w' ⟨rfl, rfl⟩
    exact ⟨_, _, s, rfl, .inl rfl, hW, Only.refl _ _⟩
  · have h' : 0 ≤ x ∧ x ≤ s.c - 1 := by simpa [inB] using h
    obtain ⟨p, rfl⟩ : ∃ p : Nat, x = p := ⟨x.toNat, by omega⟩
    refine (hear_fair b s p w hW hs (by omega)).mono ?_
    rintro e w' ⟨rfl, h1, h2⟩
    exact ⟨_, _, _, rfl, .inr ⟨p, by omega, rfl⟩, h1, h2⟩

/-- What holds of a watch that hears of a place in time. -/
structure Trust (s : St) (c wait : Int) (me place : Nat) (k : Nat) : Prop where
  fair : Fair s
  hc : s.c = c
  hself : s.self = me
  hwait : s.wait = wait
  sself : (s.pl me).susp = false
  splace : (s.pl place).susp = false
  pwait : (s.pl place).wait = wait
  now : s.now ≤ k * 1000000

theorem trust_tick {s : St} {c wait : Int} {me place k : Nat} (h : Trust s c wait me place k) (hsi : (s.pl place).since = s.now) {n : Int} (n0 : 0 ≤ n) (n1 : n < wait) (hk : k ≤ 100) :
    Trust (s.tick n) c wait me place (k + 1) := by
  have hw1 := h.fair.w1
  have hw := h.hwait
  have hn := h.now
  have l1 : (s.tick n).pl me = s.pl me := tick_same (late_self h.hself.symm)
  have l2 : (s.tick n).pl place = s.pl place := tick_same (late_soon (by
    have := h.pwait
    show s.now + n - (s.pl place).since < (s.pl place).wait
    omega))
  exact ⟨fair_tick h.fair n0 (by omega), h.hc, h.hself, h.hwait, by rw [l1]; exact h.sself, by rw [l2]; exact h.splace, by rw [l2]; exact h.pwait, by show s.now + n ≤ _; push_cast; omega⟩

theorem trust_heard {s : St} {c wait : Int} {me place k : Nat} (h : Trust s c wait me place k) (p : Nat) : Trust (s.heard p) c wait me place k := by
  refine ⟨fair_heard h.fair p, h.hc, h.hself, h.hwait, ?_, ?_, ?_, h.now⟩
  · by_cases e : me = p
    · subst e; simp [St.heard, St.put]
    · rw [heard_same e]; exact h.sself
  · by_cases e : place = p
    · subst e; simp [St.heard, St.put]
    · rw [heard_same e]; exact h.splace
  · by_cases e : place = p
    · subst e; simp [St.heard, St.put, h.splace, h.pwait]
    · rw [heard_same e]; exact h.pwait
theorem trust_new {c self wait : Int} {k : Nat} (h : newOk c self wait = true) (hk : (k : Int) < c) (h0 : 0 ≤ self) : Trust (St.new c self wait c.toNat) c wait self.toNat k 0 := by
  refine ⟨fair_new h _, rfl, ?_, rfl, rfl, rfl, ?_, by simp [St.new]⟩
  · simp [St.new]; omega
  · simp only [St.new]; rw [if_pos (by omega)]
theorem newOk_self {c self wait : Int} (h : newOk c self wait = true) : 3 ≤ c ∧ c ≤ 9 ∧ 0 ≤ self ∧ self < c := by
  simp only [newOk, and3, Bool.and_eq_true] at h
  have h2 := right_bounds h.1.1
  have h3 := h.1.2
  rw [IntWalk.wrap64_in _ (by omega)] at h3
  simp [inB] at h3
  omega
end Go.Proofs.Ytgajbaipkhopkaa
