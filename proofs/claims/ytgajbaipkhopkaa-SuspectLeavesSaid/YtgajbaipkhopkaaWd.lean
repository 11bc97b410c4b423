/- Contracts: ticks refused; a place is heard of. -/
import Derived.Test.YtgajbaipkhopkaaWc
namespace Go.Proofs.Ytgajbaipkhopkaa
open Go.RowKit

/-- There is no watch: nil, or one of no places. -/
def NoW (w : World) (v : Option Addr) : Prop := v = none ∨ ∃ b, v = some ⟨b, 0, none⟩ ∧ w.cell? ⟨b, 1, none⟩ = some (.int .i64 0)

theorem none_yes (v : Option Addr) (w : World) (h : NoW w v) :
    Calls Try.prog 35 #[.pointer v] w fun e w' => e = .returned (.bool true) ∧ w = w' := by
  rcases h with rfl | ⟨b, rfl, h⟩
  · exact none_nil w
  · exact none_no b 0 w h

set_option maxHeartbeats 400000 in
theorem tick_nil (v : Option Addr) (n : Int) (w : World) (h : NoW w v) :
    Calls Try.prog 15 #[.pointer v, .int .i64 n] w fun e w' => e = .returned (.tuple #[.slice none 0 0, .int .i64 1]) ∧ w = w' := by
  have H := Lib.hid h; clear h
  go_enter Try.func15, Try.ntmps15
  go_wp2_with fail
  refine (none_yes _ _ H.out).mono ?_; rintro e w' ⟨rfl, rfl⟩
  go_wp2
  go_ret2
  exact ⟨rfl, rfl⟩

set_option maxHeartbeats 400000 in
theorem tick_arg (b : Nat) (s : St) (n : Int) (w : World) (hW : IsW w b s) (hs : Sane s) (n0 : inB n 0 2147483647 = false) :
    Calls Try.prog 15 #[.pointer (some ⟨b, 0, none⟩), .int .i64 n] w fun e w' => e = .returned (.tuple #[.slice none 0 0, .int .i64 2]) ∧ w = w' := by
  have c1 := hs.c1
  have h1 := hW.c1
  have hc0 : (s.c == 0) = false := by rw [beq_eq_false_iff_ne]; omega
  have Hc0 := Lib.hid hc0; clear hc0
  have Hi1 := Lib.hid n0; clear n0
  go_enter Try.func15, Try.ntmps15
  go_wp2_with fail
  refine (none_no _ _ _ h1).mono ?_; rintro e w' ⟨rfl, rfl⟩
  rw [Hc0.out]
  go_wp2_with fail
  refine (in64 _ _ _ _).mono ?_; rintro e w' ⟨rfl, rfl⟩
  rw [Hi1.out]
  go_wp2
  go_ret2
  exact ⟨rfl, rfl⟩

set_option maxHeartbeats 400000 in
theorem tick_long (b : Nat) (s : St) (n : Int) (w : World) (hW : IsW w b s) (hs : Sane s) (n0 : inB n 0 2147483647 = true) (n2 : 4611686018427387904 < s.now + n) :
    Calls Try.prog 15 #[.pointer (some ⟨b, 0, none⟩), .int .i64 n] w fun e w' => e = .returned (.tuple #[.slice none 0 0, .int .i64 3]) ∧ w = w' := by
  have c1 := hs.c1
  have h1 := hW.c1
  have h0 := hW.c0
  have hc0 : (s.c == 0) = false := by rw [beq_eq_false_iff_ne]; omega
  have Hc0 := Lib.hid hc0; clear hc0
  have hn : 0 ≤ n ∧ n ≤ 2147483647 := by simpa [inB] using n0
  obtain ⟨hn0, hn1⟩ := hn
  have hlt : 4611686018427387904 - n < s.now := by omega
  have Hi1 := Lib.hid n0; clear n0
  go_enter Try.func15, Try.ntmps15
  go_wp2_with fail
  refine (none_no _ _ _ h1).mono ?_; rintro e w' ⟨rfl, rfl⟩
  rw [Hc0.out]
  go_wp2_with fail
  refine (in64 _ _ _ _).mono ?_; rintro e w' ⟨rfl, rfl⟩
  rw [Hi1.out]
  go_wp2
  go_ret2
  exact ⟨rfl, rfl⟩

set_option maxHeartbeats 400000 in
theorem hear_nil (v : Option Addr) (n : Int) (w : World) (h : NoW w v) :
    Calls Try.prog 16 #[.pointer v, .int .i64 n] w fun e w' => e = .returned (.tuple #[.bool false, .int .i64 1]) ∧ w = w' := by
  have H := Lib.hid h; clear h
  go_enter Try.func16, Try.ntmps16
  go_wp2_with fail
  refine (none_yes _ _ H.out).mono ?_; rintro e w' ⟨rfl, rfl⟩
  go_wp2
  go_ret2
  exact ⟨rfl, rfl⟩

set_option maxHeartbeats 400000 in
theorem hear_arg (b : Nat) (s : St) (n : Int) (w : World) (hW : IsW w b s) (hs : Sane s) (n0 : inB n 0 (s.c - 1) = false) :
    Calls Try.prog 16 #[.pointer (some ⟨b, 0, none⟩), .int .i64 n] w fun e w' => e = .returned (.tuple #[.bool false, .int .i64 2]) ∧ w = w' := by
  have c1 := hs.c1
  have c2 := hs.c2
  have h1 := hW.c1
  have hc0 : (s.c == 0) = false := by rw [beq_eq_false_iff_ne]; omega
  have Hc0 := Lib.hid hc0; clear hc0
  have Hi1 := Lib.hid n0; clear n0
  go_enter Try.func16, Try.ntmps16
  go_wp2_with fail
  refine (none_no _ _ _ h1).mono ?_; rintro e w' ⟨rfl, rfl⟩
  rw [Hc0.out]
  go_wp2_with fail
  refine (inI _ _ _ _).mono ?_; rintro e w' ⟨rfl, rfl⟩
  rw [Hi1.out]
  go_wp2
  go_ret2
  exact ⟨rfl, rfl⟩

/-- What hearing of place p makes of it. -/
def St.heard (s : St) (p : Nat) : St :=
  s.put p { since := s.now, wait := if (s.pl p).susp then min (2 * (s.pl p).wait) (16 * s.wait) else (s.pl p).wait, susp := false }

theorem put_put (s : St) (p : Nat) (x y : Wd) : (s.put p x).put p y = s.put p y := by
  simp only [St.put, St.mk.injEq, true_and]
  funext q
  by_cases h : q = p <;> simp [h]

set_option maxHeartbeats 1000000 in
theorem hear_yes (b : Nat) (s : St) (p : Nat) (w : World) (hW : IsW w b s) (hs : Sane s) (hp : p < s.c.toNat) (hu : (s.pl p).susp = true)
    (w0 : 0 ≤ s.wait) (w1 : s.wait ≤ 1000000) (x0 : 0 ≤ (s.pl p).wait) (x1 : (s.pl p).wait ≤ 16000000) :
    Calls Try.prog 16 #[.pointer (some ⟨b, 0, none⟩), .int .i64 p] w fun e w' => e = .returned (.tuple #[.bool true, .int .i64 0]) ∧ IsW w' b (s.heard p) ∧ Only b w w' := by
  have c1 := hs.c1
  have c2 := hs.c2
  have hp9 : p < 9 := by omega
  have h0 := hW.c0
  have h1 := hW.c1
  have h3 := hW.c3
  have g0 := hW.p0 hp9
  have g1 := hW.p1 hp9
  have g2 := hW.p2 hp9
  have f0 := hW.fz (4 + p * 3)
  have f1 := hW.fz (4 + p * 3 + 1)
  have f2 := hW.fz (4 + p * 3 + 2)
  rw [hu] at g2
  have hc0 : (s.c == 0) = false := by rw [beq_eq_false_iff_ne]; omega
  have Hc0 := Lib.hid hc0; clear hc0
  have hi1 : inB p 0 (s.c - 1) = true := by simp [inB]; omega
  have Hx1 := Lib.hid (IntWalk.i64_in (2 * (s.pl p).wait) (by omega))
  have Hx2 := Lib.hid (IntWalk.i64_in (16 * s.wait) (by omega))
  have Hm : Hid ((if 16 * s.wait < 2 * (s.pl p).wait then 16 * s.wait else 2 * (s.pl p).wait) = min (2 * (s.pl p).wait) (16 * s.wait)) := Lib.hid (by split <;> omega)
  have Hi1 := Lib.hid hi1; clear hi1
  go_enter Try.func16, Try.ntmps16
  go_wp2_with fail
  refine (none_no _ _ _ h1).mono ?_; rintro e w' ⟨rfl, rfl⟩
  rw [Hc0.out]
  go_wp2_with fail
  refine (inI _ _ _ _).mono ?_; rintro e w' ⟨rfl, rfl⟩
  rw [Hi1.out]
  go_wp2
  go_still_tail 14, (by kernel_rfl)
  change wpList _ _ _ _ _ w.drew
  have hWd := hW.drew
  have hOd := (Only.refl b w).drew
  clear h0 h1 h3 g0 g1 g2 f0 f1 f2 hW
  generalize w.drew = w2 at hWd hOd ⊢
  rw [Hx1.out, Hx2.out, Hm.out]
  have h0 := hWd.c0
  have g0 := hWd.p0 hp9
  have g1 := hWd.p1 hp9
  have g2 := hWd.p2 hp9
  have f0 := hWd.fz (4 + p * 3)
  have f1 := hWd.fz (4 + p * 3 + 1)
  have f2 := hWd.fz (4 + p * 3 + 2)
  go_wp2
  go_ret2
  refine ⟨rfl, ?_, ((hOd.setCell (.inl rfl) _).setCell (.inl rfl) _).setCell (.inl rfl) _⟩
  have := ((hWd.setWait hp9 (min (2 * (s.pl p).wait) (16 * s.wait))).setSince hp9 s.now).setSusp hp9 false
  rw [put_put, put_put] at this
  simpa [St.heard, hu, St.put] using this

set_option maxHeartbeats 1000000 in
theorem hear_no (b : Nat) (s : St) (p : Nat) (w : World) (hW : IsW w b s) (hs : Sane s) (hp : p < s.c.toNat) (hu : (s.pl p).susp = false) :
    Calls Try.prog 16 #[.pointer (some ⟨b, 0, none⟩), .int .i64 p] w fun e w' => e = .returned (.tuple #[.bool false, .int .i64 0]) ∧ IsW w' b (s.heard p) ∧ Only b w w' := by
  have c1 := hs.c1
  have c2 := hs.c2
  have hp9 : p < 9 := by omega
  have h0 := hW.c0
  have h1 := hW.c1
  have g0 := hW.p0 hp9
  have g2 := hW.p2 hp9
  have f0 := hW.fz (4 + p * 3)
  have f2 := hW.fz (4 + p * 3 + 2)
  rw [hu] at g2
  have hc0 : (s.c == 0) = false := by rw [beq_eq_false_iff_ne]; omega
  have Hc0 := Lib.hid hc0; clear hc0
  have hi1 : inB p 0 (s.c - 1) = true := by simp [inB]; omega
  have Hi1 := Lib.hid hi1; clear hi1
  go_enter Try.func16, Try.ntmps16
  go_wp2_with fail
  refine (none_no _ _ _ h1).mono ?_; rintro e w' ⟨rfl, rfl⟩
  rw [Hc0.out]
  go_wp2_with fail
  refine (inI _ _ _ _).mono ?_; rintro e w' ⟨rfl, rfl⟩
  rw [Hi1.out]
  go_wp2
  go_ret2
  refine ⟨rfl, ?_, ((Only.refl b w).setCell (.inl rfl) _).setCell (.inl rfl) _⟩
  have := (hW.setSince hp9 s.now).setSusp hp9 false
  rw [put_put] at this
  simpa [St.heard, hu, St.put] using this
end Go.Proofs.Ytgajbaipkhopkaa
