/- The chapter's rows: works answers true. -/
import Derived.Test.YtgajbaipkhopkaaWj
namespace Go.Proofs.Ytgajbaipkhopkaa
open Go.RowKit

theorem tick_as (b : Nat) (s s' : St) (n : Int) (out : List Int) (m : Nat) (w : World) (hW : IsW w b s) (hs : Fair s) (n0 : 0 ≤ n) (n1 : n ≤ 2147483647) (n2 : s.now + n ≤ 4611686018427387904) (he : s.told n = out) (hm : out.length = m) (hs' : s.tick n = s') :
    Calls Try.prog 15 #[.pointer (some ⟨b, 0, none⟩), .int .i64 n] w fun e w' => ∃ a c, e = .returned (.tuple #[.slice a m c, .int .i64 0]) ∧
      Ints w' w.heap.size (.slice a m c) out ∧ IsW w' b s' ∧ Only b w w' := by
  subst he; subst hm; subst hs'
  exact tick_fair b s n w hW hs n0 n1 n2
theorem hear_as (b : Nat) (s s' : St) (p : Nat) (i : Int) (u : Bool) (w : World) (hW : IsW w b s) (hs : Fair s) (hp : p < s.c.toNat) (hi : i = p) (hu : (s.pl p).susp = u) (hs' : s.heard p = s') :
    Calls Try.prog 16 #[.pointer (some ⟨b, 0, none⟩), .int .i64 i] w fun e w' => e = .returned (.tuple #[.bool u, .int .i64 0]) ∧ IsW w' b s' ∧ Only b w w' := by
  subst hi; subst hu; subst hs'
  exact hear_fair b s p w hW hs hp
theorem foremost_as (b : Nat) (s : St) (i : Int) (w : World) (hW : IsW w b s) (hs : Fair s) (hi : i = fmo (sus s.list s.list.length)) :
    Calls Try.prog 19 #[.pointer (some ⟨b, 0, none⟩)] w fun e W' => e = .returned (.int .i64 i) ∧ Below w.heap.size w W' := by
  subst hi
  exact foremost_any _ _ _ (goes_any hW hs.sane)
theorem all_as (b : Nat) (s : St) (l : List Nat) (m : Nat) (w : World) (hW : IsW w b s) (hs : Fair s) (hl : sus s.list s.list.length = l) (hm : l.length = m) :
    Calls Try.prog 18 #[.pointer (some ⟨b, 0, none⟩)] w fun e W' => ∃ a c, e = .returned (.slice a m c) ∧ Ints W' w.heap.size (.slice a m c) (l.map Int.ofNat) ∧ Below w.heap.size w W' := by
  subst hl; subst hm
  exact all_any _ _ _ (goes_any hW hs.sane)

theorem ints_as (v1 v2 : Value) (xs ys : List Int) (u : Bool) (w : World) (h1 : RI w v1 xs) (h2 : RI w v2 ys) (hm : xs.length ≤ 1000000) (hu : decide (xs = ys) = u) :
    Calls Try.prog 25 #[v1, v2] w fun e w' => e = .returned (.bool u) ∧ Below w.heap.size w w' :=
  (ints_any v1 v2 xs ys w h1 h2 hm).mono fun e w' ⟨he, m, hw⟩ => by
    subst hu; subst hw
    exact ⟨he, below_drewN (Below.refl _ _) m⟩
theorem kept_only {w w' : World} {base b : Nat} {v : Value} {xs : List Int} (h : Ints w base v xs) (hO : Only b w w') (hb : b < base) : Ints w' base v xs := h.only hO hb

set_option maxRecDepth 100000 in
set_option maxHeartbeats 2000000 in
theorem works_any (w : World) : Calls Try.prog 8 #[] w fun e w' => e = .returned (.bool true) ∧ Below w.heap.size w w' := by
  go_enter Try.func8, Try.ntmps8
  go_wp2_with fail
  refine (new_ok 3 0 5 _ (by decide +kernel)).mono ?_
  rintro e w1 ⟨b, rfl, hb, W1, B1⟩
  have W1 : IsW w1 b k0 := W1
  go_wp2_with fail
  refine (tick_as b k0 k1 4 [] 0 _ W1 f0 (by decide) (by decide) (by decide +kernel) o1 rfl rfl).mono ?_
  rintro e w2 ⟨a2, c2, rfl, I2, W2, O2⟩
  have hz2 := W2.lt
  go_wp2_with fail
  refine (tick_as b k1 k2 1 [1, 2] 2 _ W2 f1 (by decide) (by decide) (by decide +kernel) o2 rfl rfl).mono ?_
  rintro e w3 ⟨a3, c3, rfl, I3, W3, O3⟩
  go_wp2_with fail
  refine (foremost_as b k2 0 _ W3 f2 (by rw [o6]; rfl)).mono ?_
  rintro e w4 ⟨rfl, B4⟩
  have O4 : Only b w3 w4 := Only.of_below B4 b
  have W4 := W3.below B4 W3.lt
  go_wp2_with fail
  refine (hear_as b k2 k3 1 1 true _ W4 f2 (by decide +kernel) rfl (by decide +kernel) rfl).mono ?_
  rintro e w5 ⟨rfl, W5, O5⟩
  go_wp2_with fail
  refine (tick_as b k3 k4 9 [] 0 _ W5 f3 (by decide) (by decide) (by decide +kernel) o3 rfl rfl).mono ?_
  rintro e w6 ⟨a6, c6, rfl, I6, W6, O6⟩
  go_wp2_with fail
  refine (tick_as b k4 k5 1 [1] 1 _ W6 f4 (by decide) (by decide) (by decide +kernel) o4 rfl rfl).mono ?_
  rintro e w7 ⟨a7, c7, rfl, I7, W7, O7⟩
  go_wp2_with fail
  refine (all_as b k5 [1, 2] 2 _ W7 f5 o5 rfl).mono ?_
  rintro e w8 ⟨a8, c8, rfl, I8, B8⟩
  have O8 : Only b w7 w8 := Only.of_below B8 b
  have W8 := W7.below B8 W7.lt
  go_wp2_with fail
  refine (hear_as b k5 k6 0 0 false _ W8 f5 (by decide +kernel) rfl (by decide +kernel) rfl).mono ?_
  rintro e w9 ⟨rfl, W9, O9⟩
  go_wp2_with fail
  refine (hear_arg b k6 3 _ W9 f6.sane (by decide +kernel)).mono ?_
  rintro e w' ⟨rfl, rfl⟩
  go_wp2_with fail
  refine (tick_arg b k6 (-1) _ W9 f6.sane (by decide +kernel)).mono ?_
  rintro e w' ⟨rfl, rfl⟩
  have O79 := O8.trans O9
  have O49 := (((O4.trans O5).trans O6).trans O7).trans O79
  have Oall := ((O2.trans O3).trans O49).below B1.size hb
  have Ball := Lib.hid (B1.trans Oall)
  have R3 := Lib.hid (kept_only I3 O49 W2.lt).ri
  have R7 := Lib.hid (kept_only I7 O79 W6.lt).ri
  have R8 := Lib.hid (kept_only I8 O9 W7.lt).ri
  clear I2 I3 I6 I7 I8 O2 O3 O4 O5 O6 O7 O8 O9 O79 O49 Oall W1 W2 W3 W4 W5 W6 W7 W8 W9 B1 B4 B8 hz2
  go_wp2_with (go_at_call 14; refine (num_any _ _).mono ?_; rintro e w' ⟨rfl, rfl⟩)
  refine (ints_as _ _ [1, 2] [1, 2] true _ (R3.out.kept ((Below.refl _ _).alloc (Nat.le_refl _) _)) (RI.lit (t := 3) (heap_alloc_new w9 _)) (by simp) (by decide)).mono ?_
  rintro e wA ⟨rfl, BA⟩
  have BA' := ((Below.refl w9.heap.size w9).alloc (Nat.le_refl _) (.cells #[.int .i64 1, .int .i64 2] 3)).trans (BA.mono (by simp))
  have R7' := Lib.hid (R7.out.kept BA')
  have R8' := Lib.hid (R8.out.kept BA')
  have Ball' := Lib.hid (Ball.out.trans (BA'.mono Ball.out.size))
  clear BA BA' R3 R7 R8 Ball
  go_wp2_with fail
  refine (ints_as _ _ [1] [1] true _ (R7'.out.kept ((Below.refl _ _).alloc (Nat.le_refl _) _)) (RI.lit (t := 3) (heap_alloc_new wA _)) (by simp) (by decide)).mono ?_
  rintro e wB ⟨rfl, BA⟩
  have BA' := ((Below.refl wA.heap.size wA).alloc (Nat.le_refl _) (.cells #[.int .i64 1] 3)).trans (BA.mono (by simp))
  have R8 := Lib.hid (R8'.out.kept BA')
  have Ball := Lib.hid (Ball'.out.trans (BA'.mono Ball'.out.size))
  clear BA BA' R7' R8' Ball'
  go_wp2_with fail
  refine (ints_as _ _ [1, 2] [1, 2] true _ (R8.out.kept ((Below.refl _ _).alloc (Nat.le_refl _) _)) (RI.lit (t := 3) (heap_alloc_new wB _)) (by simp) (by decide)).mono ?_
  rintro e wC ⟨rfl, BA⟩
  have BA' := ((Below.refl wB.heap.size wB).alloc (Nat.le_refl _) (.cells #[.int .i64 1, .int .i64 2] 3)).trans (BA.mono (by simp))
  have Ball' := Lib.hid (Ball.out.trans (BA'.mono Ball.out.size))
  clear BA BA' R8 Ball
  go_wp2_with (go_at_call 14; refine (num_any _ _).mono ?_; rintro e w' ⟨rfl, rfl⟩)
  go_ret
  exact ⟨rfl, Ball'.out⟩
end Go.Proofs.Ytgajbaipkhopkaa
