/- Bytes spelled, and the bytes of a text. -/
import Derived.Test.YtomnjhhpeglcnaaZ3
namespace Go.Proofs.Ytomnjhhpeglcnaa
open Go.RowKit
set_option linter.unusedSimpArgs false
set_option linter.unusedVariables false
set_option maxRecDepth 100000

/-- What a text's bytes are told as: by both alike. -/
def UnsV (W : World) (B : Nat) (l : List By) (a : Option Addr) (n c : Nat) (e : Int) : Prop :=
  ∃ y, Bys W a n y ∧ (∀ g off, a = some ⟨g, off, none⟩ → 0 < n → B ≤ g) ∧ ((unspellB l = some y ∧ e = 0) ∨ (unspellB l = none ∧ y = [] ∧ e = 160))
theorem UnsV.same {W W' : World} {B B' : Nat} {l : List By} {a a' : Option Addr} {n n' c c' : Nat} {e e' : Int} (h : UnsV W B l a n c e) (h' : UnsV W' B' l a' n' c' e') : ∃ y, Bys W a n y ∧ Bys W' a' n' y ∧ e = e' ∧ e ≤ 160 := by
  obtain ⟨y, h1, _, h2⟩ := h
  obtain ⟨y', h1', _, h2'⟩ := h'
  rcases h2 with ⟨h2, rfl⟩ | ⟨h2, rfl, rfl⟩
  · rcases h2' with ⟨h2', rfl⟩ | ⟨h2', rfl, rfl⟩
    · rw [h2] at h2'; injection h2' with h2'; subst h2'
      exact ⟨y, h1, h1', rfl, by decide⟩
    · rw [h2] at h2'; cases h2'
  · rcases h2' with ⟨h2', rfl⟩ | ⟨h2', rfl, rfl⟩
    · rw [h2] at h2'; cases h2'
    · exact ⟨[], h1, h1', rfl, by decide⟩
theorem UnsV.below {W W' : World} {B : Nat} {l : List By} {a : Option Addr} {n c : Nat} {e : Int} (h : UnsV W B l a n c e) (hb : Below W.heap.size W W') : UnsV W' B l a n c e := by
  obtain ⟨y, h1, h2, h3⟩ := h
  exact ⟨y, h1.below hb, h2, h3⟩
/-- What Unspell tells. -/
theorem unspell_v (s : ByteArray) (w : World) (hs : s.size ≤ 1000000) :
    Calls Try.prog 8 #[.string s] w fun r w' => (∃ a n c e, r = .returned (.tuple #[.slice a n c, .int .i64 e]) ∧ UnsV w' w.heap.size (strB s) a n c e) ∧ Below w.heap.size w w' := by
  refine (unspell_c s w hs).mono ?_
  rintro r w' ⟨hb, (⟨v, l, h1, rfl, ho⟩ | ⟨h1, rfl⟩)⟩
  · obtain ⟨a, c, rfl, hc, hy⟩ := ho.bys
    exact ⟨⟨a, _, c, 0, rfl, l, hy, fun g off e hn => (own_lt ho g (by rw [e]; rfl)).1, .inl ⟨h1, rfl⟩⟩, hb⟩
  · exact ⟨⟨none, 0, 0, 160, rfl, [], Bys.nil, fun g off e hn => by omega, .inr ⟨h1, rfl, rfl⟩⟩, hb⟩
theorem runspell_v (s : ByteArray) (w : World) (hs : s.size ≤ 10000) :
    Calls Try.prog 9 #[.string s] w fun r w' => (∃ a n c e, r = .returned (.tuple #[.slice a n c, .int .i64 e]) ∧ UnsV w' w.heap.size (strB s) a n c e) ∧ Below w.heap.size w w' := by
  refine (runspell_c s w hs).mono ?_
  rintro r w' ⟨hb, (⟨v, l, h1, rfl, ho⟩ | ⟨h1, rfl⟩)⟩
  · obtain ⟨a, c, rfl, hc, hy⟩ := ho.bys
    exact ⟨⟨a, _, c, 0, rfl, l, hy, fun g off e hn => (own_lt ho g (by rw [e]; rfl)).1, .inl ⟨h1, rfl⟩⟩, hb⟩
  · exact ⟨⟨none, 0, 0, 160, rfl, [], Bys.nil, fun g off e hn => by omega, .inr ⟨h1, rfl, rfl⟩⟩, hb⟩
set_option maxHeartbeats 8000000 in
theorem spells_walk (a : Option Addr) (len cap : Nat) (z : List By) (s : ByteArray) (w : World) (w0 : Bys w a len z ∧ len ≤ cap) :
    Calls Try.prog 3 #[.slice a len cap, .string s] w fun e w' => e = .returned (.bool true) ∧ Below w.heap.size w w' := by
  have HY := Lib.hid w0.1
  clear w0
  by_cases h1 : 200 < len
  · have q1 : (200 : Int) < (len : Int) := by omega
    go_enter Try.func3, Try.ntmps3
    go_wp2_with fail
    refine (tworks_c w).mono ?_
    rintro e w' ⟨rfl, hb⟩
    have HB := Lib.hid hb
    clear hb
    go_wp2_with fail
    go_ret
    exact ⟨rfl, HB.out⟩
  by_cases h2 : 300 < s.size
  · have q1 : ¬ (200 : Int) < (len : Int) := by omega
    have q2 : (300 : Int) < (s.size : Int) := by omega
    go_enter Try.func3, Try.ntmps3
    go_wp2_with fail
    refine (tworks_c w).mono ?_
    rintro e w' ⟨rfl, hb⟩
    have HB := Lib.hid hb
    clear hb
    go_wp2_with fail
    go_ret
    exact ⟨rfl, HB.out⟩
  have q1 : ¬ (200 : Int) < (len : Int) := by omega
  have q2 : ¬ (300 : Int) < (s.size : Int) := by omega
  have HOE := Lib.hid (own_empty w)
  have hal := (Below.refl w.heap.size w).alloc (Nat.le_refl _) (.cells #[] 5)
  have HYe := Lib.hid (HY.out.below hal)
  have HBe := Lib.hid hal
  clear hal
  go_enter Try.func3, Try.ntmps3
  go_wp2_with (at_builtin; refine wpl_append_bys rfl _ _ rfl w.heap.size _ [] rfl HOE.out a len cap z rfl HYe.out (by simp; omega) (by simp) ?_)
  intro v1 w1 ho1 hg1 hn1
  have HB1 := Lib.hid (HBe.out.grown hg1 HBe.out.size (fun k e => by simp [Value.ownBlock] at e; omega))
  have hal1 := (Below.refl w1.heap.size w1).alloc (Nat.le_refl _) (.cells #[.int .u8 77] 5)
  have HO1 := Lib.hid (ho1.below hal1)
  have HN1 := Lib.hid hn1
  have HY7 : Hid (Bys (w1.alloc (.cells #[.int .u8 77] 5)) (some ⟨w1.heap.size, 0, none⟩) 1 [77#8]) := Lib.hid (Bys.lit 5 rfl rfl)
  have HB2 := Lib.hid (HB1.out.trans (hal1.mono HB1.out.size))
  have hzl : z.length = len := HY.out.1
  have HZL := Lib.hid hzl
  clear ho1 hg1 hn1 hal1 HOE HYe HBe
  go_wp2_with (at_builtin; refine wpl_append_bys rfl _ _ rfl w.heap.size v1 z rfl HO1.out (some ⟨w1.heap.size, 0, none⟩) 1 1 [77#8] rfl HY7.out (by omega) HB2.out.size ?_)
  intro v2 w2 ho2 hg2 hn2
  obtain ⟨g, c2, hv2, hc2⟩ := OwnB.here ho2 (hn2 HN1.out)
  obtain ⟨m, hm⟩ : ∃ m, m = (z ++ [77#8]).length := ⟨_, rfl⟩
  have hm1 : m = len + 1 := by rw [hm]; simp [hzl]
  rw [← hm] at hv2 hc2
  rw [hm1] at hv2 hc2
  subst hv2
  have HO2 := Lib.hid ho2
  have HBw := Lib.hid (HB2.out.grown hg2 HB2.out.size (fun k e => (own_lt HO1.out k e).1))
  have hlc : len ≤ c2 := by omega
  have hlc1 : len + 1 ≤ c2 := by omega
  have hlc2 : (len : Int) ≤ (c2 : Int) := by omega
  clear ho2 hg2 hn2 hm hm1 HB1 HO1 HN1 HY7 HB2 hzl
  have hmy : Bys w2 (some ⟨g, 0, none⟩) len z := by
    obtain ⟨a9, c9, e9, _, hy9⟩ := HO2.out.bys
    injection e9 with e1 e2 e3
    rw [← e1] at hy9
    have := hy9.take len (by have := HZL.out; simp; omega)
    rw [List.take_left' HZL.out] at this
    exact this
  have HM := Lib.hid hmy
  clear hmy
  go_wp2_with fail
  refine (spell_c _ len c2 z w2 HM.out (by omega)).mono ?_
  rintro e w3 ⟨rfl, hb3⟩
  have HM3 := Lib.hid (HM.out.below hb3)
  have HO3 := Lib.hid (HO2.out.below hb3)
  have HB3 := Lib.hid (HBw.out.trans (hb3.mono HBw.out.size))
  clear hb3 HM HO2 HBw
  go_wp2_with fail
  refine (unspell_v s w3 (by omega)).mono ?_
  rintro r w4 ⟨⟨au, nu, cu, eu, rfl, hu⟩, hb4⟩
  have HU4 := Lib.hid hu
  have HM4 := Lib.hid (HM3.out.below hb4)
  have HO4 := Lib.hid (HO3.out.below hb4)
  have HB4 := Lib.hid (HB3.out.trans (hb4.mono HB3.out.size))
  clear hu hb4 HM3 HO3 HB3
  go_wp2_with fail
  refine (runspell_v s w4 (by omega)).mono ?_
  rintro r w5 ⟨⟨ar, nr, cr, er, rfl, hu⟩, hb5⟩
  obtain ⟨y, hy1, hy2, hee, he160⟩ := UnsV.same (HU4.out.below hb5) hu
  subst hee
  have HYY1 := Lib.hid hy1; have HYY2 := Lib.hid hy2
  have HM5 := Lib.hid (HM4.out.below hb5)
  have HO5 := Lib.hid (HO4.out.below hb5)
  have HB5 := Lib.hid (HB4.out.trans (hb5.mono HB4.out.size))
  have HZ5 := Lib.hid (HY.out.below ⟨HB5.out.os, HB5.out.tape, HB5.out.output, HB5.out.size, HB5.out.block⟩)
  clear hu hb5 hy1 hy2 HM4 HO4 HB4 HU4
  go_wp2_with fail
  refine (rspell_c a len cap z w5 HZ5.out (by omega)).mono ?_
  rintro e w' ⟨rfl, rfl⟩
  have t1 := run_str w5 (some ⟨g, 0, none⟩) len c2 z HM5.out
  have t2 := run_str w5 a len cap z HZ5.out
  have t3 := run_str w5 au nu cu y HYY1.out
  have t4 := run_str w5 ar nr cr y HYY2.out
  obtain ⟨k1, k2⟩ := OwnB.at_ HO5.out (k := len) (x := 77#8) (by rw [List.getElem?_append_right (by rw [HZL.out]; exact Nat.le_refl _), HZL.out]; simp)
  obtain ⟨Sz, hSz⟩ : ∃ Sz, Sz = strOf z := ⟨_, rfl⟩
  obtain ⟨Sy, hSy⟩ : ∃ Sy, Sy = strOf y := ⟨_, rfl⟩
  obtain ⟨Sp, hSp⟩ : ∃ Sp, Sp = strOf (spellB z) := ⟨_, rfl⟩
  rw [← hSz] at t1 t2
  rw [← hSy] at t3 t4
  rw [← hSp]
  clear hSz hSy hSp
  go_wp2_with fail
  refine (num_c _ _).mono ?_
  rintro e w' ⟨rfl, rfl⟩
  clear t1 t2 t3 t4 k1 k2
  go_wp2_with fail
  refine (tworks_c w5).mono ?_
  rintro e w6 ⟨rfl, hb6⟩
  have HB6 := Lib.hid (HB5.out.trans (hb6.mono HB5.out.size))
  clear hb6
  go_wp2_with fail
  go_ret
  exact ⟨rfl, HB6.out⟩
end Go.Proofs.Ytomnjhhpeglcnaa
