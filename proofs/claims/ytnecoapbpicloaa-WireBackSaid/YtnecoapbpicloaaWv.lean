/- Contracts: frames. -/
import Derived.Test.YtnecoapbpicloaaWu
namespace Go.Proofs.Ytnecoapbpicloaa
open Go.RowKit
set_option linter.unusedSimpArgs false
set_option linter.unusedVariables false
set_option maxRecDepth 100000

theorem splitB_none {l : List By} (h : (takeB l).2 = 0) : splitB l = ([], 0, 0) := by unfold splitB; rw [if_pos h]
theorem splitB_bad {l : List By} (h : (takeB l).2 ≠ 0) (h2 : (takeB l).2 < 0 ∨ (takeB l).1 < 4 ∨ 4100 < (takeB l).1) : splitB l = ([], 0, 121) := by unfold splitB; rw [if_neg h, if_pos h2]
theorem splitB_long {l : List By} (h : (takeB l).2 ≠ 0) (h2 : ¬ ((takeB l).2 < 0 ∨ (takeB l).1 < 4 ∨ 4100 < (takeB l).1)) (h3 : (l.length : Int) - (takeB l).2 < ((takeB l).1 : Int)) : splitB l = ([], 0, 0) := by unfold splitB; rw [if_neg h, if_neg h2, if_pos h3]
theorem splitB_sum {l : List By} (h : (takeB l).2 ≠ 0) (h2 : ¬ ((takeB l).2 < 0 ∨ (takeB l).1 < 4 ∨ 4100 < (takeB l).1)) (h3 : ¬ (l.length : Int) - (takeB l).2 < ((takeB l).1 : Int)) (h4 : openB ((l.drop (takeB l).2.toNat).take (takeB l).1) = false) : splitB l = ([], 0, 110) := by
  unfold splitB; rw [if_neg h, if_neg h2, if_neg h3, if_neg (by rw [h4]; simp)]
theorem splitB_ok {l : List By} (h : (takeB l).2 ≠ 0) (h2 : ¬ ((takeB l).2 < 0 ∨ (takeB l).1 < 4 ∨ 4100 < (takeB l).1)) (h3 : ¬ (l.length : Int) - (takeB l).2 < ((takeB l).1 : Int)) (h4 : openB ((l.drop (takeB l).2.toNat).take (takeB l).1) = true) :
    splitB l = (openL ((l.drop (takeB l).2.toNat).take (takeB l).1), (takeB l).2.toNat + (takeB l).1, 0) := by
  unfold splitB; rw [if_neg h, if_neg h2, if_neg h3, if_pos h4]
def SplitRes (B : Nat) (l : List By) (e : Ending) (w' : World) : Prop := ∃ A C, e = .returned (.tuple #[.slice A (splitB l).1.length C, .int .i64 ((splitB l).2.1 : Int), .int .i64 (splitB l).2.2]) ∧ OwnB w' B (.slice A (splitB l).1.length C) (splitB l).1

set_option maxHeartbeats 2000000 in
theorem split_c (a : Option Addr) (n c : Nat) (l : List By) (w : World) (h : Bys w a n l) (hn : n ≤ 1000000) (hc : n ≤ c) :
    Calls Try.prog 32 #[.slice a n c] w fun e w' => SplitRes w.heap.size l e w' ∧ Below w.heap.size w w' := by
  have H := Lib.hid h
  have hnil : a = none → n = 0 := by
    rintro rfl
    rcases Nat.eq_zero_or_pos n with e | e
    · exact e
    · obtain ⟨g, off, e', _⟩ := h.cells e; cases e'
  have hl := h.1
  have hb := takeB_bound l
  obtain ⟨k, hk⟩ : ∃ k, k = (takeB l).2 := ⟨_, rfl⟩
  obtain ⟨x, hx⟩ : ∃ x, x = (takeB l).1 := ⟨_, rfl⟩
  rw [← hk, ← hx, hl] at hb
  have HK := Lib.hid hk; have HX := Lib.hid hx; have HLL := Lib.hid hl
  clear hk hx h hl
  by_cases k0 : k = 0
  · have HR := Lib.hid (splitB_none (l := l) (by rw [← HK.out]; exact k0))
    have q0 : (k == 0) = true := by simpa using k0
    go_enter Try.func32, Try.ntmps32
    go_wp2_with fail
    refine (taken_c a n c l _ H.out (by omega)).mono ?_
    rintro e w' ⟨rfl, rfl⟩
    rw [← HK.out, ← HX.out]
    subst k0
    clear hb q0
    go_wp2_with fail
    go_ret3
    exact ⟨⟨none, 0, by rw [HR.out]; rfl, by rw [HR.out]; exact own_nil _ _⟩, Below.refl _ _⟩
  · by_cases hbad : k < 0 ∨ x < 4 ∨ 4100 < x
    · have HR := Lib.hid (splitB_bad (l := l) (by rw [← HK.out]; exact k0) (by rw [← HK.out, ← HX.out]; exact hbad))
      have q0 : (k == 0) = false := by simpa using k0
      go_enter Try.func32, Try.ntmps32
      go_wp2_with fail
      refine (taken_c a n c l _ H.out (by omega)).mono ?_
      rintro e w' ⟨rfl, rfl⟩
      rw [← HK.out, ← HX.out]
      by_cases kn : k < 0
      · clear hb hbad
        go_wp2_with fail
        go_ret3
        exact ⟨⟨none, 0, by rw [HR.out]; rfl, by rw [HR.out]; exact own_nil _ _⟩, Below.refl _ _⟩
      · have hx2 : x < 4 ∨ 4100 < x := by omega
        clear hb hbad
        go_wp2_with fail
        refine (in_c (x : Int) 4 4100 _).mono ?_
        rintro e w' ⟨rfl, rfl⟩
        rw [show decide ((4 : Int) ≤ (x : Int) ∧ (x : Int) ≤ 4100) = false from decide_eq_false (by omega)]
        go_wp2_with fail
        go_ret3
        exact ⟨⟨none, 0, by rw [HR.out]; rfl, by rw [HR.out]; exact own_nil _ _⟩, Below.refl _ _⟩
    · obtain ⟨j, rfl⟩ : ∃ j : Nat, k = (j : Int) := ⟨k.toNat, by omega⟩
      have hj : j ≤ n := by omega
      have hj0 : 0 < j := by omega
      have hx4 : 4 ≤ x := by omega
      have hx5 : x ≤ 4100 := by omega
      have q0 : ((j : Int) == 0) = false := by simpa using k0
      have q1 : ¬ ((j : Int) < 0) := by omega
      have HBAD := Lib.hid hbad; have HK0 := Lib.hid k0
      clear hb hbad k0
      by_cases hlong : (n : Int) - (j : Int) < (x : Int)
      · have HR := Lib.hid (splitB_long (l := l) (by rw [← HK.out]; exact HK0.out) (by rw [← HK.out, ← HX.out]; exact HBAD.out) (by rw [← HK.out, ← HX.out, HLL.out]; exact hlong))
        go_enter Try.func32, Try.ntmps32
        go_wp2_with fail
        refine (taken_c a n c l _ H.out (by omega)).mono ?_
        rintro e w' ⟨rfl, rfl⟩
        rw [← HK.out, ← HX.out]
        go_wp2_with fail
        refine (in_c (x : Int) 4 4100 _).mono ?_
        rintro e w' ⟨rfl, rfl⟩
        rw [show decide ((4 : Int) ≤ (x : Int) ∧ (x : Int) ≤ 4100) = true from decide_eq_true (by omega)]
        go_wp2_with fail
        go_ret3
        exact ⟨⟨none, 0, by rw [HR.out]; rfl, by rw [HR.out]; exact own_nil _ _⟩, Below.refl _ _⟩
      · obtain ⟨A, C, hrun, hAC, hA⟩ := slice_run a n c j (j + x) (by omega) (by omega) hc hnil
        have e0 : j + x - j = x := by omega
        rw [e0] at hrun hAC hA
        have HA := Lib.hid (hA w l H.out)
        have hpc : (((j + x : Nat)) : Int) = (j : Int) + (x : Int) := by omega
        rw [hpc] at hrun
        have r3 : ¬ (c : Int) < (j : Int) + (x : Int) := by omega
        have HLONG := Lib.hid hlong
        clear hA hpc e0
        go_enter Try.func32, Try.ntmps32
        go_wp2_with fail
        refine (taken_c a n c l _ H.out (by omega)).mono ?_
        rintro e w' ⟨rfl, rfl⟩
        rw [← HK.out, ← HX.out]
        go_wp2_with fail
        refine (in_c (x : Int) 4 4100 _).mono ?_
        rintro e w' ⟨rfl, rfl⟩
        rw [show decide ((4 : Int) ≤ (x : Int) ∧ (x : Int) ≤ 4100) = true from decide_eq_true (by omega)]
        go_wp2_with fail
        obtain ⟨body, hbody⟩ : ∃ body, body = (l.drop j).take x := ⟨_, rfl⟩
        rw [← hbody] at HA
        have HBD := Lib.hid hbody; clear hbody
        refine (open_any A x C body _ HA.out (by omega) hAC).mono ?_
        rintro e w2 ⟨hb, ho⟩
        have HB := Lib.hid hb
        obtain ⟨A2, C2, rfl, hO⟩ := ho
        have e1 : (takeB l).2.toNat = j := by rw [← HK.out]; simp
        cases hu : openB body
        · have h1 : openL body = [] := by simp [openL, hu]
          have h2 : openE body = 110 := by simp [openE, hu]
          have HR := Lib.hid (splitB_sum (l := l) (by rw [← HK.out]; exact HK0.out) (by rw [← HK.out, ← HX.out]; exact HBAD.out) (by rw [← HK.out, ← HX.out, HLL.out]; exact Int.not_lt.2 HLONG.out) (by rw [e1, ← HX.out, ← HBD.out]; exact hu))
          rw [h1, h2]
          clear hb hO h1 h2 hu e1
          go_wp2_with fail
          go_ret3
          exact ⟨⟨none, 0, by rw [HR.out]; rfl, by rw [HR.out]; exact own_nil _ _⟩, HB.out⟩
        · have h2 : openE body = 0 := by simp [openE, hu]
          have HR := Lib.hid (splitB_ok (l := l) (by rw [← HK.out]; exact HK0.out) (by rw [← HK.out, ← HX.out]; exact HBAD.out) (by rw [← HK.out, ← HX.out, HLL.out]; exact Int.not_lt.2 HLONG.out) (by rw [e1, ← HX.out, ← HBD.out]; exact hu))
          rw [e1, ← HX.out, ← HBD.out] at HR
          obtain ⟨bd, hbd⟩ : ∃ bd, bd = openL body := ⟨_, rfl⟩
          rw [← hbd] at hO HR ⊢
          obtain ⟨mb, hmb⟩ : ∃ mb, mb = bd.length := ⟨_, rfl⟩
          rw [← hmb] at hO ⊢
          have HO := Lib.hid hO; have HMB := Lib.hid hmb
          rw [h2]
          clear hb hO h2 hu e1 hbd hmb
          go_wp2_with fail
          go_ret3
          exact ⟨⟨A2, C2, by rw [HR.out]; simp only [← HMB.out]; simp, by rw [HR.out]; simp only [← HMB.out]; exact HO.out⟩, HB.out⟩

set_option maxHeartbeats 2000000 in
theorem rsplit_c (a : Option Addr) (n c : Nat) (l : List By) (w : World) (h : Bys w a n l) (hn : n ≤ 1000000) (hc : n ≤ c) :
    Calls Try.prog 33 #[.slice a n c] w fun e w' => SplitRes w.heap.size l e w' ∧ Below w.heap.size w w' := by
  have H := Lib.hid h
  have hnil : a = none → n = 0 := by
    rintro rfl
    rcases Nat.eq_zero_or_pos n with e | e
    · exact e
    · obtain ⟨g, off, e', _⟩ := h.cells e; cases e'
  have hl := h.1
  have hb := takeB_bound l
  obtain ⟨k, hk⟩ : ∃ k, k = (takeB l).2 := ⟨_, rfl⟩
  obtain ⟨x, hx⟩ : ∃ x, x = (takeB l).1 := ⟨_, rfl⟩
  rw [← hk, ← hx, hl] at hb
  have HK := Lib.hid hk; have HX := Lib.hid hx; have HLL := Lib.hid hl
  clear hk hx h hl
  by_cases k0 : k = 0
  · have HR := Lib.hid (splitB_none (l := l) (by rw [← HK.out]; exact k0))
    have q0 : (k == 0) = true := by simpa using k0
    go_enter Try.func33, Try.ntmps33
    go_wp2_with fail
    refine (rtake_c a n c l _ H.out (by omega)).mono ?_
    rintro e w' ⟨rfl, rfl⟩
    rw [← HK.out, ← HX.out]
    subst k0
    clear hb q0
    go_wp2_with fail
    go_ret3
    exact ⟨⟨none, 0, by rw [HR.out]; rfl, by rw [HR.out]; exact own_nil _ _⟩, Below.refl _ _⟩
  · by_cases hbad : k < 0 ∨ x < 4 ∨ 4100 < x
    · have HR := Lib.hid (splitB_bad (l := l) (by rw [← HK.out]; exact k0) (by rw [← HK.out, ← HX.out]; exact hbad))
      have q0 : (k == 0) = false := by simpa using k0
      go_enter Try.func33, Try.ntmps33
      go_wp2_with fail
      refine (rtake_c a n c l _ H.out (by omega)).mono ?_
      rintro e w' ⟨rfl, rfl⟩
      rw [← HK.out, ← HX.out]
      by_cases kn : k < 0
      · clear hb hbad
        go_wp2_with fail
        go_ret3
        exact ⟨⟨none, 0, by rw [HR.out]; rfl, by rw [HR.out]; exact own_nil _ _⟩, Below.refl _ _⟩
      · have hx2 : x < 4 ∨ 4100 < x := by omega
        clear hb hbad
        rcases Nat.lt_or_ge x 4 with h4 | h4
        · have r1 : decide ((x : Int) < 4) = true := decide_eq_true (by omega)
          have r2 : x < 4 := h4
          clear hx2
          go_wp2_with fail
          go_ret3
          exact ⟨⟨none, 0, by rw [HR.out]; rfl, by rw [HR.out]; exact own_nil _ _⟩, Below.refl _ _⟩
        · have r1 : ¬ (x : Int) < 4 := by omega
          have r2 : decide ((4100 : Int) < (x : Int)) = true := decide_eq_true (by omega)
          clear hx2
          go_wp2_with fail
          go_ret3
          exact ⟨⟨none, 0, by rw [HR.out]; rfl, by rw [HR.out]; exact own_nil _ _⟩, Below.refl _ _⟩
    · obtain ⟨j, rfl⟩ : ∃ j : Nat, k = (j : Int) := ⟨k.toNat, by omega⟩
      have hj : j ≤ n := by omega
      have hj0 : 0 < j := by omega
      have hx4 : 4 ≤ x := by omega
      have hx5 : x ≤ 4100 := by omega
      have q0 : ((j : Int) == 0) = false := by simpa using k0
      have q1 : ¬ ((j : Int) < 0) := by omega
      have HBAD := Lib.hid hbad; have HK0 := Lib.hid k0
      clear hb hbad k0
      by_cases hlong : (n : Int) - (j : Int) < (x : Int)
      · have HR := Lib.hid (splitB_long (l := l) (by rw [← HK.out]; exact HK0.out) (by rw [← HK.out, ← HX.out]; exact HBAD.out) (by rw [← HK.out, ← HX.out, HLL.out]; exact hlong))
        go_enter Try.func33, Try.ntmps33
        go_wp2_with fail
        refine (rtake_c a n c l _ H.out (by omega)).mono ?_
        rintro e w' ⟨rfl, rfl⟩
        rw [← HK.out, ← HX.out]
        go_wp2_with fail
        go_ret3
        exact ⟨⟨none, 0, by rw [HR.out]; rfl, by rw [HR.out]; exact own_nil _ _⟩, Below.refl _ _⟩
      · obtain ⟨A, C, hrun, hAC, hA⟩ := slice_run a n c j (j + x) (by omega) (by omega) hc hnil
        have e0 : j + x - j = x := by omega
        rw [e0] at hrun hAC hA
        have HA := Lib.hid (hA w l H.out)
        have hpc : (((j + x : Nat)) : Int) = (j : Int) + (x : Int) := by omega
        rw [hpc] at hrun
        have r3 : ¬ (c : Int) < (j : Int) + (x : Int) := by omega
        have HLONG := Lib.hid hlong
        clear hA hpc e0
        go_enter Try.func33, Try.ntmps33
        go_wp2_with fail
        refine (rtake_c a n c l _ H.out (by omega)).mono ?_
        rintro e w' ⟨rfl, rfl⟩
        rw [← HK.out, ← HX.out]
        go_wp2_with fail
        obtain ⟨body, hbody⟩ : ∃ body, body = (l.drop j).take x := ⟨_, rfl⟩
        rw [← hbody] at HA
        have HBD := Lib.hid hbody; clear hbody
        refine (ropen_any A x C body _ HA.out (by omega) hAC).mono ?_
        rintro e w2 ⟨hb, ho⟩
        have HB := Lib.hid hb
        obtain ⟨A2, C2, rfl, hO⟩ := ho
        have e1 : (takeB l).2.toNat = j := by rw [← HK.out]; simp
        cases hu : openB body
        · have h1 : openL body = [] := by simp [openL, hu]
          have h2 : openE body = 110 := by simp [openE, hu]
          have HR := Lib.hid (splitB_sum (l := l) (by rw [← HK.out]; exact HK0.out) (by rw [← HK.out, ← HX.out]; exact HBAD.out) (by rw [← HK.out, ← HX.out, HLL.out]; exact Int.not_lt.2 HLONG.out) (by rw [e1, ← HX.out, ← HBD.out]; exact hu))
          rw [h1, h2]
          clear hb hO h1 h2 hu e1
          go_wp2_with fail
          go_ret3
          exact ⟨⟨none, 0, by rw [HR.out]; rfl, by rw [HR.out]; exact own_nil _ _⟩, HB.out⟩
        · have h2 : openE body = 0 := by simp [openE, hu]
          have HR := Lib.hid (splitB_ok (l := l) (by rw [← HK.out]; exact HK0.out) (by rw [← HK.out, ← HX.out]; exact HBAD.out) (by rw [← HK.out, ← HX.out, HLL.out]; exact Int.not_lt.2 HLONG.out) (by rw [e1, ← HX.out, ← HBD.out]; exact hu))
          rw [e1, ← HX.out, ← HBD.out] at HR
          obtain ⟨bd, hbd⟩ : ∃ bd, bd = openL body := ⟨_, rfl⟩
          rw [← hbd] at hO HR ⊢
          obtain ⟨mb, hmb⟩ : ∃ mb, mb = bd.length := ⟨_, rfl⟩
          rw [← hmb] at hO ⊢
          have HO := Lib.hid hO; have HMB := Lib.hid hmb
          rw [h2]
          clear hb hO h2 hu e1 hbd hmb
          go_wp2_with fail
          go_ret3
          exact ⟨⟨A2, C2, by rw [HR.out]; simp only [← HMB.out]; simp, by rw [HR.out]; simp only [← HMB.out]; exact HO.out⟩, HB.out⟩
end Go.Proofs.Ytnecoapbpicloaa
