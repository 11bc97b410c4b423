/- Contracts: the law's own trial of the fixed examples. -/
import Derived.Test.YtlgpoaapmgcloaaCd
import Derived.Test.YtlgpoaapmgcloaaSi
import Derived.Test.YtlgpoaapmgcloaaSj
import Derived.Test.YtlgpoaapmgcloaaSh
namespace Go.Proofs.Ytlgpoaapmgcloaa
open Go.RowKit
set_option linter.unusedSimpArgs false
set_option linter.unusedVariables false
set_option maxRecDepth 100000

def sA : List Sp := [⟨3, 5⟩, ⟨5, 7⟩]
theorem wk1 : Rights sA = true := by decide
theorem wk2 : setL sA = [⟨3, 7⟩] := by decide
theorem wk3 : (⟨1, 4⟩ : Sp).right = true ∧ (⟨1, 4⟩ : Sp).len - among [⟨3, 7⟩] ⟨1, 4⟩ = 2 ∧ addL [⟨3, 7⟩] ⟨1, 4⟩ = [⟨1, 7⟩] := by decide
theorem wk4 : among [⟨1, 7⟩] ⟨2, 3⟩ = 1 ∧ cutL [⟨1, 7⟩] ⟨2, 3⟩ = [⟨1, 2⟩, ⟨3, 7⟩] ∧ (⟨2, 3⟩ : Sp).right = true := by decide
def sB : List Sp := [⟨1, 2⟩, ⟨3, 7⟩]
theorem wk5 : gapL sB 0 = 0 ∧ gapL sB 1 = 2 := by decide
theorem wk6 : gapsL sB ⟨0, 8⟩ = [⟨0, 1⟩, ⟨2, 3⟩, ⟨7, 8⟩] := by decide
theorem wk7 : readL [1, 0, 0] = none := by decide
theorem wk8 : readL [2, 1, 1, 0, 1] = none := by decide
theorem wk9 : rawB sB = [2, 1, 1, 1, 4] := by
  simp [rawB, sB, encFrom, laidN, numB_lt, Sp.len, show max (0 : Int) 1 = 1 from by decide, show max (0 : Int) 4 = 4 from by decide]
theorem wk10 : Can (-1) sB := by unfold sB Can Can Can; decide
theorem sm1 : Smalls [⟨3, 7⟩] := by
  intro x hx; simp at hx; subst hx; exact ⟨by decide, by decide⟩
theorem sm2 : Smalls [⟨1, 7⟩] := by
  intro x hx; simp at hx; subst hx; exact ⟨by decide, by decide⟩
theorem sm3 : Smalls sB := by
  intro x hx; simp [sB] at hx; rcases hx with rfl | rfl <;> exact ⟨by decide, by decide⟩
/-- What works holds. -/
structure WkSt (w : World) (p : Nat) (A3 A5 A7 a : Option Addr) (c : Nat) (W : World) : Prop where
  s : IsSet W p sB a c
  r3 : Sps W A3 1 [⟨3, 7⟩]
  r5 : Sps W A5 1 [⟨1, 7⟩]
  r7 : Sps W A7 2 sB
  bel : Below w.heap.size w W
theorem WkSt.below {w W W' : World} {p : Nat} {A3 A5 A7 a : Option Addr} {c : Nat} (h : WkSt w p A3 A5 A7 a c W) (hb : Below W.heap.size W W') : WkSt w p A3 A5 A7 a c W' :=
  ⟨h.s.below hb, h.r3.below hb, h.r5.below hb, h.r7.below hb, h.bel.trans (hb.mono h.bel.size)⟩
theorem WkSt.al {w W : World} {p : Nat} {A3 A5 A7 a : Option Addr} {c : Nat} (h : WkSt w p A3 A5 A7 a c W) (o : Obj) : WkSt w p A3 A5 A7 a c (W.alloc o) := h.below ((Below.refl _ _).alloc (Nat.le_refl _) _)
set_option maxHeartbeats 4000000 in
theorem sworks_c (w : World) : Calls Try.prog 4 #[] w fun e w' => e = .returned (.bool true) ∧ Below w.heap.size w w' := by
  have hb1 := (Below.refl w.heap.size w).alloc (Nat.le_refl _) (.cells #[.int .i64 3, .int .i64 5, .int .i64 5, .int .i64 7] 33)
  have HR1 : Hid (Sps (w.alloc (.cells #[.int .i64 3, .int .i64 5, .int .i64 5, .int .i64 7] 33)) (some ⟨w.heap.size, 0, none⟩) 2 sA) := Lib.hid (Sps.lit 33 rfl rfl)
  have HB1 := Lib.hid hb1
  clear hb1
  go_enter Try.func4, Try.ntmps4
  go_wp2_with fail
  generalize w.alloc (.cells #[.int .i64 3, .int .i64 5, .int .i64 5, .int .i64 7] 33) = w1 at HR1 HB1 ⊢
  refine (new_c _ 2 2 sA w1 HR1.out (by decide)).mono ?_
  rintro e w2 ⟨(⟨-, rfl, a2, c2, hs2⟩ | ⟨hr, -⟩), hb2⟩
  rotate_left
  · rw [wk1] at hr; cases hr
  rw [wk2] at hs2
  have HS2 := Lib.hid hs2
  have HB2 := Lib.hid (HB1.out.trans (hb2.mono HB1.out.size))
  obtain ⟨p, hp⟩ : ∃ p, p = w1.heap.size := ⟨_, rfl⟩
  have hpw : w.heap.size ≤ p := by rw [hp]; exact HB1.out.size
  rw [← hp] at HS2 ⊢
  clear hs2 hb2 HR1 HB1 hp
  go_wp2_with fail
  refine (lall_c p _ a2 c2 w2 HS2.out (by decide)).mono ?_
  rintro e w3 ⟨A3, C3, rfl, hr3, hb3⟩
  have HR3 := Lib.hid hr3; have HS3 := Lib.hid (HS2.out.below hb3); have HB3 := Lib.hid (HB2.out.trans (hb3.mono HB2.out.size))
  have HA3 : Hid (∀ g off, A3 = some ⟨g, off, none⟩ → 0 < 1 → g ≠ p) := Lib.hid (fun g off e h0 => set_far HS3.out.blk hr3 g off e h0)
  clear hr3 hb3 HS2 HB2
  go_wp2_with fail
  change Calls Try.prog 9 #[_, Sp.val ⟨1, 4⟩] _ _
  refine (add_c p _ a2 c2 ⟨1, 4⟩ w3 HS3.out (by decide) sm1).mono ?_
  rintro e w4 ⟨(⟨-, rfl, a4, c4, hs4⟩ | ⟨hr, -, -⟩), ho4⟩
  rotate_left
  · rw [wk3.1] at hr; cases hr
  rw [wk3.2.1]
  rw [wk3.2.2] at hs4
  have HR4 := Lib.hid (HR3.out.only ho4 (fun g off e h0 => HA3.out g off e Nat.one_pos))
  have HS4 := Lib.hid hs4
  have HB4 := Lib.hid (HB3.out.trans (ho4.below (B := w.heap.size) HB3.out.size hpw))
  clear hs4 ho4 HR3 HS3 HA3 HB3
  go_wp2_with fail
  refine (lall_c p _ a4 c4 w4 HS4.out (by decide)).mono ?_
  rintro e w5 ⟨A5, C5, rfl, hr5, hb5⟩
  have HR5 := Lib.hid hr5; have HS5 := Lib.hid (HS4.out.below hb5); have HB5 := Lib.hid (HB4.out.trans (hb5.mono HB4.out.size)); have HR45 := Lib.hid (HR4.out.below hb5)
  clear hr5 hb5 HS4 HB4 HR4
  go_wp2_with fail
  change Calls Try.prog 16 #[_, Sp.val ⟨2, 3⟩] _ _
  refine (cut_c p _ a4 c4 ⟨2, 3⟩ w5 HS5.out (by decide) sm2 wk4.2.2).mono ?_
  rintro e w6 ⟨rfl, ⟨a6, c6, hs6⟩, ho6⟩
  rw [wk4.1]
  rw [wk4.2.1] at hs6
  have HR46 := Lib.hid (HR45.out.only ho6 (fun g off e h0 => set_far HS5.out.blk HR45.out g off e h0))
  have HR56 := Lib.hid (HR5.out.only ho6 (fun g off e h0 => set_far HS5.out.blk HR5.out g off e h0))
  have HS6 : Hid (IsSet w6 p sB a6 c6) := Lib.hid hs6
  have HB6 := Lib.hid (HB5.out.trans (ho6.below (B := w.heap.size) HB5.out.size hpw))
  clear hs6 ho6 HR5 HS5 HB5 HR45
  go_wp2_with fail
  refine (lall_c p _ a6 c6 w6 HS6.out (by decide)).mono ?_
  rintro e w7 ⟨A7, C7, rfl, hr7, hb7⟩
  have HR77 := Lib.hid hr7; have HS7 := Lib.hid (HS6.out.below hb7); have HB7 := Lib.hid (HB6.out.trans (hb7.mono HB6.out.size)); have HR47 := Lib.hid (HR46.out.below hb7); have HR57 := Lib.hid (HR56.out.below hb7)
  have H : Hid (WkSt w p A3 A5 A7 a6 c6 w7) := Lib.hid ⟨HS7.out, HR47.out, HR57.out, HR77.out, HB7.out⟩
  clear hr7 hb7 HS6 HB6 HR46 HR56 HS7 HR47 HR57 HR77 HB7
  have HY1 : Hid (Bys (w7.alloc (.cells #[.int .u8 1, .int .u8 0, .int .u8 0] 5)) (some ⟨w7.heap.size, 0, none⟩) 3 [1, 0, 0]) := Lib.hid (Bys.lit 5 rfl rfl)
  have HA1 := Lib.hid (H.out.al (.cells #[.int .u8 1, .int .u8 0, .int .u8 0] 5))
  clear H
  go_wp2_with fail
  generalize w7.alloc (.cells #[.int .u8 1, .int .u8 0, .int .u8 0] 5) = V1 at HY1 HA1 ⊢
  refine (sread_c _ 3 3 [1, 0, 0] V1 HY1.out (by decide)).mono ?_
  rintro e w8 ⟨hb, (⟨L9, q9, a9, c9, hr9, -⟩ | ⟨-, rfl⟩)⟩
  · rw [wk7] at hr9; cases hr9
  have H := Lib.hid (HA1.out.below hb)
  clear hb HA1 HY1
  have HY2 : Hid (Bys (w8.alloc (.cells #[.int .u8 2, .int .u8 1, .int .u8 1, .int .u8 0, .int .u8 1] 5)) (some ⟨w8.heap.size, 0, none⟩) 5 [2, 1, 1, 0, 1]) := Lib.hid (Bys.lit 5 rfl rfl)
  have HA2 := Lib.hid (H.out.al (.cells #[.int .u8 2, .int .u8 1, .int .u8 1, .int .u8 0, .int .u8 1] 5))
  clear H
  go_wp2_with fail
  generalize w8.alloc (.cells #[.int .u8 2, .int .u8 1, .int .u8 1, .int .u8 0, .int .u8 1] 5) = V2 at HY2 HA2 ⊢
  refine (sread_c _ 5 5 [2, 1, 1, 0, 1] V2 HY2.out (by decide)).mono ?_
  rintro e w9 ⟨hb, (⟨L9, q9, a9, c9, hr9, -⟩ | ⟨-, rfl⟩)⟩
  · rw [wk8] at hr9; cases hr9
  have H := Lib.hid (HA2.out.below hb)
  clear hb HA2 HY2
  go_wp2_with fail
  refine (num_c 0 _).mono ?_
  rintro e w' ⟨rfl, rfl⟩
  go_wp2_with fail
  refine (num_c 0 _).mono ?_
  rintro e w' ⟨rfl, rfl⟩
  go_wp2_with fail
  refine (num_c 0 _).mono ?_
  rintro e w' ⟨rfl, rfl⟩
  have HL3 : Hid (Sps (w9.alloc (.cells #[.int .i64 3, .int .i64 7] 33)) (some ⟨w9.heap.size, 0, none⟩) 1 [⟨3, 7⟩]) := Lib.hid (Sps.lit 33 rfl rfl)
  have HA3 := Lib.hid (H.out.al (.cells #[.int .i64 3, .int .i64 7] 33))
  clear H
  go_wp2_with fail
  generalize w9.alloc (.cells #[.int .i64 3, .int .i64 7] 33) = V3 at HL3 HA3 ⊢
  refine (rsame_c A3 1 _ _ 1 _ [⟨3, 7⟩] [⟨3, 7⟩] V3 HA3.out.r3 HL3.out (by decide) (by decide)).mono ?_
  rintro e w10 ⟨rfl, hb⟩
  rw [show decide (([⟨3, 7⟩] : List Sp) = ([⟨3, 7⟩] : List Sp)) = true from decide_eq_true rfl]
  have H := Lib.hid (HA3.out.below hb)
  clear hb HA3 HL3
  have HL4 : Hid (Sps (w10.alloc (.cells #[.int .i64 1, .int .i64 7] 33)) (some ⟨w10.heap.size, 0, none⟩) 1 [⟨1, 7⟩]) := Lib.hid (Sps.lit 33 rfl rfl)
  have HA4 := Lib.hid (H.out.al (.cells #[.int .i64 1, .int .i64 7] 33))
  clear H
  go_wp2_with fail
  generalize w10.alloc (.cells #[.int .i64 1, .int .i64 7] 33) = V4 at HL4 HA4 ⊢
  refine (rsame_c A5 1 _ _ 1 _ [⟨1, 7⟩] [⟨1, 7⟩] V4 HA4.out.r5 HL4.out (by decide) (by decide)).mono ?_
  rintro e w11 ⟨rfl, hb⟩
  rw [show decide (([⟨1, 7⟩] : List Sp) = ([⟨1, 7⟩] : List Sp)) = true from decide_eq_true rfl]
  have H := Lib.hid (HA4.out.below hb)
  clear hb HA4 HL4
  have HL5 : Hid (Sps (w11.alloc (.cells #[.int .i64 1, .int .i64 2, .int .i64 3, .int .i64 7] 33)) (some ⟨w11.heap.size, 0, none⟩) 2 sB) := Lib.hid (Sps.lit 33 rfl rfl)
  have HA5 := Lib.hid (H.out.al (.cells #[.int .i64 1, .int .i64 2, .int .i64 3, .int .i64 7] 33))
  clear H
  go_wp2_with fail
  generalize w11.alloc (.cells #[.int .i64 1, .int .i64 2, .int .i64 3, .int .i64 7] 33) = V5 at HL5 HA5 ⊢
  refine (rsame_c A7 2 _ _ 2 _ sB sB V5 HA5.out.r7 HL5.out (by decide) (by decide)).mono ?_
  rintro e w12 ⟨rfl, hb⟩
  rw [show decide ((sB : List Sp) = (sB : List Sp)) = true from decide_eq_true rfl]
  have H := Lib.hid (HA5.out.below hb)
  clear hb HA5 HL5
  go_wp2_with fail
  refine (gap_c p sB a6 c6 0 w12 H.out.s (by decide)).mono ?_
  rintro e w13 ⟨rfl, hb⟩
  rw [wk5.1]
  have H := Lib.hid (H.out.below hb)
  clear hb
  go_wp2_with fail
  refine (gap_c p sB a6 c6 1 w13 H.out.s (by decide)).mono ?_
  rintro e w14 ⟨rfl, hb⟩
  rw [wk5.2]
  have H := Lib.hid (H.out.below hb)
  clear hb
  go_wp2_with fail
  change Calls Try.prog 12 #[_, Sp.val ⟨0, 8⟩] _ _
  refine (gaps_c p sB a6 c6 ⟨0, 8⟩ w14 H.out.s (by decide) sm3 ⟨by decide, by decide⟩ (by decide) (by decide)).mono ?_
  rintro e w15 ⟨A8, C8, rfl, hr8, hb⟩
  rw [wk6] at hr8 ⊢
  have HR8 := Lib.hid hr8
  have H := Lib.hid (H.out.below hb)
  clear hb hr8
  have HL8 : Hid (Sps (w15.alloc (.cells #[.int .i64 0, .int .i64 1, .int .i64 2, .int .i64 3, .int .i64 7, .int .i64 8] 33)) (some ⟨w15.heap.size, 0, none⟩) 3 [⟨0, 1⟩, ⟨2, 3⟩, ⟨7, 8⟩]) := Lib.hid (Sps.lit 33 rfl rfl)
  have HA8 := Lib.hid (H.out.al (.cells #[.int .i64 0, .int .i64 1, .int .i64 2, .int .i64 3, .int .i64 7, .int .i64 8] 33))
  have HR9 := Lib.hid (HR8.out.below ((Below.refl w15.heap.size w15).alloc (Nat.le_refl _) (.cells #[.int .i64 0, .int .i64 1, .int .i64 2, .int .i64 3, .int .i64 7, .int .i64 8] 33)))
  clear H HR8
  go_wp2_with fail
  generalize w15.alloc (.cells #[.int .i64 0, .int .i64 1, .int .i64 2, .int .i64 3, .int .i64 7, .int .i64 8] 33) = V8 at HL8 HA8 HR9 ⊢
  refine (rsame_c A8 3 _ _ 3 _ [⟨0, 1⟩, ⟨2, 3⟩, ⟨7, 8⟩] [⟨0, 1⟩, ⟨2, 3⟩, ⟨7, 8⟩] V8 HR9.out HL8.out (by decide) (by decide)).mono ?_
  rintro e w16 ⟨rfl, hb⟩
  rw [show decide (([⟨0, 1⟩, ⟨2, 3⟩, ⟨7, 8⟩] : List Sp) = ([⟨0, 1⟩, ⟨2, 3⟩, ⟨7, 8⟩] : List Sp)) = true from decide_eq_true rfl]
  have H := Lib.hid (HA8.out.below hb)
  clear hb HA8 HL8 HR9
  go_wp2_with fail
  refine (raw_c p sB a6 c6 w16 H.out.s wk10 (by decide)).mono ?_
  rintro e w17 ⟨r, rfl, ho, hb⟩
  rw [wk9] at ho
  obtain ⟨ra, rc, hrv, -, hry⟩ := ho.bys
  have hrs := run_str w17 ra 5 rc _ hry
  rw [show strOf ([2, 1, 1, 1, 4] : List By) = (⟨#[2, 1, 1, 1, 4]⟩ : ByteArray) from rfl] at hrs
  obtain ⟨n9, hn9, hn9'⟩ : ∃ n9, r = .slice ra n9 rc ∧ n9 = 5 := ⟨_, hrv, rfl⟩
  subst hn9
  subst hn9'
  have H := Lib.hid (H.out.below hb)
  clear hb ho hry hrv
  go_wp2_with fail
  refine (num_c 270 _).mono ?_
  rintro e w' ⟨rfl, rfl⟩
  go_wp2_with fail
  refine (num_c 270 _).mono ?_
  rintro e w' ⟨rfl, rfl⟩
  go_wp2_with fail
  go_ret
  exact ⟨rfl, H.out.bel⟩
end Go.Proofs.Ytlgpoaapmgcloaa
