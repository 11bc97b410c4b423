/- The chapter's rows. -/
import Derived.Test.YtnecoapbpicloaaWw
namespace Go.Proofs.Ytnecoapbpicloaa
open Go.RowKit
set_option linter.unusedSimpArgs false
set_option linter.unusedVariables false
set_option maxRecDepth 100000

theorem num300 : numB 300 = [0xac#8, 0x02#8] := by rw [numB_ge (by decide), numB_lt (by decide)]
theorem lit_all : ([] ++ laidN [300]) ++ textB (strB ⟨#[104, 105]⟩) = [0xac#8, 0x02#8, 2#8, 104#8, 105#8] := by
  have h1 : laidN [300] = [0xac#8, 0x02#8] := by
    unfold laidN
    simp only [List.map_cons, List.map_nil, List.flatten_cons, List.flatten_nil, List.append_nil]
    exact num300
  have h2 : strB ⟨#[104, 105]⟩ = [104#8, 105#8] := rfl
  rw [h1, h2]
  unfold textB
  rw [show ([104#8, 105#8] : List By).length = 2 from rfl, numB_lt (by decide)]
  rfl
theorem bad1 : rnum ⟨[0x80#8, 0#8], 0⟩ 9 = (RS.fail, 0, 120) := rnum_bad rfl (by decide) (by decide)
theorem bad2 : rnum ⟨[5#8], 0⟩ 4 = (RS.fail, 0, 120) := rnum_bad rfl (by decide) (by decide)
theorem bad3 : rtext ⟨[2#8, 0x68#8], 0⟩ 9 = (RS.fail, [], 120) := rtext_bad2 rfl (by decide) (by decide) (by decide)
theorem split0 : splitB [] = ([], 0, 0) := splitB_none (by decide)
theorem split3 : splitB [3#8] = ([], 0, 121) := splitB_bad (by decide) (by decide)
theorem split9 : splitB [9#8] = ([], 0, 0) := splitB_long (by decide) (by decide) (by decide)
/-- What a new object's call touches is new. -/
theorem only_new {B p : Nat} {w w1 w2 : World} (hb : Below w.heap.size w w1) (hp : w.heap.size ≤ p) (hO : Only p w1 w2) : Below w.heap.size w w2 := hb.trans (hO.below hb.size hp)

set_option maxHeartbeats 4000000 in
theorem works_c (w : World) : Calls Try.prog 11 #[] w fun e w' => e = .returned (.bool true) ∧ Below w.heap.size w w' := by
  go_enter Try.func11, Try.ntmps11
  go_wp2_with fail
  refine (wnew_c _).mono ?_
  rintro e w1 ⟨rfl, hw, hb⟩
  have HW := Lib.hid hw; have HB := Lib.hid hb
  obtain ⟨p, hp⟩ : ∃ p, p = w.heap.size := ⟨_, rfl⟩
  rw [← hp] at HW ⊢
  have HP := Lib.hid hp; clear hp hw hb
  go_wp2_with fail
  have hA := (Below.refl w1.heap.size w1).alloc (Nat.le_refl _) (.cells #[.int .i64 300] 2)
  refine (wnumber_c p _ [] _ 1 1 [300] _ (HW.out.below hA) (I64s.lit _ rfl rfl) (by omega) (by simp) ?hap (by decide)).mono ?_
  case hap =>
    intro g off e _ hs
    injection e with e
    injection e with e1 _
    have := HW.out.lt
    rcases hs with hs | hs
    · omega
    · cases hs
  rintro e w2 ⟨rfl, v2, hw2, ht2, -⟩
  have HW2 := Lib.hid hw2
  have HB2 : Hid (Below w.heap.size w w2) := Lib.hid (HB.out.trans ((hA.mono HB.out.size).trans (ht2.below (by have := HB.out.size; simp; omega) (fun i hi => by
    rcases hi with hi | hi
    · rw [hi, HP.out]; exact Nat.le_refl _
    · cases hi))))
  clear hw2 ht2 hA HW HB
  go_wp2_with fail
  refine (wtext_c p v2 _ ⟨#[104, 105]⟩ _ HW2.out (by decide +kernel) (by decide)).mono ?_
  rintro e w3 ⟨rfl, v3, hw3, ht3, -⟩
  rw [lit_all] at hw3
  have HW3 := Lib.hid hw3
  have HB3 : Hid (Below w.heap.size w w3) := Lib.hid (HB2.out.trans (ht3.below HB2.out.size (fun i hi => by
    rcases hi with hi | hi
    · rw [hi, HP.out]; exact Nat.le_refl _
    · have := (own_lt HW2.out.2 i hi).1; have := HP.out; omega)))
  clear hw3 ht3 HW2 HB2
  go_wp2_with fail
  -- Read([]byte{0x80, 0}).Number(9)
  have hA := (Below.refl w3.heap.size w3).alloc (Nat.le_refl _) (.cells #[.int .u8 128, .int .u8 0] 5)
  refine (read_c _ 2 2 [0x80#8, 0#8] _ (Bys.lit _ rfl rfl) (by decide)).mono ?_
  rintro e w4 ⟨q, rfl, hq, hr, hb⟩
  have hb4 := hA.trans (hb.mono (by simp))
  have HR := Lib.hid hr
  clear hr hb
  go_wp2_with fail
  refine (rd_number q _ 9 _ HR.out (by decide)).mono ?_
  rintro e w5 ⟨rfl, -, hO⟩
  rw [bad1]
  have hb5 := hb4.trans (hO.below hb4.size (by simp at hq; omega))
  have HW5 := Lib.hid (HW3.out.below hb5)
  have HB5 := Lib.hid (HB3.out.trans (hb5.mono HB3.out.size))
  clear hA hb4 hb5 hO HR HW3 HB3
  go_wp2_with fail
  -- Read([]byte{5}).Number(4)
  have hA := (Below.refl w5.heap.size w5).alloc (Nat.le_refl _) (.cells #[.int .u8 5] 5)
  refine (read_c _ 1 1 [5#8] _ (Bys.lit _ rfl rfl) (by decide)).mono ?_
  rintro e w6 ⟨q2, rfl, hq2, hr, hb⟩
  have hb6 := hA.trans (hb.mono (by simp))
  have HR := Lib.hid hr
  clear hr hb
  go_wp2_with fail
  refine (rd_number q2 _ 4 _ HR.out (by decide)).mono ?_
  rintro e w7 ⟨rfl, -, hO⟩
  rw [bad2]
  have hb7 := hb6.trans (hO.below hb6.size (by simp at hq2; omega))
  have HW7 := Lib.hid (HW5.out.below hb7)
  have HB7 := Lib.hid (HB5.out.trans (hb7.mono HB5.out.size))
  clear hA hb6 hb7 hO HR HW5 HB5
  go_wp2_with fail
  -- Read([]byte{2, 0x68}).Text(9)
  have hA := (Below.refl w7.heap.size w7).alloc (Nat.le_refl _) (.cells #[.int .u8 2, .int .u8 104] 5)
  refine (read_c _ 2 2 [2#8, 0x68#8] _ (Bys.lit _ rfl rfl) (by decide)).mono ?_
  rintro e w8 ⟨q3, rfl, hq3, hr, hb⟩
  have hb8 := hA.trans (hb.mono (by simp))
  have HR := Lib.hid hr
  clear hr hb
  go_wp2_with fail
  refine (rd_text q3 _ 9 _ HR.out (by decide)).mono ?_
  rintro e w9 ⟨rfl, -, hO⟩
  rw [bad3]
  have hb9 := hb8.trans (hO.below hb8.size (by simp at hq3; omega))
  have HW9 := Lib.hid (HW7.out.below hb9)
  have HB9 := Lib.hid (HB7.out.trans (hb9.mono HB7.out.size))
  clear hA hb8 hb9 hO HR HW7 HB7
  go_wp2_with fail
  -- Split(nil), Split([]byte{3}), Split([]byte{9})
  refine (split_c none 0 0 [] _ Bys.nil (by decide) (Nat.le_refl _)).mono ?_
  rintro e w10 ⟨⟨A, C, rfl, -⟩, hb⟩
  rw [split0]
  have HW10 := Lib.hid (HW9.out.below hb)
  have HB10 := Lib.hid (HB9.out.trans (hb.mono HB9.out.size))
  clear hb HW9 HB9
  go_wp2_with fail
  have hA := (Below.refl w10.heap.size w10).alloc (Nat.le_refl _) (.cells #[.int .u8 3] 5)
  refine (split_c _ 1 1 [3#8] _ (Bys.lit _ rfl rfl) (by decide) (Nat.le_refl _)).mono ?_
  rintro e w11 ⟨⟨A2, C2, rfl, -⟩, hb⟩
  rw [split3]
  have HW11 := Lib.hid (HW10.out.below (hA.trans (hb.mono (by simp))))
  have HB11 := Lib.hid (HB10.out.trans ((hA.trans (hb.mono (by simp))).mono HB10.out.size))
  clear hb hA HW10 HB10
  go_wp2_with fail
  have hA := (Below.refl w11.heap.size w11).alloc (Nat.le_refl _) (.cells #[.int .u8 9] 5)
  refine (split_c _ 1 1 [9#8] _ (Bys.lit _ rfl rfl) (by decide) (Nat.le_refl _)).mono ?_
  rintro e w12 ⟨⟨A3, C3, rfl, -⟩, hb⟩
  rw [split9]
  have HW12 := Lib.hid (HW11.out.below (hA.trans (hb.mono (by simp))))
  have HB12 := Lib.hid (HB11.out.trans ((hA.trans (hb.mono (by simp))).mono HB11.out.size))
  clear hb hA HW11 HB11
  go_wp2_with fail
  refine (num_c _ _).mono ?_; rintro e w' ⟨rfl, rfl⟩
  go_wp2_with fail
  refine (num_c _ _).mono ?_; rintro e w' ⟨rfl, rfl⟩
  go_wp2_with fail
  refine (num_c _ _).mono ?_; rintro e w' ⟨rfl, rfl⟩
  go_wp2_with fail
  refine (num_c _ _).mono ?_; rintro e w' ⟨rfl, rfl⟩
  go_wp2_with fail
  refine (wall_c p v3 _ _ HW12.out (by decide)).mono ?_
  rintro e w13 ⟨r, rfl, ho, hb⟩
  obtain ⟨a13, c13, rfl, _, hy⟩ := ho.bys
  have q1 : (convert 22 9 (.slice a13 5 c13)).run Try.prog w13 = .ok (.string ⟨#[172, 2, 2, 104, 105]⟩) w13 := run_str w13 a13 5 c13 _ hy
  have HB13 := Lib.hid (HB12.out.trans (hb.mono HB12.out.size))
  clear ho hb hy HW12 HB12
  go_wp2_with fail
  refine (num_c _ _).mono ?_; rintro e w' ⟨rfl, rfl⟩
  go_wp2_with fail
  refine (num_c _ _).mono ?_; rintro e w' ⟨rfl, rfl⟩
  go_wp2_with fail
  refine (num_c _ _).mono ?_; rintro e w' ⟨rfl, rfl⟩
  go_wp2_with fail
  refine (num_c _ _).mono ?_; rintro e w' ⟨rfl, rfl⟩
  go_wp2_with fail
  go_ret
  exact ⟨rfl, HB13.out⟩
end Go.Proofs.Ytnecoapbpicloaa
