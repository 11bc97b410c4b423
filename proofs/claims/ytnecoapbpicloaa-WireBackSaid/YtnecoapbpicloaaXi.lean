/- Contracts: lay. -/
import Derived.Test.YtnecoapbpicloaaXh
namespace Go.Proofs.Ytnecoapbpicloaa
open Go.RowKit
set_option linter.unusedSimpArgs false
set_option linter.unusedVariables false
set_option maxRecDepth 100000

def LayRes (w : World) (p : Nat) (v : Value) (l : List By) (x : WAct) (e : Ending) (w' : World) : Prop :=
  e = .returned (.int .i64 (laidA x).2) ∧ ∃ v', IsWr w' p v' (l ++ (laidA x).1) ∧ Tch (WS p v) w w' ∧ Mv w v v'
theorem laid0 {x : WAct} (h : x.what = 0) : laidA x = numA x.zs := by unfold laidA numA; rw [if_pos h]
theorem laid1 {x : WAct} (h : x.what = 1) : laidA x = (textB (strB x.text), 0) := by unfold laidA; rw [if_neg (by omega), if_pos h]
theorem laid2 {x : WAct} (h : x.what ≠ 0 ∧ x.what ≠ 1) : laidA x = (truthB x.truth, 0) := by unfold laidA; rw [if_neg h.1, if_neg h.2]

set_option maxHeartbeats 1000000 in
theorem lay_0 (p : Nat) (v : Value) (l : List By) (x : WAct) (w : World) (h : IsWr w p v l) (hi : I64s w x.a x.n x.zs) (hn : x.n ≤ 1000000) (ht : x.text.size ≤ 1048576) (hl : l.length ≤ 100000000)
    (hap : ∀ g off, x.a = some ⟨g, off, none⟩ → 0 < x.n → ¬ WS p v g) (hx : x.what = 0) :
    Calls Try.prog 22 #[.pointer (some ⟨p, 0, none⟩), x.val] w (LayRes w p v l x) := by
  obtain ⟨q, hq⟩ : ∃ q, q = laidA x := ⟨_, rfl⟩
  have HQ := Lib.hid hq
  clear hq
  obtain ⟨what, a, n, c, zs, text, truth⟩ := x
  simp only at hi hn ht hap hx
  simp only [WAct.val]
  have hb := (Below.refl w.heap.size w).alloc (Nat.le_refl _) (.cells #[.int .i64 what, .slice a n c, .string text, .bool truth] 30)
  have H1 := Lib.hid (h.below hb)
  have HI := Lib.hid (hi.below hb)
  have HT := Lib.hid ((Tch.refl (WS p v) w).alloc (.cells #[.int .i64 what, .slice a n c, .string text, .bool truth] 30))
  have HP := Lib.hid hap
  have HL := Lib.hid hl
  have q0 : (what == 0) = true := by simp [hx]
  have HR := Lib.hid (laid0 (x := ⟨what, a, n, c, zs, text, truth⟩) hx)
  clear hb h hi hap hl hx
  go_enter Try.func22, Try.ntmps22
  go_wp2_with fail
  refine (wnumber_any p v l a n c zs _ H1.out HI.out hn HL.out HP.out).mono ?_
  rintro e w' ⟨rfl, v', h1, h2, h3⟩
  have G1 := Lib.hid h1; have G2 := Lib.hid (HT.out.trans h2 (fun _ _ h => h)); have G3 := Lib.hid ((Mv.refl w v).trans h3 (by simp))
  clear h1 h2 h3
  go_wp2_with fail
  go_ret
  refine ⟨by rw [HR.out]; rfl, v', by rw [HR.out]; exact G1.out, G2.out, G3.out⟩

set_option maxHeartbeats 1000000 in
theorem lay_1 (p : Nat) (v : Value) (l : List By) (x : WAct) (w : World) (h : IsWr w p v l) (hi : I64s w x.a x.n x.zs) (hn : x.n ≤ 1000000) (ht : x.text.size ≤ 1048576) (hl : l.length ≤ 100000000)
    (hap : ∀ g off, x.a = some ⟨g, off, none⟩ → 0 < x.n → ¬ WS p v g) (hx : x.what = 1) :
    Calls Try.prog 22 #[.pointer (some ⟨p, 0, none⟩), x.val] w (LayRes w p v l x) := by
  obtain ⟨q, hq⟩ : ∃ q, q = laidA x := ⟨_, rfl⟩
  have HQ := Lib.hid hq
  clear hq
  obtain ⟨what, a, n, c, zs, text, truth⟩ := x
  simp only at hi hn ht hap hx
  simp only [WAct.val]
  have hb := (Below.refl w.heap.size w).alloc (Nat.le_refl _) (.cells #[.int .i64 what, .slice a n c, .string text, .bool truth] 30)
  have H1 := Lib.hid (h.below hb)
  have HI := Lib.hid (hi.below hb)
  have HT := Lib.hid ((Tch.refl (WS p v) w).alloc (.cells #[.int .i64 what, .slice a n c, .string text, .bool truth] 30))
  have HP := Lib.hid hap
  have HL := Lib.hid hl
  have q0 : (what == 0) = false := by simp [hx]
  have q1 : (what == 1) = true := by simp [hx]
  have HR := Lib.hid (laid1 (x := ⟨what, a, n, c, zs, text, truth⟩) hx)
  clear hb h hi hap hl hx
  go_enter Try.func22, Try.ntmps22
  go_wp2_with fail
  refine (wtext_c p v l text _ H1.out HL.out ht).mono ?_
  rintro e w' ⟨rfl, v', h1, h2, h3⟩
  have G1 := Lib.hid h1; have G2 := Lib.hid (HT.out.trans h2 (fun _ _ h => h)); have G3 := Lib.hid ((Mv.refl w v).trans h3 (by simp))
  clear h1 h2 h3
  go_wp2_with fail
  go_ret
  refine ⟨by rw [HR.out]; rfl, v', by rw [HR.out]; exact G1.out, G2.out, G3.out⟩

set_option maxHeartbeats 1000000 in
theorem lay_2 (p : Nat) (v : Value) (l : List By) (x : WAct) (w : World) (h : IsWr w p v l) (hi : I64s w x.a x.n x.zs) (hn : x.n ≤ 1000000) (ht : x.text.size ≤ 1048576) (hl : l.length ≤ 100000000)
    (hap : ∀ g off, x.a = some ⟨g, off, none⟩ → 0 < x.n → ¬ WS p v g) (hx : x.what ≠ 0 ∧ x.what ≠ 1) :
    Calls Try.prog 22 #[.pointer (some ⟨p, 0, none⟩), x.val] w (LayRes w p v l x) := by
  obtain ⟨q, hq⟩ : ∃ q, q = laidA x := ⟨_, rfl⟩
  have HQ := Lib.hid hq
  clear hq
  obtain ⟨what, a, n, c, zs, text, truth⟩ := x
  simp only at hi hn ht hap hx
  simp only [WAct.val]
  have hb := (Below.refl w.heap.size w).alloc (Nat.le_refl _) (.cells #[.int .i64 what, .slice a n c, .string text, .bool truth] 30)
  have H1 := Lib.hid (h.below hb)
  have HI := Lib.hid (hi.below hb)
  have HT := Lib.hid ((Tch.refl (WS p v) w).alloc (.cells #[.int .i64 what, .slice a n c, .string text, .bool truth] 30))
  have HP := Lib.hid hap
  have HL := Lib.hid hl
  have q0 : (what == 0) = false := by simp [hx]
  have q1 : (what == 1) = false := by simp [hx]
  have HR := Lib.hid (laid2 (x := ⟨what, a, n, c, zs, text, truth⟩) hx)
  clear hb h hi hap hl hx
  go_enter Try.func22, Try.ntmps22
  go_wp2_with fail
  refine (wtruth_c p v l truth _ H1.out HL.out).mono ?_
  rintro e w' ⟨rfl, v', h1, h2, h3⟩
  have G1 := Lib.hid h1; have G2 := Lib.hid (HT.out.trans h2 (fun _ _ h => h)); have G3 := Lib.hid ((Mv.refl w v).trans h3 (by simp))
  clear h1 h2 h3
  go_wp2_with fail
  go_ret
  refine ⟨by rw [HR.out]; rfl, v', by rw [HR.out]; exact G1.out, G2.out, G3.out⟩

theorem lay_c (p : Nat) (v : Value) (l : List By) (x : WAct) (w : World) (h : IsWr w p v l) (hi : I64s w x.a x.n x.zs) (hn : x.n ≤ 1000000) (ht : x.text.size ≤ 1048576) (hl : l.length ≤ 100000000)
    (hap : ∀ g off, x.a = some ⟨g, off, none⟩ → 0 < x.n → ¬ WS p v g) :
    Calls Try.prog 22 #[.pointer (some ⟨p, 0, none⟩), x.val] w (LayRes w p v l x) := by
  by_cases h0 : x.what = 0
  · exact lay_0 p v l x w h hi hn ht hl hap h0
  by_cases h1 : x.what = 1
  · exact lay_1 p v l x w h hi hn ht hl hap h1
  exact lay_2 p v l x w h hi hn ht hl hap ⟨h0, h1⟩
theorem strB_size (s : ByteArray) : (strB s).length = s.size := strB_len s
theorem laid_len (x : WAct) (hn : x.zs.length ≤ 20) (ht : x.text.size ≤ 200) : (laidA x).1.length ≤ 300 := by
  unfold laidA
  split
  · split
    · rename_i h
      have := laidN_len h
      simp only; omega
    · simp
  · split
    · have h2 := strB_len x.text
      have h3 : (numB (strB x.text).length).length ≤ 9 := numB_nine (by rw [h2]; omega)
      simp only [textB, List.length_append]
      omega
    · simp [truthB]
end Go.Proofs.Ytnecoapbpicloaa
