/- Contracts: Seal; the reference's Seal. -/
import Derived.Test.YtodjbgcmlpmknaaWj
namespace Go.Proofs.Ytodjbgcmlpmknaa
open Go.RowKit

def sealB (l : List By) : List By := l ++ lowB (sumB l)
theorem low_len (x : Wo) : (lowB x).length = 4 := rfl
theorem Prs.nil {w : World} : Prs w none 0 [] := ⟨rfl, fun i p h => by simp at h⟩
theorem Prs.one {w : World} {a : Option Addr} {n : Nat} {l : List By} (c : Nat) (t : TypeId) (h : Bys w a n l) (hn : n ≤ 1000000000) : Prs (w.alloc (.cells #[.slice a n c] t)) (some ⟨w.heap.size, 0, none⟩) 1 [l] := by
  refine ⟨rfl, fun i p hi => ?_⟩
  have hlt : i < 1 := by have := (List.getElem?_eq_some_iff.1 hi).1; simpa using this
  obtain rfl : i = 0 := by omega
  obtain rfl : l = p := by simpa using hi
  refine ⟨by rw [h.1]; exact hn, w.heap.size, 0, a, c, rfl, by simp, ?_, ?_⟩
  · rw [h.1]; exact blk0 rfl
  · rw [h.1]; exact h.below ((Below.refl _ _).alloc (Nat.le_refl _) _)
theorem Prs.two {w : World} {a a' : Option Addr} {n n' : Nat} {l l' : List By} (c c' : Nat) (t : TypeId) (h : Bys w a n l) (h' : Bys w a' n' l') (hn : n ≤ 1000000000) (hn' : n' ≤ 1000000000) :
    Prs (w.alloc (.cells #[.slice a n c, .slice a' n' c'] t)) (some ⟨w.heap.size, 0, none⟩) 2 [l, l'] := by
  have hb := (Below.refl w.heap.size w).alloc (Nat.le_refl _) (.cells #[.slice a n c, .slice a' n' c'] t)
  refine ⟨rfl, fun i p hi => ?_⟩
  have hlt : i < 2 := by have := (List.getElem?_eq_some_iff.1 hi).1; simpa using this
  rcases (show i = 0 ∨ i = 1 by omega) with rfl | rfl
  · obtain rfl : l = p := by simpa using hi
    refine ⟨by rw [h.1]; exact hn, w.heap.size, 0, a, c, rfl, by simp, ?_, ?_⟩
    · rw [h.1]; exact blk0 rfl
    · rw [h.1]; exact h.below hb
  · obtain rfl : l' = p := by simpa using hi
    refine ⟨by rw [h'.1]; exact hn', w.heap.size, 0, a', c', rfl, by simp, ?_, ?_⟩
    · rw [h'.1]; exact blk0 rfl
    · rw [h'.1]; exact h'.below hb

set_option maxHeartbeats 1000000 in
theorem seal_c (a : Option Addr) (n c : Nat) (l : List By) (w : World) (h : Bys w a n l) (hn : n ≤ 1000000) :
    Calls Try.prog 20 #[.slice a n c] w fun e w' => ∃ v, e = .returned v ∧ OwnB w' w.heap.size v (sealB l) ∧ Below w.heap.size w w' := by
  have H := Lib.hid h; clear h
  go_enter Try.func20, Try.ntmps20
  go_wp2_with fail
  refine (sum_c _ 1 _ [l] _ (Prs.one c 22 H.out (by omega)) (by omega)).mono ?_
  rintro e w1 ⟨rfl, hb⟩
  have HB := Lib.hid (((Below.refl w.heap.size w).alloc (Nat.le_refl _) (.cells #[.slice a n c] 22)).trans (hb.mono (by simp)))
  clear hb
  have e1 : [l].flatten = l := by simp
  rw [e1]
  go_wp2_with fail
  refine (low_c _ _).mono ?_
  rintro e w2 ⟨v, rfl, ho, hb⟩
  obtain ⟨a2, c2, rfl, _, hy⟩ := ho.bys
  have HB2 := Lib.hid (HB.out.trans (hb.mono HB.out.size))
  have HY := Lib.hid hy
  clear ho hb hy
  have HP := Lib.hid (Prs.two c c2 22 (H.out.below HB2.out) HY.out (by omega) (by rw [low_len]; omega))
  rw [low_len]
  rw [low_len] at HP
  go_wp2_with fail
  refine (concat_c _ 2 _ [l, lowB (sumB l)] _ HP.out (by omega) ?hf).mono ?_
  case hf =>
    have := H.out.1
    simp [low_len]
    omega
  rintro e w3 ⟨v, rfl, ho, hb⟩
  have HO := Lib.hid ho; have HB3 := Lib.hid (HB2.out.trans (((Below.refl w2.heap.size w2).alloc (Nat.le_refl _) (.cells #[.slice a n c, .slice a2 4 c2] 22)).trans (hb.mono (by simp)) |>.mono HB2.out.size))
  clear ho hb
  go_wp2_with fail
  go_ret
  refine ⟨v, rfl, ?_, HB3.out⟩
  have := HO.out
  have e2 : [l, lowB (sumB l)].flatten = sealB l := by simp [sealB]
  rw [e2] at this
  exact own_low this (by have := HB2.out.size; simp; omega)

theorem Bys.lit {W : World} {cs : Array Value} {l : List By} {n : Nat} (t : TypeId) (h : cs.toList = bl l) (hn : l.length = n) : Bys (W.alloc (.cells cs t)) (some ⟨W.heap.size, 0, none⟩) n l := by
  refine ⟨hn, fun i c hi => ⟨W.heap.size, 0, rfl, by simp, ?_⟩⟩
  rw [Nat.zero_add]
  refine blk0 ?_
  rw [← Array.getElem?_toList, h]
  simp [bl, hi]

set_option maxHeartbeats 1000000 in
theorem rseal_c (a : Option Addr) (n c : Nat) (l : List By) (w : World) (h : Bys w a n l) (hn : n ≤ 1000000) :
    Calls Try.prog 22 #[.slice a n c] w fun e w' => ∃ v, e = .returned v ∧ OwnB w' w.heap.size v (sealB l) ∧ Below w.heap.size w w' ∧ v ≠ .slice none 0 0 := by
  have H := Lib.hid h; clear h
  go_enter Try.func22, Try.ntmps22
  go_wp2_with fail
  refine (rsum_c a n c l _ H.out (by omega)).mono ?_
  rintro e w1 ⟨rfl, rfl⟩
  have hs := lt32 (sumB l)
  obtain ⟨x, hx⟩ : ∃ x, x = sumB l := ⟨_, rfl⟩
  rw [← hx] at hs ⊢
  have HX := Lib.hid hx; clear hx
  go_wp2_with (at_builtin; refine wpl_append_bys rfl _ _ rfl w.heap.size _ [] rfl (own_empty w) a n c l rfl (H.out.below ((Below.refl _ _).alloc (Nat.le_refl _) _)) ?c1 ?c2 ?_)
  case c1 => simp; omega
  case c2 => simp
  intro v w1 hown hg hnl
  have HB := Lib.hid (((Below.refl w.heap.size w).alloc (Nat.le_refl _) (.cells #[] 5)).grown hg (by simp) (fun k e => by simp [Value.ownBlock] at e; omega))
  have HO := Lib.hid hown
  have HN := Lib.hid hnl
  clear hown hg hnl
  go_wp2_with (at_builtin; refine wpl_append_bys rfl _ _ rfl w.heap.size _ l rfl (HO.out.below ((Below.refl _ _).alloc (Nat.le_refl _) _)) _ 4 _ (lowB x) rfl (Bys.lit _ ?c0 rfl) ?c1 ?c2 ?_)
  case c0 => simp [bl, lowB]; omega
  case c1 => have := H.out.1; omega
  case c2 => have := HB.out.size; simp; omega
  intro v2 w2 hown hg hnl
  have HO2 := Lib.hid hown
  have HN2 := Lib.hid (hnl HN.out)
  have HB2 := Lib.hid (HB.out.trans (((Below.refl w.heap.size w1).alloc HB.out.size _).trans (own_grown (base := w.heap.size) (B := w.heap.size) (HO.out.below ((Below.refl _ _).alloc (Nat.le_refl _) _)) hg (Nat.le_refl _) (by have := HB.out.size; simp; omega))))
  clear hown hg hnl
  go_wp2_with fail
  go_ret
  have h2 := HO2.out
  rw [HX.out] at h2
  exact ⟨v2, rfl, h2, HB2.out, HN2.out⟩
end Go.Proofs.Ytodjbgcmlpmknaa
