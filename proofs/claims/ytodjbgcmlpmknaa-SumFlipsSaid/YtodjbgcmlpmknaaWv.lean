/- The walk of SumFlips. -/
import Derived.Test.YtodjbgcmlpmknaaMf
namespace Go.Proofs.Ytodjbgcmlpmknaa
open Go.RowKit

theorem rem_in (x N : Int) (h : 0 < N) : 0 ≤ (x.tmod N + N).tmod N ∧ (x.tmod N + N).tmod N < N := by
  have h1 := Int.lt_tmod_of_pos x h
  have h2 := Int.tmod_lt_of_pos x h
  have h3 : 0 ≤ x.tmod N + N := by omega
  rw [Int.tmod_eq_emod_of_nonneg h3]
  exact ⟨Int.emod_nonneg _ (by omega), Int.emod_lt_of_pos _ h⟩

theorem bx8 (x y : By) : bits .xor .u8 (x.toNat : Int) (y.toNat : Int) = ((x ^^^ y).toNat : Int) := by
  rw [u8_xor_nat _ _ x.isLt y.isLt, BitVec.toNat_xor]
theorem open_bad (g n c base : Nat) (l : List By) (w : World) (h : OwnB w base (.slice (some ⟨g, 0, none⟩) n c) l) (hn : n ≤ 1000000) (hc : n ≤ c) (hu : openB l = false) :
    Calls Try.prog 21 #[.slice (some ⟨g, 0, none⟩) n c] w fun e w' => ∃ a d, e = .returned (.tuple #[.slice a 0 d, .int .i64 110]) ∧ Below w.heap.size w w' := by
  obtain ⟨a', c', e, _, hy⟩ := h.bys
  injection e with e1 e2 e3
  subst e1
  subst e2
  refine (open_any _ _ c l w hy hn hc).mono ?_
  rintro e w' ⟨hb, a5, c5, rfl, ho⟩
  have h1 : openL l = [] := by simp [openL, hu]
  have h2 : openE l = 110 := by simp [openE, hu]
  rw [h1, h2]
  exact ⟨a5, c5, rfl, hb⟩
theorem pow8 : ∀ b, b < 8 → (2 : Int) ^ b % (256 : Int) = ((1#8 <<< b : By).toNat : Int) := by decide +kernel
theorem turn_eq (c : By) (p : Nat) : bits .xor .u8 (c.toNat : Int) ((2 : Int) ^ (p % 8) % (256 : Int)) = ((c ^^^ 1#8 <<< (p % 8)).toNat : Int) := by
  rw [pow8 _ (Nat.mod_lt _ (by omega)), bx8]

theorem rem_nat (x : Int) (k : Nat) (hk : 0 < k) (hk2 : k ≤ 100000) : ∃ P : Nat, (wrap64 (x.tmod (8 * (k : Int)) + 8 * (k : Int))).tmod (8 * (k : Int)) = (P : Int) ∧ P < 8 * k := by
  have h := rem_in x (8 * (k : Int)) (by omega)
  have h1 := Int.lt_tmod_of_pos x (b := 8 * (k : Int)) (by omega)
  have h2 := Int.tmod_lt_of_pos x (b := 8 * (k : Int)) (by omega)
  have e : wrap64 (x.tmod (8 * (k : Int)) + 8 * (k : Int)) = x.tmod (8 * (k : Int)) + 8 * (k : Int) := by unfold wrap64; omega
  rw [e]
  exact ⟨((x.tmod (8 * (k : Int)) + 8 * (k : Int)).tmod (8 * (k : Int))).toNat, by omega, by omega⟩

set_option maxRecDepth 100000 in
set_option maxHeartbeats 2000000 in
theorem flips_walk (a : Option Addr) (n c : Nat) (l : List By) (x y : Int) (w : World) (h : Bys w a n l) :
    Calls Try.prog 9 #[.slice a n c, .int .i64 x, .int .i64 y] w fun e w' => e = .returned (.bool true) ∧ Below w.heap.size w w' := by
  have H := Lib.hid h; clear h
  rcases Nat.lt_or_ge 900 n with hn | hn
  · go_enter Try.func9, Try.ntmps9
    go_wp2_with fail
    refine (works_c _).mono ?_
    rintro e w4 ⟨rfl, B4⟩
    go_wp2_with fail
    go_ret
    exact ⟨rfl, B4⟩
  · go_enter Try.func9, Try.ntmps9
    go_wp2_with fail
    refine (rseal_c a n c l _ H.out (by omega)).mono ?_
    rintro e w1 ⟨v, rfl, ho, hb, hnn⟩
    obtain ⟨g, c7, hv, hc7⟩ := ho.here hnn
    have hlen : (sealB l).length = n + 4 := by simp [sealB, low_len, H.out.1]
    rw [hlen] at hv hc7
    subst hv
    have HL := Lib.hid hlen
    have HO := Lib.hid ho
    have HB := Lib.hid hb
    have HG := Lib.hid ho.base
    clear ho hb hnn hlen
    have hN : (8 : Int) * ((n : Int) + 4) ≠ 0 := by omega
    obtain ⟨P, hP, hp⟩ := rem_nat x (n + 4) (by omega) (by omega)
    obtain ⟨R, hR, hr⟩ := rem_nat y (n + 4) (by omega) (by omega)
    have e4 : ((n + 4 : Nat) : Int) = (n : Int) + 4 := by omega
    rw [e4] at hP hR
    have HP := Lib.hid hP; have HR := Lib.hid hR; clear hP hR e4
    go_wp2_with fail
    go_quiet (fail)
    rw [HP.out, HR.out]
    generalize (wrap64 (x.tmod (8 * (n + 4)) + 8 * (n + 4))) = j1
    generalize (wrap64 (y.tmod (8 * (n + 4)) + 8 * (n + 4))) = j2
    clear HP HR
    have HBq := Lib.hid (below_drewN HB.out nq)
    have HOq := Lib.hid (HO.out.below (below_drewN (Below.refl _ _) nq))
    have HGq : Hid (w.heap.size ≤ g ∧ g < (w1.drewN nq).heap.size) := Lib.hid (by simpa using HG.out)
    generalize w1.drewN nq = w2 at HBq HOq HGq ⊢
    clear HB HO HG
    obtain ⟨c1, hc1⟩ : ∃ c1, (sealB l)[P / 8]? = some c1 := ⟨(sealB l)[P / 8]'(by rw [HL.out]; omega), List.getElem?_eq_getElem _⟩
    obtain ⟨hcl, hfz⟩ := HOq.out.at_ hc1
    have ht := turn_eq c1 P
    obtain ⟨d1, hd1⟩ : ∃ d, d = c1 ^^^ 1#8 <<< (P % 8) := ⟨_, rfl⟩
    rw [← hd1] at ht
    have HF : Hid (OwnB (w2.setCell ⟨g, P / 8, none⟩ (.int .u8 (d1.toNat : Int))) w.heap.size (.slice (some ⟨g, 0, none⟩) (n + 4) c7) (flip (sealB l) P)) := by
      refine Lib.hid ?_
      have := HOq.out.put (P / 8) d1
      unfold flip
      rwa [List.getD_eq_getElem?_getD, hc1, Option.getD_some, ← hd1]
    clear hc1 hd1
    have HO1 := Lib.hid ((Only.refl g w2).setCell (p := ⟨g, P / 8, none⟩) (.inl rfl) (.int .u8 (d1.toNat : Int)))
    by_cases hPR : P = R
    · subst hPR
      go_wp2_with fail
      refine (open_bad g (n + 4) c7 _ _ _ HF.out (by omega) hc7 (flip_one l P (by rw [H.out.1]; omega))).mono ?_
      rintro e w3 ⟨a5, c5, rfl, hb⟩
      have HB3 := Lib.hid ((HBq.out.trans (HO1.out.below HBq.out.size HGq.out.1)).trans (hb.mono ((HBq.out.trans (HO1.out.below HBq.out.size HGq.out.1)).size)))
      clear hb
      go_wp2_with fail
      refine (num_c _ _).mono ?_
      rintro e w' ⟨rfl, rfl⟩
      go_wp2_with fail
      refine (works_c _).mono ?_
      rintro e w4 ⟨rfl, hb⟩
      have HB4 := Lib.hid (HB3.out.trans (hb.mono HB3.out.size))
      clear hb
      go_wp2_with fail
      go_ret
      exact ⟨rfl, HB4.out⟩
    · have hne : ¬ ((R : Int) = P) := by omega
      obtain ⟨c2, hc2⟩ : ∃ c2, (flip (sealB l) P)[R / 8]? = some c2 := ⟨(flip (sealB l) P)[R / 8]'(by rw [flip_len, HL.out]; omega), List.getElem?_eq_getElem _⟩
      obtain ⟨hcl2, hfz2⟩ := HF.out.at_ hc2
      have ht2 := turn_eq c2 R
      obtain ⟨d2, hd2⟩ : ∃ d, d = c2 ^^^ 1#8 <<< (R % 8) := ⟨_, rfl⟩
      rw [← hd2] at ht2
      have HF2 : Hid (OwnB ((w2.setCell ⟨g, P / 8, none⟩ (.int .u8 (d1.toNat : Int))).setCell ⟨g, R / 8, none⟩ (.int .u8 (d2.toNat : Int))) w.heap.size (.slice (some ⟨g, 0, none⟩) (n + 4) c7) (flip (flip (sealB l) P) R)) := by
        refine Lib.hid ?_
        have := HF.out.put (R / 8) d2
        generalize flip (sealB l) P = l1 at hc2 this ⊢
        unfold flip
        rwa [List.getD_eq_getElem?_getD, hc2, Option.getD_some, ← hd2]
      have HO2 := Lib.hid (HO1.out.setCell (p := ⟨g, R / 8, none⟩) (.inl rfl) (.int .u8 (d2.toNat : Int)))
      clear hc2 hd2
      go_wp2_with fail
      refine (open_bad g (n + 4) c7 _ _ _ HF2.out (by omega) hc7 (flip_two l P R (by rw [H.out.1]; omega) (by rw [H.out.1]; omega) (by rw [H.out.1]; omega) hPR)).mono ?_
      rintro e w3 ⟨a5, c5, rfl, hb⟩
      have HB3 := Lib.hid ((HBq.out.trans (HO2.out.below HBq.out.size HGq.out.1)).trans (hb.mono ((HBq.out.trans (HO2.out.below HBq.out.size HGq.out.1)).size)))
      clear hb
      go_wp2_with fail
      refine (num_c _ _).mono ?_
      rintro e w' ⟨rfl, rfl⟩
      go_wp2_with fail
      refine (works_c _).mono ?_
      rintro e w4 ⟨rfl, hb⟩
      have HB4 := Lib.hid (HB3.out.trans (hb.mono HB3.out.size))
      clear hb
      go_wp2_with fail
      go_ret
      exact ⟨rfl, HB4.out⟩
end Go.Proofs.Ytodjbgcmlpmknaa
