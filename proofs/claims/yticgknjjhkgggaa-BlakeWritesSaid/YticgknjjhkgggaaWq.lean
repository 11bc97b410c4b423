/- Contracts: the sum of a hash. -/
import Derived.Test.YticgknjjhkgggaaWp
namespace Go.Proofs.Yticgknjjhkgggaa
open Go.RowKit
set_option linter.unusedSimpArgs false
set_option linter.unusedVariables false

theorem index27 (H : List Wo) (hH : H.length = 8) (k : Nat) (hk : k < 8) (w : World) : (Instr.index 0027 (.agg (ws H)) (.int .i64 (k : Int))).run Try.prog w = .ok (.int .u32 ((H.getD k 0#32).toNat : Int)) w := by
  match H, hH with
  | [x0, x1, x2, x3, x4, x5, x6, x7], _ =>
    rcases (show k = 0 ∨ k = 1 ∨ k = 2 ∨ k = 3 ∨ k = 4 ∨ k = 5 ∨ k = 6 ∨ k = 7 by omega) with rfl | rfl | rfl | rfl | rfl | rfl | rfl | rfl <;> (show _ = _; kernel_rfl)
theorem info55 : (Try.prog.info? 0055).map (·.size) = some 9 := by kernel_rfl
theorem range_state {w : World} {g : Nat} {t : TypeId} {h : List Wo} {n : Nat} {rest : List Value} (hb : Blk w g t (scells h n rest)) (hh : h.length = 8) : w.rangeAt g 0 (scells h n []).toList := by
  have := World.rangeAt_of_block hb 0 9
  have e : ((scells h n rest).extract 0 (0 + 9)).toList = (scells h n []).toList := by
    simp [scells, hh]
    rw [List.take_append, List.take_of_length_le (by simp [hh])]
    simp [hh]
  rwa [e] at this
theorem scells_one {h : List Wo} {n : Nat} {rest : List Value} (hr : ∀ v ∈ rest, v.oneCell' = true) : (scells h n rest).all (·.oneCell') = true := by
  simp only [scells, List.all_toArray, List.all_append, List.all_cons, Bool.and_eq_true]
  refine ⟨?_, rfl, ?_⟩
  · simp [wcell, Value.oneCell']
  · simpa using hr
theorem low_lit (x : Wo) : [Value.int .u8 ((x.toNat : Int) % 256), .int .u8 ((x.toNat : Int) / 256 % 256), .int .u8 ((x.toNat : Int) / 65536 % 256), .int .u8 ((x.toNat : Int) / 16777216)] = bl (lowB x) := by
  have := lt32 x
  simp [bl, lowB]
  omega
theorem outB_take (H : List Wo) (k : Nat) (hk : k < H.length) : outB (H.take (k + 1)) = outB (H.take k) ++ lowB (H.getD k 0#32) := by
  unfold outB
  rw [List.take_succ_eq_append_getElem hk, List.map_append, List.flatten_append]
  simp [List.getD_eq_getElem?_getD, List.getElem?_eq_getElem hk]
set_option maxRecDepth 100000 in
set_option maxHeartbeats 4000000 in
theorem sum_c (b : Nat) (h0 : List Wo) (d : List By) (wide len : Nat) (w : World) (hH : IsHash w b h0 d wide len) :
    Calls Try.prog 23 #[.pointer (some ⟨b, 0, none⟩)] w fun e w' => ∃ v, e = .returned v ∧ OwnB w' w.heap.size v (sumOf h0 d wide) ∧ Below w.heap.size w w' := by
  have HH := Lib.hid hH
  clear hH
  go_enter Try.func23, Try.ntmps23
  go_wp2_with fail
  refine (none_no b _ _ _ _ _ HH.out).mono ?_
  rintro e w' ⟨rfl, rfl⟩
  obtain ⟨hh0, hw1, hw2, hdl, la, lc, hblk, hlb, hsep⟩ := HH.out
  obtain ⟨P, hP⟩ : ∃ P, P = pressN h0 0 d (full d) := ⟨_, rfl⟩
  have hPl : P.length = 8 := by rw [hP, pressN_len]; exact hh0
  rw [← hP] at hblk
  have HP := Lib.hid hP; have HPL := Lib.hid hPl
  obtain ⟨n0, hn0⟩ : ∃ n, n = 64 * full d := ⟨_, rfl⟩
  rw [← hn0] at hblk
  have hn0b : n0 ≤ 100000000000 := by have := full_le d; omega
  have Hn0 := Lib.hid hn0
  clear hP hPl hn0
  have c9 := cell9 hblk HPL.out
  have hbs : b < w.heap.size := HH.out.lt
  have HBk := Lib.hid hblk
  have HBk0 := Lib.hid hblk
  have HLb := Lib.hid hlb
  clear hblk hlb
  go_upto_region 4 with (first | (refine wpList_load_mid rfl 55 _ rfl b 0 rfl _ _ (range_state HBk.out HPL.out) Try.underlying55 rfl (by simp only [Array.length_toList, scells_size HPL.out]; kernel_rfl) ?_; rw [Array.toArray_toList]) | (refine wpl_store_blk rfl 55 _ _ rfl w.heap.size 55 _ (scells P n0 []) rfl rfl (Blk.new w 55 _) (by rw [scells_size HPL.out]; rfl) (by rw [scells_size HPL.out]; kernel_rfl) (scells_one (by simp)) ?_; intro w6 hB6 hO6 hz6))
  have hb6 : Below w.heap.size w w6 := ((Below.refl w.heap.size w).alloc (Nat.le_refl _) _).trans (hO6.below (by simp) (Nat.le_refl _))
  have c9 := cell9 (HBk.out.below hb6 HBk.out.lt) HPL.out
  have HBk := Lib.hid (HBk.out.below hb6 HBk.out.lt)
  have HLb := Lib.hid (HLb.out.below hb6)
  have HB := Lib.hid hb6
  have HS := Lib.hid hB6
  obtain ⟨s, hs⟩ : ∃ s, s = w.heap.size := ⟨_, rfl⟩
  rw [← hs] at HS ⊢
  have Hs := Lib.hid hs
  clear hB6 hO6 hz6 hb6 hs
  go_wp2_with fail
  refine (spress_c s 55 P n0 [] la (leftOf d).length lc (leftOf d) true _ HPL.out HS.out HLb.out (left_le d) (by omega)).mono ?_
  rintro e w7 ⟨rfl, h7, hO7⟩
  obtain ⟨H, hHd⟩ : ∃ H, H = press P (pad (leftOf d)) (n0 + (leftOf d).length) true := ⟨_, rfl⟩
  have hHl : H.length = 8 := by rw [hHd, press_len]; exact HPL.out
  rw [← hHd] at h7
  have HHl := Lib.hid hHl
  have HHd : Hid (H = lastW h0 d) := Lib.hid (by rw [hHd, lastW, HP.out, Hn0.out, left_full])
  have HS := Lib.hid h7
  have HB := Lib.hid (HB.out.trans (hO7.below HB.out.size (by have := Hs.out; omega)))
  clear h7 hO7 hHl hHd c9 HBk HLb
  go_wp2_with (refine wpList_load_mid rfl 27 _ rfl s 0 rfl _ _ (range_words HS.out HHl.out) Try.underlying27 rfl (by simp only [Array.length_toList, ws_size, HHl.out]; kernel_rfl) ?_; rw [Array.toArray_toList])
  go_loopw [4, 20] (fun v i wr => ∃ k : Nat, k ≤ 8 ∧ i = .int .i64 k ∧ OwnB wr w.heap.size v (outB (H.take k)) ∧ Below w.heap.size w wr) (fun _ i _ => 8 - (intOf i).toNat)
  case atStart => exact ⟨0, Nat.zero_le _, rfl, ⟨by simp [outB, bl], .inl ⟨rfl, rfl⟩⟩, HB.out⟩
  case round =>
    clear HB HS
    obtain ⟨k, hk, rfl, ho, hb⟩ := hrel
    have HO := Lib.hid ho
    have HB := Lib.hid hb
    clear ho hb
    by_cases hlt : k < 8
    · have hlt' : (k : Int) < 8 := by omega
      have hix := index27 H HHl.out k hlt
      obtain ⟨x, hx⟩ : ∃ x, x = H.getD k 0#32 := ⟨_, rfl⟩
      rw [← hx] at hix
      have hxl := lt32 x
      have HX := Lib.hid hx
      clear hx
      go_wp2_with (at_builtin; refine wpl_append_bys rfl _ _ rfl w.heap.size _ _ rfl (HO.out.below ((Below.refl _ _).alloc (Nat.le_refl _) _)) (some ⟨wr.heap.size, 0, none⟩) 4 4 (lowB x) rfl (Bys.lit 5 (low_lit x) rfl) ?c1 ?c2 ?_)
      case c1 => rw [outB_len]; simp; omega
      case c2 => have := HB.out.size; simp; omega
      intro v3 w3 hown hg3 _
      have HB3 := Lib.hid ((HB.out.alloc HB.out.size _).trans (own_grown (HO.out.below ((Below.refl wr.heap.size wr).alloc (Nat.le_refl _) _)) hg3 (Nat.le_refl _) (by have := HB.out.size; simp; omega)))
      have HO3 : Hid (OwnB w3 w.heap.size v3 (outB (H.take (k + 1)))) := Lib.hid (by rw [outB_take H k (by rw [HHl.out]; exact hlt), ← HX.out]; exact hown)
      clear hown hg3
      go_wp2_with fail
      go_roundw
      case rel => exact ⟨k + 1, by omega, by go_num, HO3.out, HB3.out⟩
      case measure => simp [intOf]; omega
    · obtain rfl : k = 8 := by omega
      have ho := HO.out
      rw [List.take_of_length_le (by rw [HHl.out]; exact Nat.le_refl _)] at ho
      obtain ⟨oa, oc, rfl, hoc, hob⟩ := ho.bys
      rw [outB_len, HHl.out] at hoc
      have e32 : (outB H).length = 32 := by rw [outB_len, HHl.out]
      rw [e32] at hob ⊢
      have HOB := Lib.hid (hob.take wide hw2)
      have c10 := cell10 (HBk0.out.below HB.out hbs) HPL.out
      have k1 : ¬ (oc : Int) < (wide : Int) := by omega
      have k2 : (wide : Int) ≤ oc := by omega
      have k3 : (wide : Int) ≤ 32 := by omega
      clear ho hob HO
      go_wp2_with fail
      refine (clone_c oa wide oc _ _ HOB.out (by omega)).mono ?_
      rintro e w9 ⟨v, rfl, hv, hb9⟩
      have HV := Lib.hid hv
      have HB9 := Lib.hid (HB.out.trans (hb9.mono HB.out.size))
      have hzr := HB.out.size
      clear hv hb9
      go_wp2_with fail
      go_ret
      refine ⟨v, rfl, ?_, HB9.out⟩
      have e : (outB H).take wide = sumOf h0 d wide := by rw [sumOf, HHd.out]
      rw [← e]
      exact own_low HV.out hzr
theorem sum_none (p : Option Addr) (w : World) (h : NoHash w p) : Calls Try.prog 23 #[.pointer p] w fun e w' => e = .returned (.slice none 0 0) ∧ w = w' := by
  have H := Lib.hid h; clear h
  go_enter Try.func23, Try.ntmps23
  go_wp2_with fail
  refine (none_yes p _ H.out).mono ?_
  rintro e w' ⟨rfl, rfl⟩
  go_wp2_with fail
  go_ret
  exact ⟨rfl, rfl⟩
end Go.Proofs.Yticgknjjhkgggaa
