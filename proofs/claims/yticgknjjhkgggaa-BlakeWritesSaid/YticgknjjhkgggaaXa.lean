/- Contracts: another hash of the same. -/
import Derived.Test.YticgknjjhkgggaaWz
namespace Go.Proofs.Yticgknjjhkgggaa
open Go.RowKit
set_option linter.unusedSimpArgs false
set_option linter.unusedVariables false

theorem IsHash.apart {w : World} {g : Nat} {h0 : List Wo} {d : List By} {wide len : Nat} (h : IsHash w g h0 d wide len) {a : Option Addr} {n : Nat} {l : List By} (hl : Bys w a n l) : ∀ x off, a = some ⟨x, off, none⟩ → 0 < n → x ≠ g := by
  obtain ⟨h1, h2, h3, h4, a', c', h5, h6, h7⟩ := h
  exact bys_apart h5 (by rw [pressN_len]; exact h1) (fun c e => by cases e) hl
theorem IsHash.only {w w' : World} {b g : Nat} {h0 h1 : List Wo} {d d1 : List By} {wide len wide1 len1 : Nat} (h : IsHash w b h0 d wide len) (hg : IsHash w g h1 d1 wide1 len1) (hbg : b ≠ g) (hO : Only g w w') : IsHash w' b h0 d wide len := by
  obtain ⟨e1, e2, e3, e4, a, c, h5, h6, h7⟩ := h
  exact ⟨e1, e2, e3, e4, a, c, hO.blk h5 hbg, h6.only hO (hg.apart h6), h7⟩
theorem range_all {w : World} {g : Nat} {t : TypeId} {cs : Array Value} (hb : Blk w g t cs) : w.rangeAt g 0 cs.toList := by
  have := World.rangeAt_of_block hb 0 cs.size
  have e : (cs.extract 0 (0 + cs.size)).toList = cs.toList := by simp
  rwa [e] at this
set_option maxRecDepth 100000 in
set_option maxHeartbeats 4000000 in
theorem copy_c (b : Nat) (h0 : List Wo) (d : List By) (wide len : Nat) (w : World) (hH : IsHash w b h0 d wide len) :
    Calls Try.prog 24 #[.pointer (some ⟨b, 0, none⟩)] w fun e w' => e = .returned (.pointer (some ⟨w.heap.size, 0, none⟩)) ∧ IsHash w' w.heap.size h0 d wide len ∧ Below w.heap.size w w' := by
  have HH := Lib.hid hH
  clear hH
  go_enter Try.func24, Try.ntmps24
  go_wp2_with fail
  refine (none_no b _ _ _ _ _ HH.out).mono ?_
  rintro e w' ⟨rfl, rfl⟩
  obtain ⟨hh0, hw1, hw2, hdl, la, lc, hblk, hlb, hsep⟩ := HH.out
  obtain ⟨P, hP⟩ : ∃ P, P = pressN h0 0 d (full d) := ⟨_, rfl⟩
  have hPl : P.length = 8 := by rw [hP, pressN_len]; exact hh0
  rw [← hP] at hblk
  have HP := Lib.hid hP; have HPL := Lib.hid hPl
  obtain ⟨n0, hn0⟩ : ∃ n, n = 64 * full d := ⟨_, rfl⟩
  rw [← hn0] at hblk
  have Hn0 := Lib.hid hn0
  clear hP hPl hn0
  have c9 := cell9 hblk HPL.out
  have hbs : b < w.heap.size := HH.out.lt
  have HBk := Lib.hid hblk
  have HLb := Lib.hid hlb
  clear hblk hlb
  have HCS : Hid ((scells P n0 [.slice la (leftOf d).length lc, .int .i64 (wide : Int), .int .i64 (len : Int)]).size = 12) := Lib.hid (scells_size HPL.out)
  go_upto_region 4 with (first | (refine wpList_load_mid rfl 57 _ rfl b 0 rfl _ _ (range_all HBk.out) Try.underlying57 rfl (by simp only [Array.length_toList, HCS.out]; kernel_rfl) ?_; rw [Array.toArray_toList]) | (refine wpl_store_blk rfl 57 _ _ rfl w.heap.size 57 _ (scells P n0 [.slice la (leftOf d).length lc, .int .i64 (wide : Int), .int .i64 (len : Int)]) rfl rfl (Blk.new w 57 _) (by rw [HCS.out]; rfl) (by rw [HCS.out]; kernel_rfl) (scells_one (by simp [Value.oneCell'])) ?_; intro w6 hB6 hO6 hz6))
  simp only [Act.put]
  have hb6 : Below w.heap.size w w6 := ((Below.refl w.heap.size w).alloc (Nat.le_refl _) _).trans (hO6.below (by simp) (Nat.le_refl _))
  have c9 := cell9 (HBk.out.below hb6 HBk.out.lt) HPL.out
  have HLb := Lib.hid (HLb.out.below hb6)
  have HB := Lib.hid hb6
  have HS := Lib.hid hB6
  obtain ⟨s, hs⟩ : ∃ s, s = w.heap.size := ⟨_, rfl⟩
  rw [← hs] at HS HB ⊢
  have Hs := Lib.hid hs
  clear hB6 hO6 hz6 hb6 hs
  have hlf := left_le d
  go_wp2_with fail
  refine (clone_c la (leftOf d).length lc _ _ HLb.out (by omega)).mono ?_
  rintro e w9 ⟨v, rfl, hv, hb9⟩
  have hB9 := HS.out.below hb9 HS.out.lt
  have c9 := cell9 hB9 HPL.out
  have f9 := hB9.frozen 9
  have h9 := set9 hB9 HPL.out v
  have HB := Lib.hid ((HB.out.trans (hb9.mono (by have := HB.out.size; have := Hs.out; omega))).setCell (p := ⟨s, 9, none⟩) (Nat.le_refl s) v)
  have hvO := hv.bys
  obtain ⟨va, vc, rfl, hvc, hvb⟩ := hvO
  have hap := bys_apart hB9 HPL.out (fun c e => by cases e) hvb
  have hvb9 := hvb.only ((Only.refl s w9).setCell (p := ⟨s, 9, none⟩) (.inl rfl) (.slice va (leftOf d).length vc)) hap
  have HV := Lib.hid hvb9
  have H9 := Lib.hid h9
  have HAp := Lib.hid hap
  clear hv hb9 hB9 h9 hvb hap hvb9
  go_wp2_with fail
  go_ret
  refine ⟨by rw [Hs.out]; rfl, ?_, by rw [← Hs.out]; exact HB.out⟩
  rw [← Hs.out]
  refine ⟨hh0, hw1, hw2, hdl, va, vc, ?_, HV.out, HAp.out⟩
  rw [← HP.out, ← Hn0.out]
  exact H9.out
theorem copy_none (p : Option Addr) (w : World) (h : NoHash w p) : Calls Try.prog 24 #[.pointer p] w fun e w' => e = .returned (.pointer none) ∧ w = w' := by
  have H := Lib.hid h; clear h
  go_enter Try.func24, Try.ntmps24
  go_wp2_with fail
  refine (none_yes p _ H.out).mono ?_
  rintro e w' ⟨rfl, rfl⟩
  go_wp2_with fail
  go_ret
  exact ⟨rfl, rfl⟩
end Go.Proofs.Yticgknjjhkgggaa
