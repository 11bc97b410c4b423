/- Contracts: the sum of parts, with a key or without. -/
import Derived.Test.YticgknjjhkgggaaWq
namespace Go.Proofs.Yticgknjjhkgggaa
open Go.RowKit
set_option linter.unusedSimpArgs false
set_option linter.unusedVariables false

set_option maxHeartbeats 1000000 in
theorem keyed_bad (size : Int) (a : Option Addr) (n c : Nat) (pa : Option Addr) (pn pc : Nat) (w : World) (h : rightB size n = false) :
    Calls Try.prog 18 #[.int .i64 size, .slice a n c, .slice pa pn pc] w fun e w' => e = .returned (.tuple #[.slice none 0 0, .int .i64 2]) ∧ w = w' := by
  have H := Lib.hid h; clear h
  go_enter Try.func18, Try.ntmps18
  go_wp2_with fail
  refine (new_bad size a n c _ H.out).mono ?_
  rintro e w' ⟨rfl, rfl⟩
  go_wp2_with fail
  go_ret2
  exact ⟨rfl, rfl⟩
set_option maxRecDepth 100000 in
set_option maxHeartbeats 4000000 in
theorem keyed_c (wide : Nat) (a : Option Addr) (n c : Nat) (key : List By) (pa : Option Addr) (pn pc : Nat) (ps : List (List By)) (w : World) (hk : Bys w a n key) (h1 : 1 ≤ wide) (h2 : wide ≤ 32) (h3 : n ≤ 32) (hp : Prs w pa pn ps) (hpn : pn ≤ 1000000) (hf : ps.flatten.length ≤ 100000000) :
    Calls Try.prog 18 #[.int .i64 (wide : Int), .slice a n c, .slice pa pn pc] w fun e w' => ∃ v, e = .returned (.tuple #[v, .int .i64 0]) ∧ OwnB w' w.heap.size v (keyed wide key ps.flatten) ∧ Below w.heap.size w w' := by
  have HK := Lib.hid hk; have HP := Lib.hid hp; have HF := Lib.hid hf
  have HKL := Lib.hid hk.1
  clear hk hp hf
  go_enter Try.func18, Try.ntmps18
  go_wp2_with fail
  refine (new_c wide a n c key _ HK.out h1 h2 h3).mono ?_
  rintro e w1 ⟨b, rfl, hH, hbs, hB⟩
  have HH := Lib.hid hH; have HB := Lib.hid hB
  have HKB : Hid ((keyB key).length ≤ 64) := Lib.hid (by
    unfold keyB
    split
    · simp
    · rw [pad_len key (by have := HKL.out; omega)]; exact Nat.le_refl _)
  clear hH hB
  go_wp2_with fail
  go_loopw [23] (fun i wr => ∃ k : Nat, k ≤ pn ∧ i = .int .i64 k ∧ IsHash wr b (start wide n) (keyB key ++ (ps.take k).flatten) wide (0 + (ps.take k).flatten.length) ∧ Below w.heap.size w wr) (fun i _ => pn - (intOf i).toNat)
  case atStart => exact ⟨0, Nat.zero_le _, rfl, by simpa using HH.out, HB.out⟩
  case round =>
    obtain ⟨k, hk, rfl, hh, hb⟩ := hrel
    have HH := Lib.hid hh; have HB := Lib.hid hb
    clear hh hb
    by_cases hlt : k < pn
    · obtain ⟨p, hpk⟩ : ∃ p, ps[k]? = some p := ⟨ps[k]'(by rw [HP.out.1]; exact hlt), List.getElem?_eq_getElem _⟩
      obtain ⟨hpl, g, off, a', c', rfl, hg, hcell, hbys⟩ := (HP.out.below HB.out).2 k p hpk
      have HY := Lib.hid hbys
      have HPK := Lib.hid hpk
      have hle : (ps.take k).flatten.length + p.length ≤ 100000000 := by
        have := flat_take _ _ _ HPK.out
        have h2 := flat_le ps (k + 1)
        rw [this, List.length_append] at h2
        exact Nat.le_trans h2 HF.out
      have HLE := Lib.hid hle
      clear hbys hpk hle
      go_wp2_with fail
      refine (write_c b _ _ wide _ a' p.length c' p _ HH.out HY.out (by have := HLE.out; omega) (by have := HLE.out; have := HKB.out; rw [List.length_append]; omega) (by have := HLE.out; omega)).mono ?_
      rintro e w3 ⟨rfl, hh3, hO3⟩
      have hh4 : IsHash w3 b (start wide n) (keyB key ++ (ps.take (k + 1)).flatten) wide (0 + (ps.take (k + 1)).flatten.length) := by
        rw [flat_take _ _ _ HPK.out, ← List.append_assoc, List.length_append, ← Nat.add_assoc]
        exact hh3
      have HH4 := Lib.hid hh4
      have HB4 := Lib.hid (HB.out.trans (hO3.below HB.out.size hbs))
      clear hh3 hh4 hO3 hcell
      go_wp2_with fail
      go_roundw
      case rel => exact ⟨k + 1, by omega, by go_num, HH4.out, HB4.out⟩
      case measure => simp [intOf]; omega
    · obtain rfl : k = pn := by omega
      have hh := HH.out
      rw [List.take_of_length_le (by rw [HP.out.1]; exact Nat.le_refl _)] at hh
      have HH5 := Lib.hid hh
      clear hh
      go_wp2_with fail
      refine (sum_c b _ _ wide _ _ HH5.out).mono ?_
      rintro e w5 ⟨v, rfl, hv, hb5⟩
      have HV := Lib.hid hv
      have HB5 := Lib.hid (HB.out.trans (hb5.mono HB.out.size))
      have hzr := HB.out.size
      clear hv hb5
      go_wp2_with fail
      go_ret2
      refine ⟨v, rfl, ?_, HB5.out⟩
      have e : sumOf (start wide n) (keyB key ++ ps.flatten) wide = keyed wide key ps.flatten := by rw [keyed, HKL.out]
      rw [← e]
      exact own_low HV.out hzr
theorem zero36 (w : World) : (zeroValue 0036).run Try.prog w = .ok (.agg (bya (List.replicate 32 0#8))) w := by kernel_rfl
theorem range_bys {w : World} {g n : Nat} {l : List By} (h : Bys w (some ⟨g, 0, none⟩) n l) : w.rangeAt g 0 (bl l) := fun j v hv => by
  simp only [bl, List.getElem?_map, Option.map_eq_some_iff] at hv
  obtain ⟨x, hx, rfl⟩ := hv
  obtain ⟨g', off, e, _, hc⟩ := h.2 j x hx
  injection e with e
  injection e with e1 e2
  subst e1; subst e2
  exact hc
theorem keyed_len (wide : Nat) (key b : List By) (h : wide ≤ 32) : (keyed wide key b).length = wide := sumOf_len _ _ _ (start_len _ _) h
theorem run_arr (g cap : Nat) (w : World) : (Instr.arrayAt 0036 (.slice (some ⟨g, 0, none⟩) 32 cap)).run Try.prog w = .ok (.pointer (some ⟨g, 0, none⟩)) w := by
  simp [Instr.arrayAt, run_underlying Try.underlying36]
set_option maxRecDepth 100000 in
set_option maxHeartbeats 4000000 in
theorem bsum_c (pa : Option Addr) (pn pc : Nat) (ps : List (List By)) (w : World) (hp : Prs w pa pn ps) (hpn : pn ≤ 1000000) (hf : ps.flatten.length ≤ 100000000) :
    Calls Try.prog 16 #[.slice pa pn pc] w fun e w' => e = .returned (.agg (bya (keyed 32 [] ps.flatten))) ∧ Below w.heap.size w w' := by
  have z36 := zero36
  obtain ⟨Z, hZ⟩ : ∃ Z, Z = bya (List.replicate 32 0#8) := ⟨_, rfl⟩
  rw [← hZ] at z36
  have HZ := Lib.hid hZ
  clear hZ
  have HP := Lib.hid hp; have HF := Lib.hid hf
  clear hp hf
  go_enter Try.func16, Try.ntmps16
  go_wp2_with fail
  have HB0 := Lib.hid ((Below.refl w.heap.size w).alloc (Nat.le_refl _) (.cells Z 36))
  have HR := Lib.hid (Blk.new w 36 Z)
  have HP1 := Lib.hid (HP.out.below HB0.out)
  obtain ⟨s, hs⟩ : ∃ s, s = w.heap.size := ⟨_, rfl⟩
  rw [← hs] at HR ⊢
  have Hs := Lib.hid hs
  clear hs z36
  generalize (World.alloc _ _) = w1 at HB0 HR HP1 ⊢
  refine (keyed_c 32 none 0 0 [] pa pn pc ps _ ⟨rfl, fun i c hi => by simp at hi⟩ (by decide) (by decide) (by decide) HP1.out hpn HF.out).mono ?_
  rintro e w2 ⟨v, rfl, hv, hb2⟩
  have hkl := keyed_len 32 [] ps.flatten (by decide)
  obtain ⟨K, hK⟩ : ∃ K, K = keyed 32 [] ps.flatten := ⟨_, rfl⟩
  rw [← hK] at hv hkl
  have HK0 := Lib.hid hK
  have HR := Lib.hid (HR.out.below hb2 HR.out.lt)
  have HB2 := Lib.hid (HB0.out.trans (hb2.mono HB0.out.size))
  obtain ⟨g, cap, rfl, hcap, hby⟩ : ∃ g cap, v = .slice (some ⟨g, 0, none⟩) 32 cap ∧ 32 ≤ cap ∧ Bys w2 (some ⟨g, 0, none⟩) 32 K := by
    obtain ⟨ad, cap, e, h4, h5, _, h6⟩ := own_form hv
    rw [hkl] at e h4 h6
    cases ad with
    | none => have := h5 rfl; omega
    | some g => exact ⟨g, cap, e, h4, h6⟩
  have HY := Lib.hid hby
  have HKL := Lib.hid hkl
  clear hv hb2 hby hkl hK
  have harr := run_arr g cap
  go_wp2_with (first | (refine wpList_load_mid rfl 36 _ rfl g 0 rfl _ _ (range_bys HY.out) Try.underlying36 rfl (by rw [bl_len, HKL.out]; kernel_rfl) ?_; rw [← bya_bl]) | (refine wpl_store_blk rfl 36 _ _ rfl s 36 Z (bya K) rfl rfl HR.out (by rw [HZ.out, bya_size, bya_size, HKL.out]; rfl) (by rw [bya_size, HKL.out]; kernel_rfl) (bya_one _) ?_; intro w6 hB6 hO6 hz6))
  exact bodyPost_ret (results_cell_row rfl _ _ s 36 _ (0, 0) _ rfl hB6 Try.underlying36 rfl (by rw [bya_size, HKL.out]; kernel_rfl)) rfl ⟨by rw [HK0.out], HB2.out.trans (hO6.below HB2.out.size (by have := Hs.out; omega))⟩
end Go.Proofs.Yticgknjjhkgggaa
