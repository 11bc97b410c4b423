/- Contracts: the reference's Press. -/
import Derived.Test.YticgknjjhkgggaaWh
import Derived.Test.YticgknjjhkgggaaWi
namespace Go.Proofs.Yticgknjjhkgggaa
open Go.RowKit
set_option linter.unusedSimpArgs false
set_option linter.unusedVariables false

def vfill (h : List Wo) : Nat → List Wo
  | 0 => List.replicate 16 0#32
  | k + 1 => ((vfill h k).set k (h.getD k 0#32)).set (k + 8) (iv.getD k 0#32)
theorem vfill_len (h : List Wo) (k : Nat) : (vfill h k).length = 16 := by
  induction k with
  | zero => simp [vfill]
  | succ k ih => rw [vfill, List.length_set, List.length_set, ih]
theorem vfill_all (h : List Wo) (hh : h.length = 8) : vfill h 8 = h ++ iv := by
  match h, hh with
  | [a, b, c, d, e, f, g, i], _ => rfl
theorem not_toNat (x : Wo) : (4294967295 : Int) - (x.toNat : Int) = ((~~~x).toNat : Int) := by
  have := lt32 x
  rw [BitVec.toNat_not]; omega

set_option maxRecDepth 100000 in
set_option maxHeartbeats 4000000 in
theorem rpress_c (h : List Wo) (b : List By) (n : Nat) (last : Bool) (w : World) (hh : h.length = 8) (hb : b.length = 64) (hn : n < 18446744073709551616) :
    Calls Try.prog 14 #[.agg (ws h), .agg (bya b), .int .u64 (n : Int), .bool last] w fun e w' => e = .returned (.agg (ws (press h b n last))) ∧ Below w.heap.size w w' := by
  have HE64 : Hid (IntKind.u64.wrap ((n : Int) / 4294967296) = (n : Int) / 4294967296) := Lib.hid (IntWalk.u64_in _ (by omega))
  clear hn
  have z27 := zero27
  have z61 := zero61
  obtain ⟨Z8, hZ8⟩ : ∃ Z, Z = ws (List.replicate 8 0#32) := ⟨_, rfl⟩
  obtain ⟨Z16, hZ16⟩ : ∃ Z, Z = ws (List.replicate 16 0#32) := ⟨_, rfl⟩
  obtain ⟨Hc, hHc⟩ : ∃ Z, Z = ws h := ⟨_, rfl⟩
  obtain ⟨Bc, hBc⟩ : ∃ Z, Z = bya b := ⟨_, rfl⟩
  rw [← hHc, ← hBc]
  rw [← hZ8] at z27
  rw [← hZ16] at z61
  have HZ8 := Lib.hid hZ8; have HZ16 := Lib.hid hZ16; have HHc := Lib.hid hHc; have HBc := Lib.hid hBc
  have HL8 := Lib.hid hh; have HL64 := Lib.hid hb
  clear hZ8 hZ16 hHc hBc hh hb
  obtain ⟨s, hs⟩ : ∃ s, s = w.heap.size := ⟨_, rfl⟩
  obtain ⟨W1, hW1, p1, p2, p3, p4, hB1, hz1⟩ := news4 w 27 28 27 61 Hc Bc Z8 Z16
  rw [← hs] at p1 p2 p3 p4 hB1 hz1
  have Hs := Lib.hid hs
  have HW := Lib.hid hW1
  have P1 := Lib.hid p1; have P2 := Lib.hid p2; have P3 := Lib.hid p3; have P4 := Lib.hid p4; have HB1 := Lib.hid hB1; have Hz1 := Lib.hid hz1
  clear hs hW1 p1 p2 p3 p4 hB1 hz1
  go_enter Try.func14, Try.ntmps14
  go_wp2_with fail
  rw [← HW.out, ← Hs.out]
  go_loopw [10] (fun i wr => ∃ k : Nat, k ≤ 16 ∧ i = .int .i64 k ∧ Blk wr (s + 1 + 1 + 1) 61 (ws (mfill b k)) ∧ Only (s + 1 + 1 + 1) W1 wr ∧ wr.heap.size = s + 1 + 1 + 1 + 1) (fun i _ => 16 - (intOf i).toNat)
  case atStart => exact ⟨0, Nat.zero_le _, rfl, by rw [mfill, ← HZ16.out]; exact P4.out, Only.refl _ _, Hz1.out⟩
  case round =>
    obtain ⟨k, hk, rfl, hM, hO, hz⟩ := hrel
    have HM := Lib.hid hM; have HO := Lib.hid hO; have HZ := Lib.hid hz
    clear hM hO hz
    have PB := Lib.hid (HO.out.blk P2.out (by omega))
    by_cases hlt : k < 16
    · have hlt' : (k : Int) < 16 := by omega
      have hf := HM.out.frozen k
      have hc := blk_ws HM.out (k := k) (by rw [mfill_len]; exact hlt)
      go_wp2_with fail
      have q0 := blk_bya (t := 28) (k := 4 * k) (by rw [← HBc.out]; exact PB.out) (by have := HL64.out; omega)
      have q1 := blk_bya (t := 28) (k := 4 * k + 1) (by rw [← HBc.out]; exact PB.out) (by have := HL64.out; omega)
      have q2 := blk_bya (t := 28) (k := 4 * k + 2) (by rw [← HBc.out]; exact PB.out) (by have := HL64.out; omega)
      have q3 := blk_bya (t := 28) (k := 4 * k + 3) (by rw [← HBc.out]; exact PB.out) (by have := HL64.out; omega)
      obtain ⟨x0, hx0⟩ : ∃ x, x = b.getD (4 * k) 0#8 := ⟨_, rfl⟩
      obtain ⟨x1, hx1⟩ : ∃ x, x = b.getD (4 * k + 1) 0#8 := ⟨_, rfl⟩
      obtain ⟨x2, hx2⟩ : ∃ x, x = b.getD (4 * k + 2) 0#8 := ⟨_, rfl⟩
      obtain ⟨x3, hx3⟩ : ∃ x, x = b.getD (4 * k + 3) 0#8 := ⟨_, rfl⟩
      rw [← hx0] at q0; rw [← hx1] at q1; rw [← hx2] at q2; rw [← hx3] at q3
      have hm : (x0.toNat : Int) + 256 * (x1.toNat : Int) + 65536 * (x2.toNat : Int) + 16777216 * (x3.toNat : Int) = ((msgW b k).toNat : Int) := by
        rw [msgW_toNat, ← hx0, ← hx1, ← hx2, ← hx3]; unfold wordN; omega
      have l0 := x0.isLt; have l1 := x1.isLt; have l2 := x2.isLt; have l3 := x3.isLt
      have hk0 : (0 : Int) ≤ (k : Int) := by omega
      have i0 : IntKind.i64.wrap (4 * (k : Int)) = 4 * (k : Int) := IntWalk.i64_in _ (by omega)
      have i1 : IntKind.i64.wrap (4 * (k : Int) + 1) = 4 * (k : Int) + 1 := IntWalk.i64_in _ (by omega)
      have i2 : IntKind.i64.wrap (4 * (k : Int) + 2) = 4 * (k : Int) + 2 := IntWalk.i64_in _ (by omega)
      have i3 : IntKind.i64.wrap (4 * (k : Int) + 3) = 4 * (k : Int) + 3 := IntWalk.i64_in _ (by omega)
      have j0 : (4 * (k : Int)).toNat = 4 * k := by omega
      have j1 : (4 * (k : Int) + 1).toNat = 4 * k + 1 := by omega
      have j2 : (4 * (k : Int) + 2).toNat = 4 * k + 2 := by omega
      have j3 : (4 * (k : Int) + 3).toNat = 4 * k + 3 := by omega
      have a0 : (0 : Int) ≤ 4 * (k : Int) := by omega
      have a1 : (0 : Int) ≤ 4 * (k : Int) + 1 := by omega
      have a2 : (0 : Int) ≤ 4 * (k : Int) + 2 := by omega
      have a3 : (0 : Int) ≤ 4 * (k : Int) + 3 := by omega
      have c0 : 4 * (k : Int) < 64 := by omega
      have c1 : 4 * (k : Int) + 1 < 64 := by omega
      have c2 : 4 * (k : Int) + 2 < 64 := by omega
      have c3 : 4 * (k : Int) + 3 < 64 := by omega
      have ux0 : IntKind.u32.wrap (x0.toNat : Int) = (x0.toNat : Int) := IntWalk.u32_in _ (by omega)
      have ux1 : IntKind.u32.wrap (x1.toNat : Int) = (x1.toNat : Int) := IntWalk.u32_in _ (by omega)
      have ux2 : IntKind.u32.wrap (x2.toNat : Int) = (x2.toNat : Int) := IntWalk.u32_in _ (by omega)
      have ux3 : IntKind.u32.wrap (x3.toNat : Int) = (x3.toNat : Int) := IntWalk.u32_in _ (by omega)
      have u1 : IntKind.u32.wrap (256 * (x1.toNat : Int)) = 256 * (x1.toNat : Int) := IntWalk.u32_in _ (by omega)
      have u2 : IntKind.u32.wrap (65536 * (x2.toNat : Int)) = 65536 * (x2.toNat : Int) := IntWalk.u32_in _ (by omega)
      have u3 : IntKind.u32.wrap (16777216 * (x3.toNat : Int)) = 16777216 * (x3.toNat : Int) := IntWalk.u32_in _ (by omega)
      have u4 : IntKind.u32.wrap ((x0.toNat : Int) + 256 * (x1.toNat : Int)) = (x0.toNat : Int) + 256 * (x1.toNat : Int) := IntWalk.u32_in _ (by omega)
      have u5 : IntKind.u32.wrap ((x0.toNat : Int) + 256 * (x1.toNat : Int) + 65536 * (x2.toNat : Int)) = (x0.toNat : Int) + 256 * (x1.toNat : Int) + 65536 * (x2.toNat : Int) := IntWalk.u32_in _ (by omega)
      have u6 : IntKind.u32.wrap ((x0.toNat : Int) + 256 * (x1.toNat : Int) + 65536 * (x2.toNat : Int) + 16777216 * (x3.toNat : Int)) = (x0.toNat : Int) + 256 * (x1.toNat : Int) + 65536 * (x2.toNat : Int) + 16777216 * (x3.toNat : Int) := IntWalk.u32_in _ (by omega)
      have HX0 := Lib.hid hx0; have HX1 := Lib.hid hx1; have HX2 := Lib.hid hx2; have HX3 := Lib.hid hx3
      clear hx0 hx1 hx2 hx3
      have HMM := Lib.hid hm
      clear hm
      go_still_tail 30, (by kernel_rfl)
      change wpList _ _ _ _ _ wr.drew
      clear ux0 ux1 ux2 ux3 u1 u2 u3 u4 u5 u6 i0 i1 i2 i3 j0 j1 j2 j3 q0 q1 q2 q3
      rw [HMM.out]
      have hf := HM.out.drew.frozen k
      have hc := blk_ws HM.out.drew (k := k) (by rw [mfill_len]; exact hlt)
      have HM2 := Lib.hid (blk_ws_set HM.out.drew k (msgW b k))
      have HO2 := Lib.hid (HO.out.drew.setCell (p := ⟨s + 1 + 1 + 1, k, none⟩) (.inl rfl) (.int .u32 ((msgW b k).toNat : Int)))
      have hzd : wr.drew.heap.size = s + 1 + 1 + 1 + 1 := HZ.out
      have HZD := Lib.hid hzd
      clear hzd
      generalize wr.drew = wd at hf hc HM2 HO2 HZD ⊢
      go_wp2_with fail
      go_roundw
      case rel => exact ⟨k + 1, by omega, by go_num, HM2.out, HO2.out, by have := HZD.out; simpa using this⟩
      case measure => simp [intOf]; omega
    · obtain rfl : k = 16 := by omega
      have PH := Lib.hid (HO.out.blk P1.out (by omega))
      have PR := Lib.hid (HO.out.blk P3.out (by omega))
      have PW := Lib.hid (HB1.out.trans (HO.out.below (B := s) (by have := Hz1.out; omega) (by omega)))
      have hps : PS w s Hc (ws (mfill b 16)) Z16 Z8 (wr.alloc (.cells Z16 61)) := ⟨PH.out.alloc _, PR.out.alloc _, HM.out.alloc _, by have := Blk.new wr 61 Z16; rwa [HZ.out] at this, PW.out.alloc (by have := HZ.out; omega) _⟩
      have HPS := Lib.hid hps
      clear hps PB P1 P2 P3 P4 PH PR PW HB1 HO
      go_wp2_with fail
      rw [HZ.out]
      generalize (World.alloc _ _) = w2 at HPS ⊢
      refine (rfirst_c _).mono ?_
      rintro e w3 ⟨rfl, hb3⟩
      have HPS := Lib.hid (HPS.out.below hb3)
      clear hb3
      go_wp2_with (refine wpl_store_blk rfl 27 _ _ rfl w3.heap.size 27 Z8 _ rfl rfl (Blk.new w3 27 Z8) (by rw [HZ8.out]; rfl) (by kernel_rfl) (by kernel_rfl) ?_; intro w4 hB4 hO4 hz4)
      have hgf : s + 1 + 1 + 1 + 1 < w3.heap.size := HPS.out.v.lt
      generalize w3.heap.size = gf at hB4 hO4 hgf ⊢
      have HPS := Lib.hid ((HPS.out.alloc (.cells Z8 27)).newer hO4 hgf)
      have HF := Lib.hid hB4
      clear hB4 hO4 hz4
      have HIV : Hid (iv.length = 8) := Lib.hid rfl
      go_loopw [13] (fun i wr => ∃ k : Nat, k ≤ 8 ∧ i = .int .i64 k ∧ PS w s Hc (ws (mfill b 16)) (ws (vfill h k)) Z8 wr ∧ Blk wr gf 27 (ws iv)) (fun i _ => 8 - (intOf i).toNat)
      case atStart => exact ⟨0, Nat.zero_le _, rfl, by rw [vfill, ← HZ16.out]; exact HPS.out, HF.out⟩
      case round =>
        clear HPS HF
        obtain ⟨k, hk, rfl, hp, hf⟩ := hrel
        have HPS := Lib.hid hp
        have HF := Lib.hid hf
        clear hp hf
        by_cases hlt : k < 8
        · have hlt' : (k : Int) < 8 := by omega
          have hk0 : (0 : Int) ≤ (k : Int) := by omega
          have hk16 : (k : Int) < 16 := by omega
          have hk8 : (k : Int) + 8 < 16 := by omega
          go_wp2_with fail
          obtain ⟨x1, hx1⟩ : ∃ x, x = h.getD k 0#32 := ⟨_, rfl⟩
          obtain ⟨x2, hx2⟩ : ∃ x, x = iv.getD k 0#32 := ⟨_, rfl⟩
          have HX1 := Lib.hid hx1; have HX2 := Lib.hid hx2
          clear hx1 hx2
          have v1 : IntKind.i64.wrap ((k : Int) + 8) = (k : Int) + 8 := IntWalk.i64_in _ (by omega)
          have v2 : ((k : Int) + 8).toNat = k + 8 := by omega
          have v3 : (0 : Int) ≤ (k : Int) + 8 := by omega
          have HPS := Lib.hid HPS.out.drew
          have HF := Lib.hid HF.out.drew
          have hS0 : Blk wr.drew s 27 (ws h) ∧ Blk wr.drew gf 27 (ws iv) := ⟨by have := HPS.out.h; rw [HHc.out] at this; exact this, HF.out⟩
          refine wp_region_held_drew (S := (fun W => Blk W s 27 (ws h) ∧ Blk W gf 27 (ws iv))) (by kernel_rfl) hS0 ?_
          intro hS0'
          generalize wr.drew = wA at hS0' HPS HF ⊢
          refine wpAnyH_take (i := 0) (v := .int .i64 (k : Int)) rfl (by kernel_rfl) (by kernel_rfl) (by kernel_rfl) (fun _ _ _ h => h) (Or.inl ⟨by kernel_rfl, fun w hSw => ?_⟩) hS0' ?_
          · go_simp
          try simp only [Act.put, List.getElem_toArray, List.getElem_cons_succ, List.getElem_cons_zero, List.setIfInBounds_toArray, List.set_cons_zero, List.set_cons_succ]
          refine wpAnyH_take (i := 1) (v := .int .i64 (k : Int)) rfl (by kernel_rfl) (by kernel_rfl) (by kernel_rfl) (fun _ _ _ h => h) (Or.inl ⟨by kernel_rfl, fun w hSw => ?_⟩) hS0' ?_
          · go_simp
          try simp only [Act.put, List.getElem_toArray, List.getElem_cons_succ, List.getElem_cons_zero, List.setIfInBounds_toArray, List.set_cons_zero, List.set_cons_succ]
          refine wpAnyH_take (i := 2) (v := .int .i64 ((k : Int) + 8)) rfl (by kernel_rfl) (by kernel_rfl) (by kernel_rfl) (fun _ _ _ h => h) (Or.inl ⟨by kernel_rfl, fun w hSw => ?_⟩) hS0' ?_
          · go_simp
          try simp only [Act.put, List.getElem_toArray, List.getElem_cons_succ, List.getElem_cons_zero, List.setIfInBounds_toArray, List.set_cons_zero, List.set_cons_succ]
          refine wpAnyH_take (i := 3) (v := .int .i64 (k : Int)) rfl (by kernel_rfl) (by kernel_rfl) (by kernel_rfl) (fun _ _ _ h => h) (Or.inl ⟨by kernel_rfl, fun w hSw => ?_⟩) hS0' ?_
          · go_simp
          try simp only [Act.put, List.getElem_toArray, List.getElem_cons_succ, List.getElem_cons_zero, List.setIfInBounds_toArray, List.set_cons_zero, List.set_cons_succ]
          refine wpAnyH_take (i := 4) (v := .pointer (some ⟨s, k, none⟩)) rfl (by kernel_rfl) (by kernel_rfl) (by kernel_rfl) (fun _ _ _ h => h) (Or.inl ⟨by kernel_rfl, fun w hSw => ?_⟩) hS0' ?_
          · go_simp
          try simp only [Act.put, List.getElem_toArray, List.getElem_cons_succ, List.getElem_cons_zero, List.setIfInBounds_toArray, List.set_cons_zero, List.set_cons_succ]
          refine wpAnyH_take (i := 5) (v := .int .u32 (x1.toNat : Int)) rfl (by kernel_rfl) (by kernel_rfl) (by kernel_rfl) (fun _ _ _ h => h) (Or.inl ⟨by kernel_rfl, fun w hSw => ?_⟩) hS0' ?_
          · have hc : w.cell? ⟨s, k, none⟩ = some (.int .u32 (x1.toNat : Int)) := by rw [HX1.out]; exact blk_ws hSw.1 (by have := HL8.out; omega)
            clear hSw
            go_simp
          try simp only [Act.put, List.getElem_toArray, List.getElem_cons_succ, List.getElem_cons_zero, List.setIfInBounds_toArray, List.set_cons_zero, List.set_cons_succ]
          refine wpAnyH_take (i := 6) (v := .int .i64 (k : Int)) rfl (by kernel_rfl) (by kernel_rfl) (by kernel_rfl) (fun _ _ _ h => h) (Or.inl ⟨by kernel_rfl, fun w hSw => ?_⟩) hS0' ?_
          · go_simp
          try simp only [Act.put, List.getElem_toArray, List.getElem_cons_succ, List.getElem_cons_zero, List.setIfInBounds_toArray, List.set_cons_zero, List.set_cons_succ]
          refine wpAnyH_take (i := 7) (v := .pointer (some ⟨gf, k, none⟩)) rfl (by kernel_rfl) (by kernel_rfl) (by kernel_rfl) (fun _ _ _ h => h) (Or.inl ⟨by kernel_rfl, fun w hSw => ?_⟩) hS0' ?_
          · go_simp
          try simp only [Act.put, List.getElem_toArray, List.getElem_cons_succ, List.getElem_cons_zero, List.setIfInBounds_toArray, List.set_cons_zero, List.set_cons_succ]
          refine wpAnyH_take (i := 8) (v := .int .u32 (x2.toNat : Int)) rfl (by kernel_rfl) (by kernel_rfl) (by kernel_rfl) (fun _ _ _ h => h) (Or.inl ⟨by kernel_rfl, fun w hSw => ?_⟩) hS0' ?_
          · have hc : w.cell? ⟨gf, k, none⟩ = some (.int .u32 (x2.toNat : Int)) := by rw [HX2.out]; exact blk_ws hSw.2 (by have := HIV.out; omega)
            clear hSw
            go_simp
          try simp only [Act.put, List.getElem_toArray, List.getElem_cons_succ, List.getElem_cons_zero, List.setIfInBounds_toArray, List.set_cons_zero, List.set_cons_succ]
          refine wpAnyH_take (i := 9) (v := .pointer (some ⟨s + 1 + 1 + 1 + 1, k, none⟩)) rfl (by kernel_rfl) (by kernel_rfl) (by kernel_rfl) (fun _ _ _ h => h) (Or.inl ⟨by kernel_rfl, fun w hSw => ?_⟩) hS0' ?_
          · go_simp
          try simp only [Act.put, List.getElem_toArray, List.getElem_cons_succ, List.getElem_cons_zero, List.setIfInBounds_toArray, List.set_cons_zero, List.set_cons_succ]
          refine wpAnyH_ready (rs := [10]) (by kernel_rfl) (by simp) ?_
          refine AllReadyH.cons (by rfl) ?_ AllReadyH.nil
          intro K hK
          have fv := HPS.out.v.frozen k
          have cv := blk_ws HPS.out.v (k := k) (by rw [vfill_len]; omega)
          go_simp
          have HPS := Lib.hid (HPS.out.set k x1)
          have HF := Lib.hid (HF.out.far (p := ⟨s + 1 + 1 + 1 + 1, k, none⟩) (Nat.ne_of_gt hgf) (.int .u32 (x1.toNat : Int)))
          generalize (World.setCell _ _ _) = wB at HPS HF ⊢
          refine hK.out _ _ ⟨by have := HPS.out.h; rw [HHc.out] at this; exact this, HF.out⟩ (fun hS1 => ?_)
          clear hK K
          refine wpAnyH_take (i := 11) (v := .pointer (some ⟨s + 1 + 1 + 1 + 1, k + 8, none⟩)) rfl (by kernel_rfl) (by kernel_rfl) (by kernel_rfl) (fun _ _ _ h => h) (Or.inl ⟨by kernel_rfl, fun w hSw => ?_⟩) hS1 ?_
          · go_simp
          try simp only [Act.put, List.getElem_toArray, List.getElem_cons_succ, List.getElem_cons_zero, List.setIfInBounds_toArray, List.set_cons_zero, List.set_cons_succ]
          refine wpAnyH_ready (rs := [12]) (by kernel_rfl) (by simp) ?_
          refine AllReadyH.cons (by rfl) ?_ AllReadyH.nil
          intro K hK
          have fv := HPS.out.v.frozen (k + 8)
          have cv := blk_ws HPS.out.v (k := k + 8) (by rw [List.length_set, vfill_len]; omega)
          go_simp
          have HPS := Lib.hid (HPS.out.set (k + 8) x2)
          have HF := Lib.hid (HF.out.far (p := ⟨s + 1 + 1 + 1 + 1, k + 8, none⟩) (Nat.ne_of_gt hgf) (.int .u32 (x2.toNat : Int)))
          generalize (World.setCell _ _ _) = wC at HPS HF ⊢
          refine hK.out _ _ ⟨by have := HPS.out.h; rw [HHc.out] at this; exact this, HF.out⟩ (fun hS2 => ?_)
          clear hK K
          refine wpAnyH_done (by kernel_rfl) ?_ _
          go_wp2_with fail
          clear v1 v2 v3
          go_roundw
          case rel =>
            refine ⟨k + 1, by omega, by go_num, ?_, HF.out⟩
            rw [vfill, ← HX1.out, ← HX2.out]
            exact HPS.out
          case measure => simp [intOf]; omega
        · obtain rfl : k = 8 := by omega
          rw [vfill_all h HL8.out] at HPS
          have hv := HPS.out.v
          obtain ⟨V, hV⟩ : ∃ V, V = h ++ iv := ⟨_, rfl⟩
          rw [← hV] at hv HPS
          have HV := Lib.hid hV
          have HVL : Hid (V.length = 16) := Lib.hid (by rw [hV, List.length_append, HL8.out]; rfl)
          clear hV
          have c12 := blk_ws hv (k := 12) (by rw [HVL.out]; decide)
          have c13 := blk_ws hv (k := 13) (by rw [HVL.out]; decide)
          rw [List.getD_eq_getElem?_getD] at c12 c13
          obtain ⟨x12, hx12⟩ : ∃ x, x = V[12]?.getD 0#32 := ⟨_, rfl⟩
          obtain ⟨x13, hx13⟩ : ∃ x, x = V[13]?.getD 0#32 := ⟨_, rfl⟩
          rw [← hx12] at c12
          rw [← hx13] at c13
          have HX12 := Lib.hid hx12; have HX13 := Lib.hid hx13
          have e12 : bits .xor .u32 (x12.toNat : Int) ((n : Int) % 4294967296) = ((x12 ^^^ BitVec.ofNat 32 n).toNat : Int) := by
            rw [← bx, BitVec.toNat_ofNat]; congr 1
          have e13 : bits .xor .u32 (x13.toNat : Int) ((n : Int) / 4294967296 % 4294967296) = ((x13 ^^^ BitVec.ofNat 32 (n / 4294967296)).toNat : Int) := by
            rw [← bx, BitVec.toNat_ofNat]; congr 1
          obtain ⟨y12, hy12⟩ : ∃ x, x = x12 ^^^ BitVec.ofNat 32 n := ⟨_, rfl⟩
          obtain ⟨y13, hy13⟩ : ∃ x, x = x13 ^^^ BitVec.ofNat 32 (n / 4294967296) := ⟨_, rfl⟩
          rw [← hy12] at e12
          rw [← hy13] at e13
          have HY12 := Lib.hid hy12; have HY13 := Lib.hid hy13
          have f12 := hv.frozen 12
          have f13 := hv.frozen 13
          clear hv hx12 hx13 hy12 hy13
          have hn0 : (0 : Int) ≤ (n : Int) := by omega
          have e64 := HE64.out
          go_upto_if 85 with (fail)
          go_cut [] (fun wx => PS w s Hc (ws (mfill b 16)) (ws (v0 h n last)) Z8 wx)
          case first =>
            have HPS := Lib.hid ((HPS.out.set 12 y12).set 13 y13)
            generalize (World.setCell _ _ _) = wx at HPS ⊢
            obtain ⟨V2, hV2⟩ : ∃ V2, V2 = (V.set 12 y12).set 13 y13 := ⟨_, rfl⟩
            have hfin : vnot V2 last = v0 h n last := by
              unfold v0
              rw [hV2, HY12.out, HY13.out, HX12.out, HX13.out, HV.out]
              congr 1
              unfold vx
              simp only [List.getD_eq_getElem?_getD, List.getElem?_set_ne (by decide : (12 : Nat) ≠ 13)]
            rw [← hV2] at HPS
            have HFIN := Lib.hid hfin
            have HVL2 : Hid (V2.length = 16) := Lib.hid (by rw [hV2]; simp [HVL.out])
            clear e64 hfin hV2 c12 c13 f12 f13 e12 e13
            cases last with
            | false =>
              go_wp2_with fail
              go_meet
              rw [← HFIN.out]
              exact HPS.out
            | true =>
              have hv := HPS.out.v
              have c14 := blk_ws hv (k := 14) (by rw [HVL2.out]; decide)
              rw [List.getD_eq_getElem?_getD] at c14
              have f14 := hv.frozen 14
              obtain ⟨x14, hx14⟩ : ∃ x, x = V2[14]?.getD 0#32 := ⟨_, rfl⟩
              rw [← hx14] at c14
              have HX14 := Lib.hid hx14
              have HN14 := Lib.hid (not_toNat x14)
              have l14 := lt32 x14
              clear hv hx14
              go_wp2_with fail
              go_meet
              rw [HN14.out, ← HFIN.out]
              have := HPS.out.set 14 (~~~x14)
              rw [HX14.out, ← List.getD_eq_getElem?_getD] at this ⊢
              exact this
          case rest =>
            have HPS := Lib.hid hcut
            clear e64 hcut c12 c13 f12 f13 e12 e13 HX12 HX13 HY12 HY13 HV HVL
            generalize hV : v0 h n last = V0 at HPS
            have HV0 := Lib.hid hV
            have HVL0 : Hid (V0.length = 16) := Lib.hid (by rw [← hV]; exact v0_len _ _ _ HL8.out)
            clear hV
            go_wp2_with fail
            rw [show ((8 : Nat) : Int) = 8 from rfl]
            generalize hMM : mfill b 16 = M0 at HPS
            have HMM := Lib.hid hMM
            have HML : Hid (M0.length = 16) := Lib.hid (by rw [← hMM]; exact mfill_len b 16)
            clear hMM
            go_loopw [14] (fun i wr => ∃ n : Nat, n ≤ 10 ∧ i = .int .i64 n ∧ PS w s Hc (ws M0) (ws (turns M0 V0 n)) Z8 wr) (fun i _ => 10 - (intOf i).toNat)
            case atStart => exact ⟨0, Nat.zero_le _, rfl, HPS.out⟩
            case round =>
              clear HPS
              obtain ⟨m, hm, rfl, hp⟩ := hrel
              have HPS := Lib.hid hp
              clear hp
              by_cases hlt : m < 10
              · have hlt' : (m : Int) < 10 := by omega
                have HOL : Hid ((ordN.getD m []).length = 16) := Lib.hid (ordN_len m hlt)
                have HOL2 : Hid (∀ k, (ordN.getD m []).getD k 0 < 16) := Lib.hid (ordN_lt m)
                go_wp2_with fail
                refine (order_c m _ hlt).mono ?_
                rintro e wo ⟨rfl, hbo⟩
                have HPS := Lib.hid (HPS.out.below hbo)
                clear hbo
                obtain ⟨O, hO⟩ : ∃ O, O = ordN.getD m [] := ⟨_, rfl⟩
                rw [← hO] at HOL HOL2 ⊢
                have HO := Lib.hid hO
                clear hO
                go_wp2_with (refine wpl_store_blk rfl 68 _ _ rfl wo.heap.size 68 _ (ints O) rfl rfl (Blk.new wo 68 _) (by rw [ints_size, HOL.out]; rfl) (by rw [ints_size, HOL.out]; kernel_rfl) (ints_one _) ?_; intro wq hBq hOq hzq)
                have hgo : s + 1 + 1 + 1 + 1 < wo.heap.size := HPS.out.v.lt
                have HPS := Lib.hid ((HPS.out.alloc _).newer hOq hgo)
                have HGO := Lib.hid hBq
                generalize wo.heap.size = go at hgo HGO ⊢
                clear hBq hOq hzq
                generalize hVT : turns M0 V0 m = VT at HPS
                have HVT := Lib.hid hVT
                have HVTL : Hid (VT.length = 16) := Lib.hid (by rw [← hVT, turns_len]; exact HVL0.out)
                clear hVT
                go_loopw [16] (fun i wr => ∃ k : Nat, k ≤ 8 ∧ i = .int .i64 k ∧ PS w s Hc (ws M0) (ws (turnK M0 O VT k)) Z8 wr ∧ Blk wr go 68 (ints O)) (fun i _ => 8 - (intOf i).toNat)
                case atStart => exact ⟨0, Nat.zero_le _, rfl, HPS.out, HGO.out⟩
                case round =>
                  clear HPS HGO
                  obtain ⟨k, hk, rfl, hp, hg⟩ := hrel
                  have HPS := Lib.hid hp
                  have HGO := Lib.hid hg
                  clear hp hg
                  by_cases hlt : k < 8
                  · have hlt' : (k : Int) < 8 := by omega
                    have hk0 : (0 : Int) ≤ (k : Int) := by omega
                    go_wp2_with fail
                    refine (places_c k _ hlt).mono ?_
                    rintro e wp ⟨rfl, hbp⟩
                    have HPS := Lib.hid (HPS.out.below hbp)
                    have HGO := Lib.hid (HGO.out.below hbp HGO.out.lt)
                    clear hbp
                    obtain ⟨p0, hp0⟩ : ∃ p, p = k % 4 := ⟨_, rfl⟩
                    obtain ⟨p1, hp1⟩ : ∃ p, p = 4 + (k % 4 + k / 4) % 4 := ⟨_, rfl⟩
                    obtain ⟨p2, hp2⟩ : ∃ p, p = 8 + (k % 4 + 2 * (k / 4)) % 4 := ⟨_, rfl⟩
                    obtain ⟨p3, hp3⟩ : ∃ p, p = 12 + (k % 4 + 3 * (k / 4)) % 4 := ⟨_, rfl⟩
                    have hpn : placesN k = [p0, p1, p2, p3] := by unfold placesN; rw [hp0, hp1, hp2, hp3]
                    rw [hpn]
                    have z0 : (0 : Int) ≤ (p0 : Int) := by omega
                    have z1 : (0 : Int) ≤ (p1 : Int) := by omega
                    have z2 : (0 : Int) ≤ (p2 : Int) := by omega
                    have z3 : (0 : Int) ≤ (p3 : Int) := by omega
                    have y0 : (p0 : Int) < 16 := by omega
                    have y1 : (p1 : Int) < 16 := by omega
                    have y2 : (p2 : Int) < 16 := by omega
                    have y3 : (p3 : Int) < 16 := by omega
                    have HP0 := Lib.hid hp0; have HP1 := Lib.hid hp1; have HP2 := Lib.hid hp2; have HP3 := Lib.hid hp3
                    clear hp0 hp1 hp2 hp3 hpn
                    go_wp2_with (refine wpl_store_blk rfl 72 _ _ rfl wp.heap.size 72 _ (ints [p0, p1, p2, p3]) rfl rfl (Blk.new wp 72 _) rfl (by kernel_rfl) (ints_one _) ?_; intro wq hBq hOq hzq)
                    have hgp : s + 1 + 1 + 1 + 1 < wp.heap.size := HPS.out.v.lt
                    have hgp2 : go ≠ wp.heap.size := Nat.ne_of_lt HGO.out.lt
                    have HPS := Lib.hid ((HPS.out.alloc _).newer hOq hgp)
                    have HGO := Lib.hid (hOq.blk (HGO.out.alloc _) hgp2)
                    have HGP := Lib.hid hBq
                    generalize wp.heap.size = gp at hgp hgp2 HGP ⊢
                    clear hBq hOq hzq
                    obtain ⟨V, hV⟩ : ∃ V, V = turnK M0 O VT k := ⟨_, rfl⟩
                    have hvl : V.length = 16 := by rw [hV, turnK_len]; exact HVTL.out
                    rw [← hV] at HPS
                    have HVV := Lib.hid hV
                    have HVL := Lib.hid hvl
                    clear hV hvl
                    obtain ⟨i1, hi1⟩ : ∃ i, i = O.getD (2 * k) 0 := ⟨_, rfl⟩
                    obtain ⟨i2, hi2⟩ : ∃ i, i = O.getD (2 * k + 1) 0 := ⟨_, rfl⟩
                    have l1 : i1 < 16 := by rw [hi1]; exact HOL2.out _
                    have l2 : i2 < 16 := by rw [hi2]; exact HOL2.out _
                    have l1' : (i1 : Int) < 16 := by omega
                    have l2' : (i2 : Int) < 16 := by omega
                    have m1' : (0 : Int) ≤ (i1 : Int) := by omega
                    have m2' : (0 : Int) ≤ (i2 : Int) := by omega
                    obtain ⟨x1, hx1⟩ : ∃ x, x = M0.getD i1 0#32 := ⟨_, rfl⟩
                    obtain ⟨x2, hx2⟩ : ∃ x, x = M0.getD i2 0#32 := ⟨_, rfl⟩
                    obtain ⟨a0, ha0⟩ : ∃ a, a = V.getD p0 0#32 := ⟨_, rfl⟩
                    obtain ⟨a1, ha1⟩ : ∃ a, a = V.getD p1 0#32 := ⟨_, rfl⟩
                    obtain ⟨a2, ha2⟩ : ∃ a, a = V.getD p2 0#32 := ⟨_, rfl⟩
                    obtain ⟨a3, ha3⟩ : ∃ a, a = V.getD p3 0#32 := ⟨_, rfl⟩
                    obtain ⟨q, hq⟩ : ∃ q, q = quadAt V p0 p1 p2 p3 := ⟨_, rfl⟩
                    have hqc : q.cells = #[.int .u32 (a0.toNat : Int), .int .u32 (a1.toNat : Int), .int .u32 (a2.toNat : Int), .int .u32 (a3.toNat : Int)] := by rw [hq, ha0, ha1, ha2, ha3]; rfl
                    have HQC := Lib.hid hqc
                    have HQQ := Lib.hid hq
                    have HI1 := Lib.hid hi1; have HI2 := Lib.hid hi2; have HX1 := Lib.hid hx1; have HX2 := Lib.hid hx2
                    have HA0 := Lib.hid ha0; have HA1 := Lib.hid ha1; have HA2 := Lib.hid ha2; have HA3 := Lib.hid ha3
                    clear hi1 hi2 hx1 hx2 ha0 ha1 ha2 ha3 hqc hq
                    simp only [Act.put]
                    go_upto_region 24 with (fail)
                    go_cut [18] (fun s18 wx => ∃ gq : Nat, s18 = .pointer (some ⟨gq, 0, none⟩) ∧ PS w s Hc (ws M0) (ws V) Z8 wx ∧ Blk wx go 68 (ints O) ∧ Blk wx gp 72 (ints [p0, p1, p2, p3]) ∧ Blk wx gq 23 (mix q x1 x2).cells ∧ s + 1 + 1 + 1 + 1 < gq ∧ go ≠ gq ∧ gp ≠ gq)
                    case first =>
                      have w1 : IntKind.i64.wrap (2 * (k : Int)) = 2 * (k : Int) := IntWalk.i64_in _ (by omega)
                      have w2 : IntKind.i64.wrap (2 * (k : Int) + 1) = 2 * (k : Int) + 1 := IntWalk.i64_in _ (by omega)
                      have n1 : (2 * (k : Int)).toNat = 2 * k := by omega
                      have n2 : (2 * (k : Int) + 1).toNat = 2 * k + 1 := by omega
                      have n3 : (0 : Int) ≤ 2 * (k : Int) := by omega
                      have n4 : (0 : Int) ≤ 2 * (k : Int) + 1 := by omega
                      have n5 : 2 * (k : Int) < 16 := by omega
                      have n6 : 2 * (k : Int) + 1 < 16 := by omega
                      have HPS := Lib.hid HPS.out.drew
                      have HGO := Lib.hid HGO.out.drew
                      have HGP := Lib.hid HGP.out.drew
                      have hS0 : Blk wq.drew gp 72 (ints [p0, p1, p2, p3]) ∧ Blk wq.drew (s + 1 + 1 + 1 + 1) 61 (ws V) ∧ Blk wq.drew (s + 1 + 1 + 1) 61 (ws M0) ∧ Blk wq.drew go 68 (ints O) := ⟨HGP.out, HPS.out.v, HPS.out.m, HGO.out⟩
                      refine wp_region_held_drew (S := (fun W => Blk W gp 72 (ints [p0, p1, p2, p3]) ∧ Blk W (s + 1 + 1 + 1 + 1) 61 (ws V) ∧ Blk W (s + 1 + 1 + 1) 61 (ws M0) ∧ Blk W go 68 (ints O))) (by kernel_rfl) hS0 ?_
                      intro hS0'
                      generalize wq.drew = wA at hS0' HPS HGO HGP ⊢
                      refine wpAnyH_take (i := 0) (v := .pointer (some ⟨gp, 0, none⟩)) rfl (by kernel_rfl) (by kernel_rfl) (by kernel_rfl) (fun _ _ _ h => h) (Or.inl ⟨by kernel_rfl, fun w hSw => ?_⟩) hS0' ?_
                      · go_simp
                      try simp only [Act.put, List.getElem_toArray, List.getElem_cons_succ, List.getElem_cons_zero, List.setIfInBounds_toArray, List.set_cons_zero, List.set_cons_succ]
                      refine wpAnyH_take (i := 1) (v := .int .i64 (p0 : Int)) rfl (by kernel_rfl) (by kernel_rfl) (by kernel_rfl) (fun _ _ _ h => h) (Or.inl ⟨by kernel_rfl, fun w hSw => ?_⟩) hS0' ?_
                      · have hc : w.cell? ⟨gp, 0, none⟩ = some (.int .i64 (p0 : Int)) := hSw.1.cell rfl
                        clear hSw
                        go_simp
                      try simp only [Act.put, List.getElem_toArray, List.getElem_cons_succ, List.getElem_cons_zero, List.setIfInBounds_toArray, List.set_cons_zero, List.set_cons_succ]
                      refine wpAnyH_take (i := 2) (v := .pointer (some ⟨s + 1 + 1 + 1 + 1, p0, none⟩)) rfl (by kernel_rfl) (by kernel_rfl) (by kernel_rfl) (fun _ _ _ h => h) (Or.inl ⟨by kernel_rfl, fun w hSw => ?_⟩) hS0' ?_
                      · go_simp
                      try simp only [Act.put, List.getElem_toArray, List.getElem_cons_succ, List.getElem_cons_zero, List.setIfInBounds_toArray, List.set_cons_zero, List.set_cons_succ]
                      refine wpAnyH_take (i := 3) (v := .int .u32 (a0.toNat : Int)) rfl (by kernel_rfl) (by kernel_rfl) (by kernel_rfl) (fun _ _ _ h => h) (Or.inl ⟨by kernel_rfl, fun w hSw => ?_⟩) hS0' ?_
                      · have hc : w.cell? ⟨s + 1 + 1 + 1 + 1, p0, none⟩ = some (.int .u32 (a0.toNat : Int)) := by rw [HA0.out]; exact blk_ws hSw.2.1 (by have := HVL.out; omega)
                        clear hSw
                        go_simp
                      try simp only [Act.put, List.getElem_toArray, List.getElem_cons_succ, List.getElem_cons_zero, List.setIfInBounds_toArray, List.set_cons_zero, List.set_cons_succ]
                      refine wpAnyH_take (i := 4) (v := .pointer (some ⟨gp, 1, none⟩)) rfl (by kernel_rfl) (by kernel_rfl) (by kernel_rfl) (fun _ _ _ h => h) (Or.inl ⟨by kernel_rfl, fun w hSw => ?_⟩) hS0' ?_
                      · go_simp
                      try simp only [Act.put, List.getElem_toArray, List.getElem_cons_succ, List.getElem_cons_zero, List.setIfInBounds_toArray, List.set_cons_zero, List.set_cons_succ]
                      refine wpAnyH_take (i := 5) (v := .int .i64 (p1 : Int)) rfl (by kernel_rfl) (by kernel_rfl) (by kernel_rfl) (fun _ _ _ h => h) (Or.inl ⟨by kernel_rfl, fun w hSw => ?_⟩) hS0' ?_
                      · have hc : w.cell? ⟨gp, 1, none⟩ = some (.int .i64 (p1 : Int)) := hSw.1.cell rfl
                        clear hSw
                        go_simp
                      try simp only [Act.put, List.getElem_toArray, List.getElem_cons_succ, List.getElem_cons_zero, List.setIfInBounds_toArray, List.set_cons_zero, List.set_cons_succ]
                      refine wpAnyH_take (i := 6) (v := .pointer (some ⟨s + 1 + 1 + 1 + 1, p1, none⟩)) rfl (by kernel_rfl) (by kernel_rfl) (by kernel_rfl) (fun _ _ _ h => h) (Or.inl ⟨by kernel_rfl, fun w hSw => ?_⟩) hS0' ?_
                      · go_simp
                      try simp only [Act.put, List.getElem_toArray, List.getElem_cons_succ, List.getElem_cons_zero, List.setIfInBounds_toArray, List.set_cons_zero, List.set_cons_succ]
                      refine wpAnyH_take (i := 7) (v := .int .u32 (a1.toNat : Int)) rfl (by kernel_rfl) (by kernel_rfl) (by kernel_rfl) (fun _ _ _ h => h) (Or.inl ⟨by kernel_rfl, fun w hSw => ?_⟩) hS0' ?_
                      · have hc : w.cell? ⟨s + 1 + 1 + 1 + 1, p1, none⟩ = some (.int .u32 (a1.toNat : Int)) := by rw [HA1.out]; exact blk_ws hSw.2.1 (by have := HVL.out; omega)
                        clear hSw
                        go_simp
                      try simp only [Act.put, List.getElem_toArray, List.getElem_cons_succ, List.getElem_cons_zero, List.setIfInBounds_toArray, List.set_cons_zero, List.set_cons_succ]
                      refine wpAnyH_take (i := 8) (v := .pointer (some ⟨gp, 2, none⟩)) rfl (by kernel_rfl) (by kernel_rfl) (by kernel_rfl) (fun _ _ _ h => h) (Or.inl ⟨by kernel_rfl, fun w hSw => ?_⟩) hS0' ?_
                      · go_simp
                      try simp only [Act.put, List.getElem_toArray, List.getElem_cons_succ, List.getElem_cons_zero, List.setIfInBounds_toArray, List.set_cons_zero, List.set_cons_succ]
                      refine wpAnyH_take (i := 9) (v := .int .i64 (p2 : Int)) rfl (by kernel_rfl) (by kernel_rfl) (by kernel_rfl) (fun _ _ _ h => h) (Or.inl ⟨by kernel_rfl, fun w hSw => ?_⟩) hS0' ?_
                      · have hc : w.cell? ⟨gp, 2, none⟩ = some (.int .i64 (p2 : Int)) := hSw.1.cell rfl
                        clear hSw
                        go_simp
                      try simp only [Act.put, List.getElem_toArray, List.getElem_cons_succ, List.getElem_cons_zero, List.setIfInBounds_toArray, List.set_cons_zero, List.set_cons_succ]
                      refine wpAnyH_take (i := 10) (v := .pointer (some ⟨s + 1 + 1 + 1 + 1, p2, none⟩)) rfl (by kernel_rfl) (by kernel_rfl) (by kernel_rfl) (fun _ _ _ h => h) (Or.inl ⟨by kernel_rfl, fun w hSw => ?_⟩) hS0' ?_
                      · go_simp
                      try simp only [Act.put, List.getElem_toArray, List.getElem_cons_succ, List.getElem_cons_zero, List.setIfInBounds_toArray, List.set_cons_zero, List.set_cons_succ]
                      refine wpAnyH_take (i := 11) (v := .int .u32 (a2.toNat : Int)) rfl (by kernel_rfl) (by kernel_rfl) (by kernel_rfl) (fun _ _ _ h => h) (Or.inl ⟨by kernel_rfl, fun w hSw => ?_⟩) hS0' ?_
                      · have hc : w.cell? ⟨s + 1 + 1 + 1 + 1, p2, none⟩ = some (.int .u32 (a2.toNat : Int)) := by rw [HA2.out]; exact blk_ws hSw.2.1 (by have := HVL.out; omega)
                        clear hSw
                        go_simp
                      try simp only [Act.put, List.getElem_toArray, List.getElem_cons_succ, List.getElem_cons_zero, List.setIfInBounds_toArray, List.set_cons_zero, List.set_cons_succ]
                      refine wpAnyH_take (i := 12) (v := .pointer (some ⟨gp, 3, none⟩)) rfl (by kernel_rfl) (by kernel_rfl) (by kernel_rfl) (fun _ _ _ h => h) (Or.inl ⟨by kernel_rfl, fun w hSw => ?_⟩) hS0' ?_
                      · go_simp
                      try simp only [Act.put, List.getElem_toArray, List.getElem_cons_succ, List.getElem_cons_zero, List.setIfInBounds_toArray, List.set_cons_zero, List.set_cons_succ]
                      refine wpAnyH_take (i := 13) (v := .int .i64 (p3 : Int)) rfl (by kernel_rfl) (by kernel_rfl) (by kernel_rfl) (fun _ _ _ h => h) (Or.inl ⟨by kernel_rfl, fun w hSw => ?_⟩) hS0' ?_
                      · have hc : w.cell? ⟨gp, 3, none⟩ = some (.int .i64 (p3 : Int)) := hSw.1.cell rfl
                        clear hSw
                        go_simp
                      try simp only [Act.put, List.getElem_toArray, List.getElem_cons_succ, List.getElem_cons_zero, List.setIfInBounds_toArray, List.set_cons_zero, List.set_cons_succ]
                      refine wpAnyH_take (i := 14) (v := .pointer (some ⟨s + 1 + 1 + 1 + 1, p3, none⟩)) rfl (by kernel_rfl) (by kernel_rfl) (by kernel_rfl) (fun _ _ _ h => h) (Or.inl ⟨by kernel_rfl, fun w hSw => ?_⟩) hS0' ?_
                      · go_simp
                      try simp only [Act.put, List.getElem_toArray, List.getElem_cons_succ, List.getElem_cons_zero, List.setIfInBounds_toArray, List.set_cons_zero, List.set_cons_succ]
                      refine wpAnyH_take (i := 15) (v := .int .u32 (a3.toNat : Int)) rfl (by kernel_rfl) (by kernel_rfl) (by kernel_rfl) (fun _ _ _ h => h) (Or.inl ⟨by kernel_rfl, fun w hSw => ?_⟩) hS0' ?_
                      · have hc : w.cell? ⟨s + 1 + 1 + 1 + 1, p3, none⟩ = some (.int .u32 (a3.toNat : Int)) := by rw [HA3.out]; exact blk_ws hSw.2.1 (by have := HVL.out; omega)
                        clear hSw
                        go_simp
                      try simp only [Act.put, List.getElem_toArray, List.getElem_cons_succ, List.getElem_cons_zero, List.setIfInBounds_toArray, List.set_cons_zero, List.set_cons_succ]
                      refine wpAnyH_take (i := 16) (v := .agg #[.int .u32 (a0.toNat : Int), .int .u32 (a1.toNat : Int), .int .u32 (a2.toNat : Int), .int .u32 (a3.toNat : Int)]) rfl (by kernel_rfl) (by kernel_rfl) (by kernel_rfl) (fun _ _ _ h => h) (Or.inl ⟨by kernel_rfl, fun w hSw => ?_⟩) hS0' ?_
                      · go_simp
                      try simp only [Act.put, List.getElem_toArray, List.getElem_cons_succ, List.getElem_cons_zero, List.setIfInBounds_toArray, List.set_cons_zero, List.set_cons_succ]
                      refine wpAnyH_take (i := 17) (v := .int .i64 (k : Int)) rfl (by kernel_rfl) (by kernel_rfl) (by kernel_rfl) (fun _ _ _ h => h) (Or.inl ⟨by kernel_rfl, fun w hSw => ?_⟩) hS0' ?_
                      · go_simp
                      try simp only [Act.put, List.getElem_toArray, List.getElem_cons_succ, List.getElem_cons_zero, List.setIfInBounds_toArray, List.set_cons_zero, List.set_cons_succ]
                      refine wpAnyH_take (i := 18) (v := .int .i64 (2 * (k : Int))) rfl (by kernel_rfl) (by kernel_rfl) (by kernel_rfl) (fun _ _ _ h => h) (Or.inl ⟨by kernel_rfl, fun w hSw => ?_⟩) hS0' ?_
                      · go_simp
                      try simp only [Act.put, List.getElem_toArray, List.getElem_cons_succ, List.getElem_cons_zero, List.setIfInBounds_toArray, List.set_cons_zero, List.set_cons_succ]
                      refine wpAnyH_take (i := 19) (v := .pointer (some ⟨go, 2 * k, none⟩)) rfl (by kernel_rfl) (by kernel_rfl) (by kernel_rfl) (fun _ _ _ h => h) (Or.inl ⟨by kernel_rfl, fun w hSw => ?_⟩) hS0' ?_
                      · go_simp
                      try simp only [Act.put, List.getElem_toArray, List.getElem_cons_succ, List.getElem_cons_zero, List.setIfInBounds_toArray, List.set_cons_zero, List.set_cons_succ]
                      refine wpAnyH_take (i := 20) (v := .int .i64 (i1 : Int)) rfl (by kernel_rfl) (by kernel_rfl) (by kernel_rfl) (fun _ _ _ h => h) (Or.inl ⟨by kernel_rfl, fun w hSw => ?_⟩) hS0' ?_
                      · have hc : w.cell? ⟨go, 2 * k, none⟩ = some (.int .i64 (i1 : Int)) := by rw [HI1.out]; exact blk_ints hSw.2.2.2 (by have := HOL.out; omega)
                        clear hSw
                        go_simp
                      try simp only [Act.put, List.getElem_toArray, List.getElem_cons_succ, List.getElem_cons_zero, List.setIfInBounds_toArray, List.set_cons_zero, List.set_cons_succ]
                      refine wpAnyH_take (i := 21) (v := .pointer (some ⟨s + 1 + 1 + 1, i1, none⟩)) rfl (by kernel_rfl) (by kernel_rfl) (by kernel_rfl) (fun _ _ _ h => h) (Or.inl ⟨by kernel_rfl, fun w hSw => ?_⟩) hS0' ?_
                      · go_simp
                      try simp only [Act.put, List.getElem_toArray, List.getElem_cons_succ, List.getElem_cons_zero, List.setIfInBounds_toArray, List.set_cons_zero, List.set_cons_succ]
                      refine wpAnyH_take (i := 22) (v := .int .u32 (x1.toNat : Int)) rfl (by kernel_rfl) (by kernel_rfl) (by kernel_rfl) (fun _ _ _ h => h) (Or.inl ⟨by kernel_rfl, fun w hSw => ?_⟩) hS0' ?_
                      · have hc : w.cell? ⟨s + 1 + 1 + 1, i1, none⟩ = some (.int .u32 (x1.toNat : Int)) := by rw [HX1.out]; exact blk_ws hSw.2.2.1 (by have := HML.out; omega)
                        clear hSw
                        go_simp
                      try simp only [Act.put, List.getElem_toArray, List.getElem_cons_succ, List.getElem_cons_zero, List.setIfInBounds_toArray, List.set_cons_zero, List.set_cons_succ]
                      refine wpAnyH_take (i := 23) (v := .int .i64 (k : Int)) rfl (by kernel_rfl) (by kernel_rfl) (by kernel_rfl) (fun _ _ _ h => h) (Or.inl ⟨by kernel_rfl, fun w hSw => ?_⟩) hS0' ?_
                      · go_simp
                      try simp only [Act.put, List.getElem_toArray, List.getElem_cons_succ, List.getElem_cons_zero, List.setIfInBounds_toArray, List.set_cons_zero, List.set_cons_succ]
                      refine wpAnyH_take (i := 24) (v := .int .i64 (2 * (k : Int))) rfl (by kernel_rfl) (by kernel_rfl) (by kernel_rfl) (fun _ _ _ h => h) (Or.inl ⟨by kernel_rfl, fun w hSw => ?_⟩) hS0' ?_
                      · go_simp
                      try simp only [Act.put, List.getElem_toArray, List.getElem_cons_succ, List.getElem_cons_zero, List.setIfInBounds_toArray, List.set_cons_zero, List.set_cons_succ]
                      refine wpAnyH_take (i := 25) (v := .int .i64 (2 * (k : Int) + 1)) rfl (by kernel_rfl) (by kernel_rfl) (by kernel_rfl) (fun _ _ _ h => h) (Or.inl ⟨by kernel_rfl, fun w hSw => ?_⟩) hS0' ?_
                      · go_simp
                      try simp only [Act.put, List.getElem_toArray, List.getElem_cons_succ, List.getElem_cons_zero, List.setIfInBounds_toArray, List.set_cons_zero, List.set_cons_succ]
                      refine wpAnyH_take (i := 26) (v := .pointer (some ⟨go, 2 * k + 1, none⟩)) rfl (by kernel_rfl) (by kernel_rfl) (by kernel_rfl) (fun _ _ _ h => h) (Or.inl ⟨by kernel_rfl, fun w hSw => ?_⟩) hS0' ?_
                      · go_simp
                      try simp only [Act.put, List.getElem_toArray, List.getElem_cons_succ, List.getElem_cons_zero, List.setIfInBounds_toArray, List.set_cons_zero, List.set_cons_succ]
                      refine wpAnyH_take (i := 27) (v := .int .i64 (i2 : Int)) rfl (by kernel_rfl) (by kernel_rfl) (by kernel_rfl) (fun _ _ _ h => h) (Or.inl ⟨by kernel_rfl, fun w hSw => ?_⟩) hS0' ?_
                      · have hc : w.cell? ⟨go, 2 * k + 1, none⟩ = some (.int .i64 (i2 : Int)) := by rw [HI2.out]; exact blk_ints hSw.2.2.2 (by have := HOL.out; omega)
                        clear hSw
                        go_simp
                      try simp only [Act.put, List.getElem_toArray, List.getElem_cons_succ, List.getElem_cons_zero, List.setIfInBounds_toArray, List.set_cons_zero, List.set_cons_succ]
                      refine wpAnyH_take (i := 28) (v := .pointer (some ⟨s + 1 + 1 + 1, i2, none⟩)) rfl (by kernel_rfl) (by kernel_rfl) (by kernel_rfl) (fun _ _ _ h => h) (Or.inl ⟨by kernel_rfl, fun w hSw => ?_⟩) hS0' ?_
                      · go_simp
                      try simp only [Act.put, List.getElem_toArray, List.getElem_cons_succ, List.getElem_cons_zero, List.setIfInBounds_toArray, List.set_cons_zero, List.set_cons_succ]
                      refine wpAnyH_take (i := 29) (v := .int .u32 (x2.toNat : Int)) rfl (by kernel_rfl) (by kernel_rfl) (by kernel_rfl) (fun _ _ _ h => h) (Or.inl ⟨by kernel_rfl, fun w hSw => ?_⟩) hS0' ?_
                      · have hc : w.cell? ⟨s + 1 + 1 + 1, i2, none⟩ = some (.int .u32 (x2.toNat : Int)) := by rw [HX2.out]; exact blk_ws hSw.2.2.1 (by have := HML.out; omega)
                        clear hSw
                        go_simp
                      try simp only [Act.put, List.getElem_toArray, List.getElem_cons_succ, List.getElem_cons_zero, List.setIfInBounds_toArray, List.set_cons_zero, List.set_cons_succ]
                      refine wpAnyH_ready (rs := [30, 31]) (by kernel_rfl) (by simp) ?_
                      refine AllReadyH.cons (by rfl) ?_ ?_
                      · intro K hK
                        go_simp
                        rw [← HQC.out]
                        refine (rmix_c q x1 x2 _).mono ?_
                        rintro e wC ⟨rfl, hb⟩
                        have HPS := Lib.hid (HPS.out.below hb)
                        have HGO := Lib.hid (HGO.out.below hb HGO.out.lt)
                        have HGP := Lib.hid (HGP.out.below hb HGP.out.lt)
                        refine hK.out _ _ ⟨HGP.out, HPS.out.v, HPS.out.m, HGO.out⟩ (fun hS1 => ?_)
                        clear hK K
                        refine wpAnyH_ready (rs := [31]) (by kernel_rfl) (by simp) ?_
                        refine AllReadyH.cons (by rfl) ?_ AllReadyH.nil
                        intro K hK
                        go_simp
                        have hgq1 : s + 1 + 1 + 1 + 1 < wC.heap.size := HPS.out.v.lt
                        have hgq2 : go ≠ wC.heap.size := Nat.ne_of_lt HGO.out.lt
                        have hgq3 : gp ≠ wC.heap.size := Nat.ne_of_lt HGP.out.lt
                        have hgq := Blk.new wC 23 #[.int .u32 0, .int .u32 0, .int .u32 0, .int .u32 0]
                        have hp1 := HPS.out.alloc (.cells #[.int .u32 0, .int .u32 0, .int .u32 0, .int .u32 0] 23)
                        have hg1 := HGO.out.alloc (.cells #[.int .u32 0, .int .u32 0, .int .u32 0, .int .u32 0] 23)
                        have hg2 := HGP.out.alloc (.cells #[.int .u32 0, .int .u32 0, .int .u32 0, .int .u32 0] 23)
                        generalize wC.heap.size = gq at hgq1 hgq2 hgq3 hgq ⊢
                        generalize (World.alloc _ _) = wD at hgq hp1 hg1 hg2 ⊢
                        have HPS := Lib.hid hp1
                        have HGO := Lib.hid hg1
                        have HGP := Lib.hid hg2
                        have HGQ := Lib.hid hgq
                        clear hp1 hg1 hg2 hgq
                        refine hK.out _ _ ⟨HGP.out, HPS.out.v, HPS.out.m, HGO.out⟩ (fun hS2 => ?_)
                        clear hK K
                        refine wpAnyH_ready (rs := [32]) (by kernel_rfl) (by simp) ?_
                        refine all_readyH_yes (by rfl) (by kernel_rfl) ?_ AllReadyH.nil
                        intro K hK
                        with_reducible refine wp_store_blk 23 (.tmp 18) (.tmp 132) ?_ gq 23 _ (mix q x1 x2).cells ?_ ?_ HGQ.out ?_ (Quad.info _) (Quad.one _) ?_
                        · kernel_rfl
                        · kernel_rfl
                        · kernel_rfl
                        · rfl
                        intro w6 hB6 hO6 hz6
                        try simp only [Act.put, List.getElem_toArray, List.getElem_cons_succ, List.getElem_cons_zero, List.setIfInBounds_toArray, List.set_cons_zero, List.set_cons_succ]
                        have HPS := Lib.hid (HPS.out.newer hO6 hgq1)
                        have HGO := Lib.hid (hO6.blk HGO.out hgq2)
                        have HGP := Lib.hid (hO6.blk HGP.out hgq3)
                        have HGQ := Lib.hid hB6
                        refine hK.out _ _ ⟨HGP.out, HPS.out.v, HPS.out.m, HGO.out⟩ (fun hS7 => ?_)
                        clear hK K
                        refine wpAnyH_done (by kernel_rfl) ?_ _
                        go_wp2_with fail
                        go_meet
                        exact ⟨gq, rfl, HPS.out, HGO.out, HGP.out, HGQ.out, hgq1, hgq2, hgq3⟩
                      refine AllReadyH.cons (by rfl) ?_ AllReadyH.nil
                      intro K hK
                      go_simp
                      have hgq1 : s + 1 + 1 + 1 + 1 < wA.heap.size := HPS.out.v.lt
                      have hgq2 : go ≠ wA.heap.size := Nat.ne_of_lt HGO.out.lt
                      have hgq3 : gp ≠ wA.heap.size := Nat.ne_of_lt HGP.out.lt
                      have hgq := Blk.new wA 23 #[.int .u32 0, .int .u32 0, .int .u32 0, .int .u32 0]
                      have hp1 := HPS.out.alloc (.cells #[.int .u32 0, .int .u32 0, .int .u32 0, .int .u32 0] 23)
                      have hg1 := HGO.out.alloc (.cells #[.int .u32 0, .int .u32 0, .int .u32 0, .int .u32 0] 23)
                      have hg2 := HGP.out.alloc (.cells #[.int .u32 0, .int .u32 0, .int .u32 0, .int .u32 0] 23)
                      generalize wA.heap.size = gq at hgq1 hgq2 hgq3 hgq ⊢
                      generalize (World.alloc _ _) = wD at hgq hp1 hg1 hg2 ⊢
                      have HPS := Lib.hid hp1
                      have HGO := Lib.hid hg1
                      have HGP := Lib.hid hg2
                      have HGQ := Lib.hid hgq
                      clear hp1 hg1 hg2 hgq
                      refine hK.out _ _ ⟨HGP.out, HPS.out.v, HPS.out.m, HGO.out⟩ (fun hS2 => ?_)
                      clear hK K
                      refine wpAnyH_ready (rs := [30]) (by kernel_rfl) (by simp) ?_
                      refine AllReadyH.cons (by rfl) ?_ AllReadyH.nil
                      intro K hK
                      go_simp
                      rw [← HQC.out]
                      refine (rmix_c q x1 x2 _).mono ?_
                      rintro e wC ⟨rfl, hb⟩
                      have HPS := Lib.hid (HPS.out.below hb)
                      have HGO := Lib.hid (HGO.out.below hb HGO.out.lt)
                      have HGP := Lib.hid (HGP.out.below hb HGP.out.lt)
                      have HGQ := Lib.hid (HGQ.out.below hb HGQ.out.lt)
                      refine hK.out _ _ ⟨HGP.out, HPS.out.v, HPS.out.m, HGO.out⟩ (fun hS1 => ?_)
                      clear hK K
                      refine wpAnyH_ready (rs := [32]) (by kernel_rfl) (by simp) ?_
                      refine all_readyH_yes (by rfl) (by kernel_rfl) ?_ AllReadyH.nil
                      intro K hK
                      with_reducible refine wp_store_blk 23 (.tmp 18) (.tmp 132) ?_ gq 23 _ (mix q x1 x2).cells ?_ ?_ HGQ.out ?_ (Quad.info _) (Quad.one _) ?_
                      · kernel_rfl
                      · kernel_rfl
                      · kernel_rfl
                      · rfl
                      intro w6 hB6 hO6 hz6
                      try simp only [Act.put, List.getElem_toArray, List.getElem_cons_succ, List.getElem_cons_zero, List.setIfInBounds_toArray, List.set_cons_zero, List.set_cons_succ]
                      have HPS := Lib.hid (HPS.out.newer hO6 hgq1)
                      have HGO := Lib.hid (hO6.blk HGO.out hgq2)
                      have HGP := Lib.hid (hO6.blk HGP.out hgq3)
                      have HGQ := Lib.hid hB6
                      refine hK.out _ _ ⟨HGP.out, HPS.out.v, HPS.out.m, HGO.out⟩ (fun hS7 => ?_)
                      clear hK K
                      refine wpAnyH_done (by kernel_rfl) ?_ _
                      go_wp2_with fail
                      go_meet
                      exact ⟨gq, rfl, HPS.out, HGO.out, HGP.out, HGQ.out, hgq1, hgq2, hgq3⟩
                    case rest =>
                      clear HPS HGO HGP
                      obtain ⟨gq, rfl, hp, hg, hgpp, hgq, hq1, hq2, hq3⟩ := hcut
                      have HPS := Lib.hid hp
                      have HGO := Lib.hid hg
                      have HGP := Lib.hid hgpp
                      obtain ⟨r, hr⟩ : ∃ r, r = mix q x1 x2 := ⟨_, rfl⟩
                      rw [← hr] at hgq
                      have HRR := Lib.hid hr
                      have HGQ := Lib.hid hgq
                      clear hp hg hgpp hgq hr
                      go_wp2_with fail
                      have HPS := Lib.hid HPS.out.drew
                      have HGO := Lib.hid HGO.out.drew
                      have HGP := Lib.hid HGP.out.drew
                      have HGQ := Lib.hid HGQ.out.drew
                      have hS0 : Blk wc.drew gp 72 (ints [p0, p1, p2, p3]) ∧ Blk wc.drew gq 23 r.cells := ⟨HGP.out, HGQ.out⟩
                      refine wp_region_held_drew (S := (fun W => Blk W gp 72 (ints [p0, p1, p2, p3]) ∧ Blk W gq 23 r.cells)) (by kernel_rfl) hS0 ?_
                      intro hS0'
                      generalize wc.drew = wA at hS0' HPS HGO HGP HGQ ⊢
                      refine wpAnyH_take (i := 0) (v := .pointer (some ⟨gp, 0, none⟩)) rfl (by kernel_rfl) (by kernel_rfl) (by kernel_rfl) (fun _ _ _ h => h) (Or.inl ⟨by kernel_rfl, fun w hSw => ?_⟩) hS0' ?_
                      · go_simp
                      try simp only [Act.put, List.getElem_toArray, List.getElem_cons_succ, List.getElem_cons_zero, List.setIfInBounds_toArray, List.set_cons_zero, List.set_cons_succ]
                      refine wpAnyH_take (i := 1) (v := .int .i64 (p0 : Int)) rfl (by kernel_rfl) (by kernel_rfl) (by kernel_rfl) (fun _ _ _ h => h) (Or.inl ⟨by kernel_rfl, fun w hSw => ?_⟩) hS0' ?_
                      · have hc : w.cell? ⟨gp, 0, none⟩ = some (.int .i64 (p0 : Int)) := hSw.1.cell rfl
                        clear hSw
                        go_simp
                      try simp only [Act.put, List.getElem_toArray, List.getElem_cons_succ, List.getElem_cons_zero, List.setIfInBounds_toArray, List.set_cons_zero, List.set_cons_succ]
                      refine wpAnyH_take (i := 2) (v := .pointer (some ⟨gp, 1, none⟩)) rfl (by kernel_rfl) (by kernel_rfl) (by kernel_rfl) (fun _ _ _ h => h) (Or.inl ⟨by kernel_rfl, fun w hSw => ?_⟩) hS0' ?_
                      · go_simp
                      try simp only [Act.put, List.getElem_toArray, List.getElem_cons_succ, List.getElem_cons_zero, List.setIfInBounds_toArray, List.set_cons_zero, List.set_cons_succ]
                      refine wpAnyH_take (i := 3) (v := .int .i64 (p1 : Int)) rfl (by kernel_rfl) (by kernel_rfl) (by kernel_rfl) (fun _ _ _ h => h) (Or.inl ⟨by kernel_rfl, fun w hSw => ?_⟩) hS0' ?_
                      · have hc : w.cell? ⟨gp, 1, none⟩ = some (.int .i64 (p1 : Int)) := hSw.1.cell rfl
                        clear hSw
                        go_simp
                      try simp only [Act.put, List.getElem_toArray, List.getElem_cons_succ, List.getElem_cons_zero, List.setIfInBounds_toArray, List.set_cons_zero, List.set_cons_succ]
                      refine wpAnyH_take (i := 4) (v := .pointer (some ⟨gp, 2, none⟩)) rfl (by kernel_rfl) (by kernel_rfl) (by kernel_rfl) (fun _ _ _ h => h) (Or.inl ⟨by kernel_rfl, fun w hSw => ?_⟩) hS0' ?_
                      · go_simp
                      try simp only [Act.put, List.getElem_toArray, List.getElem_cons_succ, List.getElem_cons_zero, List.setIfInBounds_toArray, List.set_cons_zero, List.set_cons_succ]
                      refine wpAnyH_take (i := 5) (v := .int .i64 (p2 : Int)) rfl (by kernel_rfl) (by kernel_rfl) (by kernel_rfl) (fun _ _ _ h => h) (Or.inl ⟨by kernel_rfl, fun w hSw => ?_⟩) hS0' ?_
                      · have hc : w.cell? ⟨gp, 2, none⟩ = some (.int .i64 (p2 : Int)) := hSw.1.cell rfl
                        clear hSw
                        go_simp
                      try simp only [Act.put, List.getElem_toArray, List.getElem_cons_succ, List.getElem_cons_zero, List.setIfInBounds_toArray, List.set_cons_zero, List.set_cons_succ]
                      refine wpAnyH_take (i := 6) (v := .pointer (some ⟨gp, 3, none⟩)) rfl (by kernel_rfl) (by kernel_rfl) (by kernel_rfl) (fun _ _ _ h => h) (Or.inl ⟨by kernel_rfl, fun w hSw => ?_⟩) hS0' ?_
                      · go_simp
                      try simp only [Act.put, List.getElem_toArray, List.getElem_cons_succ, List.getElem_cons_zero, List.setIfInBounds_toArray, List.set_cons_zero, List.set_cons_succ]
                      refine wpAnyH_take (i := 7) (v := .int .i64 (p3 : Int)) rfl (by kernel_rfl) (by kernel_rfl) (by kernel_rfl) (fun _ _ _ h => h) (Or.inl ⟨by kernel_rfl, fun w hSw => ?_⟩) hS0' ?_
                      · have hc : w.cell? ⟨gp, 3, none⟩ = some (.int .i64 (p3 : Int)) := hSw.1.cell rfl
                        clear hSw
                        go_simp
                      try simp only [Act.put, List.getElem_toArray, List.getElem_cons_succ, List.getElem_cons_zero, List.setIfInBounds_toArray, List.set_cons_zero, List.set_cons_succ]
                      refine wpAnyH_take (i := 8) (v := .pointer (some ⟨gq, 0, none⟩)) rfl (by kernel_rfl) (by kernel_rfl) (by kernel_rfl) (fun _ _ _ h => h) (Or.inl ⟨by kernel_rfl, fun w hSw => ?_⟩) hS0' ?_
                      · go_simp
                      try simp only [Act.put, List.getElem_toArray, List.getElem_cons_succ, List.getElem_cons_zero, List.setIfInBounds_toArray, List.set_cons_zero, List.set_cons_succ]
                      refine wpAnyH_take (i := 9) (v := .int .u32 (r.a.toNat : Int)) rfl (by kernel_rfl) (by kernel_rfl) (by kernel_rfl) (fun _ _ _ h => h) (Or.inl ⟨by kernel_rfl, fun w hSw => ?_⟩) hS0' ?_
                      · have hc : w.cell? ⟨gq, 0, none⟩ = some (.int .u32 (r.a.toNat : Int)) := hSw.2.cell rfl
                        clear hSw
                        go_simp
                      try simp only [Act.put, List.getElem_toArray, List.getElem_cons_succ, List.getElem_cons_zero, List.setIfInBounds_toArray, List.set_cons_zero, List.set_cons_succ]
                      refine wpAnyH_take (i := 10) (v := .pointer (some ⟨gq, 1, none⟩)) rfl (by kernel_rfl) (by kernel_rfl) (by kernel_rfl) (fun _ _ _ h => h) (Or.inl ⟨by kernel_rfl, fun w hSw => ?_⟩) hS0' ?_
                      · go_simp
                      try simp only [Act.put, List.getElem_toArray, List.getElem_cons_succ, List.getElem_cons_zero, List.setIfInBounds_toArray, List.set_cons_zero, List.set_cons_succ]
                      refine wpAnyH_take (i := 11) (v := .int .u32 (r.b.toNat : Int)) rfl (by kernel_rfl) (by kernel_rfl) (by kernel_rfl) (fun _ _ _ h => h) (Or.inl ⟨by kernel_rfl, fun w hSw => ?_⟩) hS0' ?_
                      · have hc : w.cell? ⟨gq, 1, none⟩ = some (.int .u32 (r.b.toNat : Int)) := hSw.2.cell rfl
                        clear hSw
                        go_simp
                      try simp only [Act.put, List.getElem_toArray, List.getElem_cons_succ, List.getElem_cons_zero, List.setIfInBounds_toArray, List.set_cons_zero, List.set_cons_succ]
                      refine wpAnyH_take (i := 12) (v := .pointer (some ⟨gq, 2, none⟩)) rfl (by kernel_rfl) (by kernel_rfl) (by kernel_rfl) (fun _ _ _ h => h) (Or.inl ⟨by kernel_rfl, fun w hSw => ?_⟩) hS0' ?_
                      · go_simp
                      try simp only [Act.put, List.getElem_toArray, List.getElem_cons_succ, List.getElem_cons_zero, List.setIfInBounds_toArray, List.set_cons_zero, List.set_cons_succ]
                      refine wpAnyH_take (i := 13) (v := .int .u32 (r.c.toNat : Int)) rfl (by kernel_rfl) (by kernel_rfl) (by kernel_rfl) (fun _ _ _ h => h) (Or.inl ⟨by kernel_rfl, fun w hSw => ?_⟩) hS0' ?_
                      · have hc : w.cell? ⟨gq, 2, none⟩ = some (.int .u32 (r.c.toNat : Int)) := hSw.2.cell rfl
                        clear hSw
                        go_simp
                      try simp only [Act.put, List.getElem_toArray, List.getElem_cons_succ, List.getElem_cons_zero, List.setIfInBounds_toArray, List.set_cons_zero, List.set_cons_succ]
                      refine wpAnyH_take (i := 14) (v := .pointer (some ⟨gq, 3, none⟩)) rfl (by kernel_rfl) (by kernel_rfl) (by kernel_rfl) (fun _ _ _ h => h) (Or.inl ⟨by kernel_rfl, fun w hSw => ?_⟩) hS0' ?_
                      · go_simp
                      try simp only [Act.put, List.getElem_toArray, List.getElem_cons_succ, List.getElem_cons_zero, List.setIfInBounds_toArray, List.set_cons_zero, List.set_cons_succ]
                      refine wpAnyH_take (i := 15) (v := .int .u32 (r.d.toNat : Int)) rfl (by kernel_rfl) (by kernel_rfl) (by kernel_rfl) (fun _ _ _ h => h) (Or.inl ⟨by kernel_rfl, fun w hSw => ?_⟩) hS0' ?_
                      · have hc : w.cell? ⟨gq, 3, none⟩ = some (.int .u32 (r.d.toNat : Int)) := hSw.2.cell rfl
                        clear hSw
                        go_simp
                      try simp only [Act.put, List.getElem_toArray, List.getElem_cons_succ, List.getElem_cons_zero, List.setIfInBounds_toArray, List.set_cons_zero, List.set_cons_succ]
                      refine wpAnyH_take (i := 16) (v := .pointer (some ⟨s + 1 + 1 + 1 + 1, p0, none⟩)) rfl (by kernel_rfl) (by kernel_rfl) (by kernel_rfl) (fun _ _ _ h => h) (Or.inl ⟨by kernel_rfl, fun w hSw => ?_⟩) hS0' ?_
                      · go_simp
                      try simp only [Act.put, List.getElem_toArray, List.getElem_cons_succ, List.getElem_cons_zero, List.setIfInBounds_toArray, List.set_cons_zero, List.set_cons_succ]
                      refine wpAnyH_ready (rs := [17]) (by kernel_rfl) (by simp) ?_
                      refine AllReadyH.cons (by rfl) ?_ AllReadyH.nil
                      intro K hK
                      have fv := HPS.out.v.frozen p0
                      have cv := blk_ws HPS.out.v (k := p0) (by have := HVL.out; simp; omega)
                      go_simp
                      have HPS := Lib.hid (HPS.out.set p0 r.a)
                      have HGP := Lib.hid (HGP.out.far (p := ⟨s + 1 + 1 + 1 + 1, p0, none⟩) (Nat.ne_of_gt hgp) (.int .u32 (r.a.toNat : Int)))
                      have HGQ := Lib.hid (HGQ.out.far (p := ⟨s + 1 + 1 + 1 + 1, p0, none⟩) (Nat.ne_of_gt hq1) (.int .u32 (r.a.toNat : Int)))
                      have HGO := Lib.hid (HGO.out.far (p := ⟨s + 1 + 1 + 1 + 1, p0, none⟩) (Nat.ne_of_gt hgo) (.int .u32 (r.a.toNat : Int)))
                      generalize (World.setCell _ _ _) = wS0 at HPS HGP HGQ HGO ⊢
                      refine hK.out _ _ ⟨HGP.out, HGQ.out⟩ (fun hS1 => ?_)
                      clear hK K
                      refine wpAnyH_take (i := 18) (v := .pointer (some ⟨s + 1 + 1 + 1 + 1, p1, none⟩)) rfl (by kernel_rfl) (by kernel_rfl) (by kernel_rfl) (fun _ _ _ h => h) (Or.inl ⟨by kernel_rfl, fun w hSw => ?_⟩) hS1 ?_
                      · go_simp
                      try simp only [Act.put, List.getElem_toArray, List.getElem_cons_succ, List.getElem_cons_zero, List.setIfInBounds_toArray, List.set_cons_zero, List.set_cons_succ]
                      refine wpAnyH_ready (rs := [19]) (by kernel_rfl) (by simp) ?_
                      refine AllReadyH.cons (by rfl) ?_ AllReadyH.nil
                      intro K hK
                      have fv := HPS.out.v.frozen p1
                      have cv := blk_ws HPS.out.v (k := p1) (by have := HVL.out; simp; omega)
                      go_simp
                      have HPS := Lib.hid (HPS.out.set p1 r.b)
                      have HGP := Lib.hid (HGP.out.far (p := ⟨s + 1 + 1 + 1 + 1, p1, none⟩) (Nat.ne_of_gt hgp) (.int .u32 (r.b.toNat : Int)))
                      have HGQ := Lib.hid (HGQ.out.far (p := ⟨s + 1 + 1 + 1 + 1, p1, none⟩) (Nat.ne_of_gt hq1) (.int .u32 (r.b.toNat : Int)))
                      have HGO := Lib.hid (HGO.out.far (p := ⟨s + 1 + 1 + 1 + 1, p1, none⟩) (Nat.ne_of_gt hgo) (.int .u32 (r.b.toNat : Int)))
                      generalize (World.setCell _ _ _) = wS1 at HPS HGP HGQ HGO ⊢
                      refine hK.out _ _ ⟨HGP.out, HGQ.out⟩ (fun hS2 => ?_)
                      clear hK K
                      refine wpAnyH_take (i := 20) (v := .pointer (some ⟨s + 1 + 1 + 1 + 1, p2, none⟩)) rfl (by kernel_rfl) (by kernel_rfl) (by kernel_rfl) (fun _ _ _ h => h) (Or.inl ⟨by kernel_rfl, fun w hSw => ?_⟩) hS2 ?_
                      · go_simp
                      try simp only [Act.put, List.getElem_toArray, List.getElem_cons_succ, List.getElem_cons_zero, List.setIfInBounds_toArray, List.set_cons_zero, List.set_cons_succ]
                      refine wpAnyH_ready (rs := [21]) (by kernel_rfl) (by simp) ?_
                      refine AllReadyH.cons (by rfl) ?_ AllReadyH.nil
                      intro K hK
                      have fv := HPS.out.v.frozen p2
                      have cv := blk_ws HPS.out.v (k := p2) (by have := HVL.out; simp; omega)
                      go_simp
                      have HPS := Lib.hid (HPS.out.set p2 r.c)
                      have HGP := Lib.hid (HGP.out.far (p := ⟨s + 1 + 1 + 1 + 1, p2, none⟩) (Nat.ne_of_gt hgp) (.int .u32 (r.c.toNat : Int)))
                      have HGQ := Lib.hid (HGQ.out.far (p := ⟨s + 1 + 1 + 1 + 1, p2, none⟩) (Nat.ne_of_gt hq1) (.int .u32 (r.c.toNat : Int)))
                      have HGO := Lib.hid (HGO.out.far (p := ⟨s + 1 + 1 + 1 + 1, p2, none⟩) (Nat.ne_of_gt hgo) (.int .u32 (r.c.toNat : Int)))
                      generalize (World.setCell _ _ _) = wS2 at HPS HGP HGQ HGO ⊢
                      refine hK.out _ _ ⟨HGP.out, HGQ.out⟩ (fun hS3 => ?_)
                      clear hK K
                      refine wpAnyH_take (i := 22) (v := .pointer (some ⟨s + 1 + 1 + 1 + 1, p3, none⟩)) rfl (by kernel_rfl) (by kernel_rfl) (by kernel_rfl) (fun _ _ _ h => h) (Or.inl ⟨by kernel_rfl, fun w hSw => ?_⟩) hS3 ?_
                      · go_simp
                      try simp only [Act.put, List.getElem_toArray, List.getElem_cons_succ, List.getElem_cons_zero, List.setIfInBounds_toArray, List.set_cons_zero, List.set_cons_succ]
                      refine wpAnyH_ready (rs := [23]) (by kernel_rfl) (by simp) ?_
                      refine AllReadyH.cons (by rfl) ?_ AllReadyH.nil
                      intro K hK
                      have fv := HPS.out.v.frozen p3
                      have cv := blk_ws HPS.out.v (k := p3) (by have := HVL.out; simp; omega)
                      go_simp
                      have HPS := Lib.hid (HPS.out.set p3 r.d)
                      have HGP := Lib.hid (HGP.out.far (p := ⟨s + 1 + 1 + 1 + 1, p3, none⟩) (Nat.ne_of_gt hgp) (.int .u32 (r.d.toNat : Int)))
                      have HGQ := Lib.hid (HGQ.out.far (p := ⟨s + 1 + 1 + 1 + 1, p3, none⟩) (Nat.ne_of_gt hq1) (.int .u32 (r.d.toNat : Int)))
                      have HGO := Lib.hid (HGO.out.far (p := ⟨s + 1 + 1 + 1 + 1, p3, none⟩) (Nat.ne_of_gt hgo) (.int .u32 (r.d.toNat : Int)))
                      generalize (World.setCell _ _ _) = wS3 at HPS HGP HGQ HGO ⊢
                      refine hK.out _ _ ⟨HGP.out, HGQ.out⟩ (fun hS4 => ?_)
                      clear hK K
                      refine wpAnyH_done (by kernel_rfl) ?_ _
                      go_wp2_with fail
                      go_roundw
                      case rel =>
                        refine ⟨k + 1, by omega, by go_num, ?_, HGO.out⟩
                        rw [turnK, ← HVV.out, roundAt, ← HI1.out, ← HI2.out, ← HX1.out, ← HX2.out, ← HP1.out, ← HP2.out, ← HP3.out, ← HP0.out, mixAt, ← HQQ.out, ← HRR.out]
                        exact HPS.out
                      case measure => simp [intOf]; omega
                  · obtain rfl : k = 8 := by omega
                    go_wp2_with fail
                    go_roundw
                    case rel =>
                      refine ⟨m + 1, by omega, by go_num, ?_⟩
                      have := HPS.out
                      rw [turns, HVT.out, ← HO.out]
                      exact this
                    case measure => simp [intOf]; omega
              · obtain rfl : m = 10 := by omega
                go_wp2_with fail
                rw [show ((10 : Nat) : Int) = 10 from rfl]
                generalize hVE : turns M0 V0 10 = VE at HPS
                have HVE := Lib.hid hVE
                have HVEL : Hid (VE.length = 16) := Lib.hid (by rw [← hVE, turns_len]; exact HVL0.out)
                clear hVE
                have HFL : Hid (∀ k, (fin h VE k).length = 8) := Lib.hid (fun k => by rw [fin_len]; exact HL8.out)
                go_loopw [19] (fun i wr => ∃ k : Nat, k ≤ 8 ∧ i = .int .i64 k ∧ PS w s (ws (fin h VE k)) (ws M0) (ws VE) Z8 wr) (fun i _ => 8 - (intOf i).toNat)
                case atStart => exact ⟨0, Nat.zero_le _, rfl, by rw [fin, ← HHc.out]; exact HPS.out⟩
                case round =>
                  clear HPS
                  obtain ⟨k, hk, rfl, hp⟩ := hrel
                  have HPS := Lib.hid hp
                  clear hp
                  by_cases hlt : k < 8
                  · have hlt' : (k : Int) < 8 := by omega
                    have hk0 : (0 : Int) ≤ (k : Int) := by omega
                    have hk8 : (k : Int) + 8 < 16 := by omega
                    have hk16 : (k : Int) < 16 := by omega
                    go_wp2_with fail
                    have ch := blk_ws HPS.out.h (k := k) (by have := HFL.out k; omega)
                    have c1 := blk_ws HPS.out.v (k := k) (by have := HVEL.out; omega)
                    have c2 := blk_ws HPS.out.v (k := k + 8) (by have := HVEL.out; omega)
                    have fh := HPS.out.h.frozen k
                    obtain ⟨x, hx⟩ : ∃ x, x = (fin h VE k).getD k 0#32 := ⟨_, rfl⟩
                    obtain ⟨y, hy⟩ : ∃ y, y = VE.getD k 0#32 := ⟨_, rfl⟩
                    obtain ⟨z, hz⟩ : ∃ z, z = VE.getD (k + 8) 0#32 := ⟨_, rfl⟩
                    rw [← hx] at ch
                    rw [← hy] at c1
                    rw [← hz] at c2
                    have HX := Lib.hid hx; have HY := Lib.hid hy; have HZZ := Lib.hid hz
                    have x1 := bx x y
                    have x2 := bx (x ^^^ y) z
                    obtain ⟨a, ha⟩ : ∃ a, a = x ^^^ y := ⟨_, rfl⟩
                    rw [← ha] at x1 x2
                    obtain ⟨r, hr⟩ : ∃ r, r = a ^^^ z := ⟨_, rfl⟩
                    rw [← hr] at x2
                    have HA := Lib.hid ha; have HR := Lib.hid hr
                    clear hx hy hz ha hr
                    have v1 : IntKind.i64.wrap ((k : Int) + 8) = (k : Int) + 8 := IntWalk.i64_in _ (by omega)
                    have v2 : ((k : Int) + 8).toNat = k + 8 := by omega
                    have v3 : (0 : Int) ≤ (k : Int) + 8 := by omega
                    go_still_tail 13, (by kernel_rfl)
                    change wpList _ _ _ _ _ wr.drew
                    have HPS := Lib.hid HPS.out.drew
                    clear ch c1 c2 fh
                    have fh := HPS.out.h.frozen k
                    have ch := blk_ws HPS.out.h (k := k) (by have := HFL.out k; omega)
                    rw [← HX.out] at ch
                    have HPS2 := Lib.hid (HPS.out.end_ ((Only.refl s wr.drew).setCell (p := ⟨s, k, none⟩) (.inl rfl) (.int .u32 (r.toNat : Int))) (blk_ws_set HPS.out.h k r))
                    generalize wr.drew = wd at HPS HPS2 ch fh ⊢
                    go_wp2_with fail
                    clear v1 v2
                    go_roundw
                    case rel =>
                      refine ⟨k + 1, by omega, by go_num, ?_⟩
                      have := HPS2.out
                      rw [fin, ← HX.out, ← HY.out, ← HZZ.out, ← BitVec.xor_assoc, ← HA.out, ← HR.out]
                      exact this
                    case measure => simp [intOf]; omega
                  · obtain rfl : k = 8 := by omega
                    have hfin : fin h VE 8 = press h b n last := by
                      unfold press
                      rw [← HVE.out, ← HMM.out, ← HV0.out]
                    rw [hfin] at HPS
                    clear hfin
                    go_wp2_with (first | (refine wpl_load_blk rfl 27 _ rfl s rfl 27 _ _ HPS.out.h Try.underlying27 rfl (by rw [ws_size, press_len, HL8.out]; kernel_rfl) ?_) | (refine wpl_store_blk rfl 27 _ _ rfl (s + 1 + 1) 27 Z8 _ rfl rfl HPS.out.r (by rw [HZ8.out, ws_size, press_len, HL8.out]; rfl) (by rw [ws_size, press_len, HL8.out]; kernel_rfl) (ws_one _) ?_; intro w6 hB6 hO6 hz6))
                    exact bodyPost_ret (results_cell_row rfl _ _ (s + 1 + 1) 27 _ (0, 0) _ rfl hB6 Try.underlying27 rfl (by rw [ws_size, press_len, HL8.out]; kernel_rfl)) rfl ⟨rfl, by rw [← Hs.out]; exact HPS.out.b.trans (hO6.below (Nat.le_of_lt HPS.out.h.lt) (by omega))⟩
end Go.Proofs.Yticgknjjhkgggaa
