/- Contracts: Press. Contracts: the reference's Press. Contracts: a state is pressed in memory. -/
import Derived.Test.YtomnjhhpeglcnaaGreatZn
import Derived.Deep.DeepCutAuto
import Derived.IntWalk
import Derived.Test.YtomnjhhpeglcnaaGreatZc
namespace Go.Proofs.YtomnjhhpeglcnaaGreat
open Go.RowKit
set_option linter.unusedSimpArgs false
set_option linter.unusedVariables false

theorem news4 (w : World) (t1 t2 t3 t4 : TypeId) (c1 c2 c3 c4 : Array Value) :
    ∃ W, W = (((w.alloc (.cells c1 t1)).alloc (.cells c2 t2)).alloc (.cells c3 t3)).alloc (.cells c4 t4) ∧ Blk W w.heap.size t1 c1 ∧ Blk W (w.heap.size + 1) t2 c2 ∧ Blk W (w.heap.size + 1 + 1) t3 c3 ∧ Blk W (w.heap.size + 1 + 1 + 1) t4 c4 ∧ Below w.heap.size w W ∧ W.heap.size = w.heap.size + 1 + 1 + 1 + 1 := by
  refine ⟨_, rfl, (((Blk.new w _ _).alloc _).alloc _).alloc _, ((Blk.new2 w _ _ _).alloc _).alloc _, ?_, ?_, (((((Below.refl _ _).alloc (Nat.le_refl _) _).alloc (by simp) _).alloc (by simp; omega) _).alloc (by simp; omega) _), by simp⟩
  · have := (Blk.new ((w.alloc (.cells c1 t1)).alloc (.cells c2 t2)) t3 c3).alloc (.cells c4 t4)
    simpa using this
  · have := Blk.new (((w.alloc (.cells c1 t1)).alloc (.cells c2 t2)).alloc (.cells c3 t3)) t4 c4
    simpa using this
theorem zero27 (w : World) : (zeroValue 161).run Tryz.prog w = .ok (.agg (ws (List.replicate 8 0#32))) w := by kernel_rfl
theorem zero61 (w : World) : (zeroValue 177).run Tryz.prog w = .ok (.agg (ws (List.replicate 16 0#32))) w := by kernel_rfl
/-- What Press holds. -/
structure PS (w : World) (s : Nat) (H M V Z : Array Value) (wr : World) : Prop where
  h : Blk wr s 161 H
  r : Blk wr (s + 1 + 1) 161 Z
  m : Blk wr (s + 1 + 1 + 1) 177 M
  v : Blk wr (s + 1 + 1 + 1 + 1) 177 V
  b : Below s w wr
section
variable {w : World} {s : Nat} {H M V Z : Array Value} {W W' : World}
theorem PS.below (p : PS w s H M V Z W) (hb : Below W.heap.size W W') : PS w s H M V Z W' :=
  ⟨p.h.below hb p.h.lt, p.r.below hb p.r.lt, p.m.below hb p.m.lt, p.v.below hb p.v.lt, p.b.trans (hb.mono (Nat.le_of_lt p.h.lt))⟩
theorem PS.alloc (p : PS w s H M V Z W) (o : Obj) : PS w s H M V Z (W.alloc o) :=
  ⟨p.h.alloc _, p.r.alloc _, p.m.alloc _, p.v.alloc _, p.b.alloc (Nat.le_of_lt p.h.lt) _⟩
theorem PS.drew (p : PS w s H M V Z W) : PS w s H M V Z W.drew := ⟨p.h, p.r, p.m, p.v, p.b.drew⟩
theorem PS.newer {g : Nat} (p : PS w s H M V Z W) (hO : Only g W W') (hg : s + 1 + 1 + 1 + 1 < g) : PS w s H M V Z W' :=
  ⟨hO.blk p.h (by omega), hO.blk p.r (by omega), hO.blk p.m (by omega), hO.blk p.v (by omega), p.b.trans (hO.below (Nat.le_of_lt p.h.lt) (by omega))⟩
theorem PS.put {V' : Array Value} (p : PS w s H M V Z W) (hO : Only (s + 1 + 1 + 1 + 1) W W') (hv : Blk W' (s + 1 + 1 + 1 + 1) 177 V') : PS w s H M V' Z W' :=
  ⟨hO.blk p.h (by omega), hO.blk p.r (by omega), hO.blk p.m (by omega), hv, p.b.trans (hO.below (Nat.le_of_lt p.h.lt) (by omega))⟩
theorem PS.end_ {H' : Array Value} (p : PS w s H M V Z W) (hO : Only s W W') (hv : Blk W' s 161 H') : PS w s H' M V Z W' :=
  ⟨hv, hO.blk p.r (by omega), hO.blk p.m (by omega), hO.blk p.v (by omega), p.b.trans (hO.below (Nat.le_of_lt p.h.lt) (by omega))⟩
theorem PS.set {l : List Wo} (p : PS w s H M (ws l) Z W) (k : Nat) (x : Wo) : PS w s H M (ws (l.set k x)) Z (W.setCell ⟨s + 1 + 1 + 1 + 1, k, none⟩ (.int .u32 (x.toNat : Int))) :=
  p.put ((Only.refl _ _).setCell (.inl rfl) _) (blk_ws_set p.v k x)
end
theorem splice_ws (l h : List Wo) (o : Nat) : ((l.map fun x => Value.int .u32 (x.toNat : Int)).take o ++ ((h.map fun x => Value.int .u32 (x.toNat : Int)) ++ (l.map fun x => Value.int .u32 (x.toNat : Int)).drop (o + (h.map fun x => Value.int .u32 (x.toNat : Int)).length))).toArray = ws (l.take o ++ (h ++ l.drop (o + h.length))) := by
  simp [ws, List.map_take, List.map_drop]
theorem wpl_copy_ws {P : Program} {w : World} {ops : Array Oper} {rest : List Oper} {o : Oper} {a : Act} {Q : Exit → Act → World → Prop} (hgd : o.guard = none) (d s : Operand) (dT sT : TypeId)
    (ho : o.op = .call { callee := .builtin .copy, args := #[d, s], argTypes := #[dT, sT] }) (elem : TypeId) (hu : P.underlying dT = some (.slice elem)) (hsz : (P.info? elem).map (·.size) = some 1)
    (g off dLen dCap g2 m c2 : Nat) (hd : a.eval d = .slice (some ⟨g, off, none⟩) dLen dCap) (hs : a.eval s = .slice (some ⟨g2, 0, none⟩) m c2)
    (l h l' : List Wo) (t t2 : TypeId) (hg : Blk w g t (ws l)) (hg2 : Blk w g2 t2 (ws h)) (hm : h.length = m) (hmd : m ≤ dLen) (hfit : off + m ≤ l.length) (hl' : l.take off ++ (h ++ l.drop (off + h.length)) = l')
    (hh : ∀ w', Blk w' g t (ws l') → Only g w w' → w'.heap.size = w.heap.size → wpList P ops Q rest (a.put o.dst (goInt m)) w') : wpList P ops Q (o :: rest) a w := by
  subst hm
  refine wpl_copy_blk hgd d s dT sT ho elem hu hsz g off dLen dCap ⟨g2, 0, none⟩ h.length c2 hd hs (l.map fun x : Wo => Value.int .u32 (x.toNat : Int)) t hg (h.map fun x : Wo => Value.int .u32 (x.toNat : Int)) ?_ ?_ ?_ ?_ ?_
  · rw [List.length_map]; exact (Nat.min_eq_left hmd).symm
  · intro j v hv
    have hj : j < h.length := by
      rcases Nat.lt_or_ge j h.length with h | h
      · exact h
      · rw [List.getElem?_eq_none (by simpa using h)] at hv; cases hv
    have e : (Addr.add ⟨g2, 0, none⟩ j) = ⟨g2, j, none⟩ := by
      unfold Addr.add
      simp
      intro h; exact h.symm
    rw [e, blk_ws hg2 hj]
    rw [List.getElem?_map, List.getElem?_eq_getElem hj] at hv
    rw [← hv, List.getD_eq_getElem?_getD, List.getElem?_eq_getElem hj]
    rfl
  · simpa using hfit
  · simp [Value.oneCell']
  · intro w' h1 h2 h3
    rw [splice_ws, hl'] at h1
    have := hh w' h1 h2 h3
    rwa [← List.length_map (f := fun x : Wo => Value.int .u32 (x.toNat : Int))] at this
set_option maxRecDepth 100000 in
set_option maxHeartbeats 4000000 in
theorem press_c (h : List Wo) (b : List By) (n : Nat) (last : Bool) (w : World) (hh : h.length = 8) (hb : b.length = 64) :
    Calls Tryz.prog 109 #[.agg (ws h), .agg (bya b), .int .u64 (n : Int), .bool last] w fun e w' => e = .returned (.agg (ws (press h b n last))) ∧ Below w.heap.size w w' := by
  have z27 := zero27
  have z61 := zero61
  obtain ⟨Z8, hZ8⟩ : ∃ Z, Z = ws (List.replicate 8 0#32) := ⟨_, rfl⟩
  obtain ⟨Z16, hZ16⟩ : ∃ Z, Z = ws (List.replicate 16 0#32) := ⟨_, rfl⟩
  obtain ⟨Hc, hHc⟩ : ∃ Z, Z = ws h := ⟨_, rfl⟩
  obtain ⟨Bc, hBc⟩ : ∃ Z, Z = bya b := ⟨_, rfl⟩
  rw [← hHc, ← hBc]
  rw [← hZ8] at z27
  rw [← hZ16] at z61
  have HZ8 := Lib.hid hZ8; have HZ16 := Lib.hid hZ16; have HHc := Lib.hid hHc; have HBc := Lib.hid hBc
  have HL8 := Lib.hid hh; have HL64 := Lib.hid hb
  clear hZ8 hZ16 hHc hBc hh hb
  obtain ⟨s, hs⟩ : ∃ s, s = w.heap.size := ⟨_, rfl⟩
  obtain ⟨W1, hW1, p1, p2, p3, p4, hB1, hz1⟩ := news4 w 161 151 161 177 Hc Bc Z8 Z16
  rw [← hs] at p1 p2 p3 p4 hB1 hz1
  have Hs := Lib.hid hs
  have HW := Lib.hid hW1
  have P1 := Lib.hid p1; have P2 := Lib.hid p2; have P3 := Lib.hid p3; have P4 := Lib.hid p4; have HB1 := Lib.hid hB1; have Hz1 := Lib.hid hz1
  clear hs hW1 p1 p2 p3 p4 hB1 hz1
  go_enter Tryz.func109, Tryz.ntmps109
  go_wp2_with fail
  rw [← HW.out, ← Hs.out]
  go_loopw [20] (fun i wr => ∃ k : Nat, k ≤ 16 ∧ i = .int .i64 k ∧ Blk wr (s + 1 + 1 + 1) 177 (ws (mfill b k)) ∧ Only (s + 1 + 1 + 1) W1 wr ∧ wr.heap.size = s + 1 + 1 + 1 + 1) (fun i _ => 16 - (intOf i).toNat)
  case atStart => exact ⟨0, Nat.zero_le _, rfl, by rw [mfill, ← HZ16.out]; exact P4.out, Only.refl _ _, Hz1.out⟩
  case round =>
    obtain ⟨k, hk, rfl, hM, hO, hz⟩ := hrel
    have HM := Lib.hid hM; have HO := Lib.hid hO; have HZ := Lib.hid hz
    clear hM hO hz
    have PB := Lib.hid (HO.out.blk P2.out (by omega))
    by_cases hlt : k < 16
    · have hlt' : (k : Int) < 16 := by omega
      have hf := HM.out.frozen k
      have hc := blk_ws HM.out (k := k) (by rw [mfill_len]; exact hlt)
      have k4 : ¬ (64 : Int) < 4 * (k : Int) := by omega
      have k5 : (0 : Int) ≤ 4 * (k : Int) := by omega
      have k6 : 4 * (k : Int) ≤ 64 := by omega
      go_wp2_with fail
      have q0 := blk_bya (t := 151) (k := 4 * k) (by rw [← HBc.out]; exact PB.out) (by have := HL64.out; omega)
      have q1 := blk_bya (t := 151) (k := 4 * k + 1) (by rw [← HBc.out]; exact PB.out) (by have := HL64.out; omega)
      have q2 := blk_bya (t := 151) (k := 4 * k + 2) (by rw [← HBc.out]; exact PB.out) (by have := HL64.out; omega)
      have q3 := blk_bya (t := 151) (k := 4 * k + 3) (by rw [← HBc.out]; exact PB.out) (by have := HL64.out; omega)
      refine (word_c (s + 1) (4 * k) (64 - 4 * k) (64 - 4 * k) (b.getD (4 * k) 0#8) (b.getD (4 * k + 1) 0#8) (b.getD (4 * k + 2) 0#8) (b.getD (4 * k + 3) 0#8) _ (by omega) (by omega) (by omega) q0 q1 q2 q3).mono ?_
      clear q0 q1 q2 q3
      rintro e w' ⟨rfl, rfl⟩
      rw [← msgW_toNat]
      have HM2 := Lib.hid (blk_ws_set HM.out k (msgW b k))
      have HO2 := Lib.hid (HO.out.setCell (p := ⟨s + 1 + 1 + 1, k, none⟩) (.inl rfl) (.int .u32 ((msgW b k).toNat : Int)))
      go_wp2_with fail
      go_roundw
      case rel => exact ⟨k + 1, by omega, by go_num, HM2.out, HO2.out, by have := HZ.out; simpa using this⟩
      case measure => simp [intOf]; omega
    · obtain rfl : k = 16 := by omega
      have PH := Lib.hid (HO.out.blk P1.out (by omega))
      have PR := Lib.hid (HO.out.blk P3.out (by omega))
      have PW := Lib.hid (HB1.out.trans (HO.out.below (B := s) (by have := Hz1.out; omega) (by omega)))
      have hps : PS w s Hc (ws (mfill b 16)) Z16 Z8 (wr.alloc (.cells Z16 177)) := ⟨PH.out.alloc _, PR.out.alloc _, HM.out.alloc _, by have := Blk.new wr 177 Z16; rwa [HZ.out] at this, PW.out.alloc (by have := HZ.out; omega) _⟩
      have HPS := Lib.hid hps
      clear hps PB P1 P2 P3 P4 PH PR PW HB1 HO
      go_wp2_with fail
      rw [HZ.out]
      generalize (World.alloc _ _) = w2 at HPS ⊢
      refine (first_c _).mono ?_
      rintro e w3 ⟨rfl, hb3⟩
      have HPS := Lib.hid (HPS.out.below hb3)
      clear hb3
      go_wp2_with (refine wpl_store_blk rfl 161 _ _ rfl w3.heap.size 161 Z8 _ rfl rfl (Blk.new w3 161 Z8) (by rw [HZ8.out]; rfl) (by kernel_rfl) (by kernel_rfl) ?_; intro w4 hB4 hO4 hz4)
      have hgf : s + 1 + 1 + 1 + 1 < w3.heap.size := HPS.out.v.lt
      generalize w3.heap.size = gf at hB4 hO4 hgf ⊢
      have HPS := Lib.hid ((HPS.out.alloc (.cells Z8 161)).newer hO4 hgf)
      have HF := Lib.hid hB4
      clear hB4 hO4 hz4
      go_still_tail 2, (by kernel_rfl)
      change wpList _ _ _ _ _ w4.drew
      have HPS := Lib.hid HPS.out.drew
      have HF := Lib.hid HF.out.drew
      generalize w4.drew = w5 at HPS HF ⊢
      go_wp2_with (refine wpl_copy_ws rfl _ _ _ _ rfl 160 Tryz.underlying185 (by kernel_rfl) (s + 1 + 1 + 1 + 1) 0 16 16 s 8 8 rfl rfl (List.replicate 16 0#32) h (h ++ List.replicate 8 0#32) 177 161 ?c1 ?c2 HL8.out (by decide) (by decide) ?c3 ?_)
      case c1 => rw [← HZ16.out]; exact HPS.out.v
      case c2 => rw [← HHc.out]; exact HPS.out.h
      case c3 => rw [HL8.out]; rfl
      intro w6 hB6 hO6 hz6
      have HPS := Lib.hid (HPS.out.put hO6 hB6)
      have HF := Lib.hid (hO6.blk HF.out (by omega))
      clear hB6 hO6 hz6
      go_wp2_with fail
      go_still_tail 2, (by kernel_rfl)
      change wpList _ _ _ _ _ w6.drew
      have HPS := Lib.hid HPS.out.drew
      have HF := Lib.hid HF.out.drew
      generalize w6.drew = w7 at HPS HF ⊢
      go_wp2_with (refine wpl_copy_ws rfl _ _ _ _ rfl 160 Tryz.underlying185 (by kernel_rfl) (s + 1 + 1 + 1 + 1) 8 8 8 gf 8 8 rfl rfl (h ++ List.replicate 8 0#32) iv (h ++ iv) 177 161 ?d1 ?d2 rfl (by decide) ?d4 ?d3 ?_)
      case d1 => exact HPS.out.v
      case d2 => exact HF.out
      case d3 => rw [List.take_left' HL8.out, List.drop_of_length_le (by simp [HL8.out, iv]), List.append_nil]
      case d4 => simp [HL8.out]
      intro w8 hB8 hO8 hz8
      have HPS := Lib.hid (HPS.out.put hO8 hB8)
      clear hB8 hO8 hz8 HF
      have hv := HPS.out.v
      obtain ⟨V, hV⟩ : ∃ V, V = h ++ iv := ⟨_, rfl⟩
      rw [← hV] at hv HPS
      have HV := Lib.hid hV
      have HVL : Hid (V.length = 16) := Lib.hid (by rw [hV, List.length_append, HL8.out]; rfl)
      clear hV
      have c12 := blk_ws hv (k := 12) (by rw [HVL.out]; decide)
      have c13 := blk_ws hv (k := 13) (by rw [HVL.out]; decide)
      rw [List.getD_eq_getElem?_getD] at c12 c13
      obtain ⟨x12, hx12⟩ : ∃ x, x = V[12]?.getD 0#32 := ⟨_, rfl⟩
      obtain ⟨x13, hx13⟩ : ∃ x, x = V[13]?.getD 0#32 := ⟨_, rfl⟩
      rw [← hx12] at c12
      rw [← hx13] at c13
      have HX12 := Lib.hid hx12; have HX13 := Lib.hid hx13
      have e12 : bits .xor .u32 (x12.toNat : Int) ((n : Int) % 4294967296) = ((x12 ^^^ BitVec.ofNat 32 n).toNat : Int) := by
        rw [← bxq, BitVec.toNat_ofNat]; congr 1
      have e13 : bits .xor .u32 (x13.toNat : Int) ((n : Int) / 4294967296 % 4294967296) = ((x13 ^^^ BitVec.ofNat 32 (n / 4294967296)).toNat : Int) := by
        rw [← bxq, BitVec.toNat_ofNat]; congr 1
      obtain ⟨y12, hy12⟩ : ∃ x, x = x12 ^^^ BitVec.ofNat 32 n := ⟨_, rfl⟩
      obtain ⟨y13, hy13⟩ : ∃ x, x = x13 ^^^ BitVec.ofNat 32 (n / 4294967296) := ⟨_, rfl⟩
      rw [← hy12] at e12
      rw [← hy13] at e13
      have HY12 := Lib.hid hy12; have HY13 := Lib.hid hy13
      have f12 := hv.frozen 12
      have f13 := hv.frozen 13
      clear hv hx12 hx13 hy12 hy13
      go_upto_if 50 with (fail)
      go_cut [] (fun wx => PS w s Hc (ws (mfill b 16)) (ws (v0 h n last)) Z8 wx)
      case first =>
        have HPS := Lib.hid ((HPS.out.set 12 y12).set 13 y13)
        generalize (World.setCell _ _ _) = wx at HPS ⊢
        obtain ⟨V2, hV2⟩ : ∃ V2, V2 = (V.set 12 y12).set 13 y13 := ⟨_, rfl⟩
        have hfin : vnot V2 last = v0 h n last := by
          unfold v0
          rw [hV2, HY12.out, HY13.out, HX12.out, HX13.out, HV.out]
          congr 1
          unfold vx
          simp only [List.getD_eq_getElem?_getD, List.getElem?_set_ne (by decide : (12 : Nat) ≠ 13)]
        rw [← hV2] at HPS
        have HFIN := Lib.hid hfin
        have HVL2 : Hid (V2.length = 16) := Lib.hid (by rw [hV2]; simp [HVL.out])
        clear hfin hV2 c12 c13 f12 f13 e12 e13
        cases last with
        | false =>
          go_wp2_with fail
          go_meet
          rw [← HFIN.out]
          exact HPS.out
        | true =>
          have hv := HPS.out.v
          have c14 := blk_ws hv (k := 14) (by rw [HVL2.out]; decide)
          rw [List.getD_eq_getElem?_getD] at c14
          have f14 := hv.frozen 14
          obtain ⟨x14, hx14⟩ : ∃ x, x = V2[14]?.getD 0#32 := ⟨_, rfl⟩
          rw [← hx14] at c14
          have HX14 := Lib.hid hx14
          clear hv hx14
          go_wp2_with fail
          go_meet
          have e14 : bits .xor .u32 IntKind.u32.max (x14.toNat : Int) = ((~~~x14).toNat : Int) := by
            have := bxq (BitVec.allOnes 32) x14
            rw [BitVec.allOnes_xor] at this
            exact this
          rw [e14, ← HFIN.out]
          have := HPS.out.set 14 (~~~x14)
          rw [HX14.out, ← List.getD_eq_getElem?_getD] at this ⊢
          exact this
      case rest =>
        have HPS := Lib.hid hcut
        clear hcut c12 c13 f12 f13 e12 e13 HX12 HX13 HY12 HY13 HV HVL
        generalize hV : v0 h n last = V0 at HPS
        have HV0 := Lib.hid hV
        have HVL0 : Hid (V0.length = 16) := Lib.hid (by rw [← hV]; exact v0_len _ _ _ HL8.out)
        clear hV
        have hmf : ∀ (fn : Fn) (first cap : Array Value) (w : World), (Instr.makeFunc fn first cap).run Tryz.prog w = .ok (.func fn first cap) w := fun _ _ _ _ => rfl
        go_wp2_with fail
        clear hmf
        refine (orders_c _).mono ?_
        rintro e w9 ⟨rfl, hb9⟩
        have HPS := Lib.hid (HPS.out.below hb9)
        clear hb9
        obtain ⟨OO, hOO⟩ : ∃ OO, OO = ints ordN.flatten := ⟨_, rfl⟩
        rw [← hOO]
        have HOO := Lib.hid hOO
        clear hOO
        go_wp2_with fail
        generalize hMM : mfill b 16 = M0 at HPS
        have HMM := Lib.hid hMM
        have HML : Hid (M0.length = 16) := Lib.hid (by rw [← hMM]; exact mfill_len b 16)
        clear hMM
        go_loopw [57] (fun i wr => ∃ n : Nat, n ≤ 10 ∧ i = .int .i64 n ∧ PS w s Hc (ws M0) (ws (turns M0 V0 n)) Z8 wr) (fun i _ => 10 - (intOf i).toNat)
        case atStart => exact ⟨0, Nat.zero_le _, rfl, HPS.out⟩
        case round =>
          clear HPS
          obtain ⟨m, hm, rfl, hp⟩ := hrel
          have HPS := Lib.hid hp
          clear hp
          by_cases hlt : m < 10
          · have hlt' : (m : Int) < 10 := by omega
            have hix := index69 m hlt
            rw [← HOO.out] at hix
            have HOL : Hid ((ordN.getD m []).length = 16) := Lib.hid (ordN_len m hlt)
            have HOL2 : Hid (∀ k, (ordN.getD m []).getD k 0 < 16) := Lib.hid (ordN_lt m)
            obtain ⟨O, hO⟩ : ∃ O, O = ordN.getD m [] := ⟨_, rfl⟩
            rw [← hO] at hix HOL HOL2
            have HO := Lib.hid hO
            clear hO
            go_wp2_with (refine wpl_store_blk rfl 178 _ _ rfl wr.heap.size 178 _ (ints O) rfl rfl (Blk.new wr 178 _) (by rw [ints_size, HOL.out]; rfl) (by rw [ints_size, HOL.out]; kernel_rfl) (ints_one _) ?_; intro wq hBq hOq hzq)
            have hgo : s + 1 + 1 + 1 + 1 < wr.heap.size := HPS.out.v.lt
            have HPS := Lib.hid ((HPS.out.alloc _).newer hOq hgo)
            have HGO := Lib.hid hBq
            generalize wr.heap.size = go at hgo HGO ⊢
            clear hBq hOq hzq hix
            generalize hVT : turns M0 V0 m = VT at HPS
            have HVT := Lib.hid hVT
            have HVTL : Hid (VT.length = 16) := Lib.hid (by rw [← hVT, turns_len]; exact HVL0.out)
            clear hVT
            go_loopw [60] (fun i wr => ∃ k : Nat, k ≤ 8 ∧ i = .int .i64 k ∧ PS w s Hc (ws M0) (ws (turnK M0 O VT k)) Z8 wr ∧ Blk wr go 178 (ints O)) (fun i _ => 8 - (intOf i).toNat)
            case atStart => exact ⟨0, Nat.zero_le _, rfl, HPS.out, HGO.out⟩
            case round =>
              clear HPS HGO
              obtain ⟨k, hk, rfl, hp, hg⟩ := hrel
              have HPS := Lib.hid hp
              have HGO := Lib.hid hg
              clear hp hg
              by_cases hlt : k < 8
              · have hlt' : (k : Int) < 8 := by omega
                obtain ⟨c, hc⟩ : ∃ c, c = k % 4 := ⟨_, rfl⟩
                obtain ⟨t, ht⟩ : ∃ t, t = k / 4 := ⟨_, rfl⟩
                have ec : (k : Int) % 4 = (c : Int) := by omega
                have et : (k : Int) / 4 = (t : Int) := by omega
                have hcl : c < 4 := by omega
                have htl : t < 2 := by omega
                have hk0 : (0 : Int) ≤ (k : Int) := by omega
                have HC := Lib.hid hc; have HT := Lib.hid ht
                clear hc ht
                go_wp2_with fail
                obtain ⟨V, hV⟩ : ∃ V, V = turnK M0 O VT k := ⟨_, rfl⟩
                have hvl : V.length = 16 := by rw [hV, turnK_len]; exact HVTL.out
                rw [← hV] at HPS
                have HVV := Lib.hid hV
                have HVL := Lib.hid hvl
                clear hV hvl
                obtain ⟨i1, hi1⟩ : ∃ i, i = O.getD (2 * k) 0 := ⟨_, rfl⟩
                obtain ⟨i2, hi2⟩ : ∃ i, i = O.getD (2 * k + 1) 0 := ⟨_, rfl⟩
                have l1 : i1 < 16 := by rw [hi1]; exact HOL2.out _
                have l2 : i2 < 16 := by rw [hi2]; exact HOL2.out _
                have l1' : (i1 : Int) < 16 := by omega
                have l2' : (i2 : Int) < 16 := by omega
                have m1' : (0 : Int) ≤ (i1 : Int) := by omega
                have m2' : (0 : Int) ≤ (i2 : Int) := by omega
                obtain ⟨x1, hx1⟩ : ∃ x, x = M0.getD i1 0#32 := ⟨_, rfl⟩
                obtain ⟨x2, hx2⟩ : ∃ x, x = M0.getD i2 0#32 := ⟨_, rfl⟩
                have HI1 := Lib.hid hi1; have HI2 := Lib.hid hi2; have HX1 := Lib.hid hx1; have HX2 := Lib.hid hx2
                clear hi1 hi2 hx1 hx2
                obtain ⟨r1, hr1⟩ : ∃ r, r = (c + t) % 4 := ⟨_, rfl⟩
                obtain ⟨r2, hr2⟩ : ∃ r, r = (c + 2 * t) % 4 := ⟨_, rfl⟩
                obtain ⟨r3, hr3⟩ : ∃ r, r = (c + 3 * t) % 4 := ⟨_, rfl⟩
                have e1 : ((c : Int) + (t : Int)) % 4 = (r1 : Int) := by omega
                have e2 : ((c : Int) + 2 * (t : Int)) % 4 = (r2 : Int) := by omega
                have e3 : ((c : Int) + 3 * (t : Int)) % 4 = (r3 : Int) := by omega
                have b1 : r1 < 4 := by omega
                have b2 : r2 < 4 := by omega
                have b3 : r3 < 4 := by omega
                have HR1 := Lib.hid hr1; have HR2 := Lib.hid hr2; have HR3 := Lib.hid hr3
                clear hr1 hr2 hr3
                obtain ⟨p1, hp1⟩ : ∃ p, p = 4 + r1 := ⟨_, rfl⟩
                obtain ⟨p2, hp2⟩ : ∃ p, p = 8 + r2 := ⟨_, rfl⟩
                obtain ⟨p3, hp3⟩ : ∃ p, p = 12 + r3 := ⟨_, rfl⟩
                have e4 : (4 : Int) + (r1 : Int) = (p1 : Int) := by omega
                have e5 : (8 : Int) + (r2 : Int) = (p2 : Int) := by omega
                have e6 : (12 : Int) + (r3 : Int) = (p3 : Int) := by omega
                have q1 : p1 < 16 := by omega
                have q2 : p2 < 16 := by omega
                have q3 : p3 < 16 := by omega
                have HP1 := Lib.hid hp1; have HP2 := Lib.hid hp2; have HP3 := Lib.hid hp3
                clear hp1 hp2 hp3
                have w1 : IntKind.i64.wrap (2 * (k : Int)) = 2 * (k : Int) := IntWalk.i64_in _ (by omega)
                have w2 : IntKind.i64.wrap (2 * (k : Int) + 1) = 2 * (k : Int) + 1 := IntWalk.i64_in _ (by omega)
                have w3 : IntKind.i64.wrap ((c : Int) + (t : Int)) = (c : Int) + (t : Int) := IntWalk.i64_in _ (by omega)
                have w4 : IntKind.i64.wrap (2 * (t : Int)) = 2 * (t : Int) := IntWalk.i64_in _ (by omega)
                have w5 : IntKind.i64.wrap (3 * (t : Int)) = 3 * (t : Int) := IntWalk.i64_in _ (by omega)
                have w6 : IntKind.i64.wrap ((c : Int) + 2 * (t : Int)) = (c : Int) + 2 * (t : Int) := IntWalk.i64_in _ (by omega)
                have w7 : IntKind.i64.wrap ((c : Int) + 3 * (t : Int)) = (c : Int) + 3 * (t : Int) := IntWalk.i64_in _ (by omega)
                have w8 : IntKind.i64.wrap (p1 : Int) = (p1 : Int) := IntWalk.i64_in _ (by omega)
                have w9 : IntKind.i64.wrap (p2 : Int) = (p2 : Int) := IntWalk.i64_in _ (by omega)
                have w10 : IntKind.i64.wrap (p3 : Int) = (p3 : Int) := IntWalk.i64_in _ (by omega)
                have t1 : ((c : Int) + (t : Int)).tmod 4 = (r1 : Int) := by rw [Int.tmod_eq_emod_of_nonneg (by omega)]; exact e1
                have t2 : ((c : Int) + 2 * (t : Int)).tmod 4 = (r2 : Int) := by rw [Int.tmod_eq_emod_of_nonneg (by omega)]; exact e2
                have t3 : ((c : Int) + 3 * (t : Int)).tmod 4 = (r3 : Int) := by rw [Int.tmod_eq_emod_of_nonneg (by omega)]; exact e3
                have n1 : (2 * (k : Int)).toNat = 2 * k := by omega
                have n2 : (2 * (k : Int) + 1).toNat = 2 * k + 1 := by omega
                have n3 : (0 : Int) ≤ 2 * (k : Int) := by omega
                have n4 : (0 : Int) ≤ 2 * (k : Int) + 1 := by omega
                have n5 : 2 * (k : Int) < 16 := by omega
                have n6 : 2 * (k : Int) + 1 < 16 := by omega
                have HPS := Lib.hid HPS.out.drew
                have HGO := Lib.hid HGO.out.drew
                have hS0 : Blk wr.drew (s + 1 + 1 + 1) 177 (ws M0) ∧ Blk wr.drew go 178 (ints O) := ⟨HPS.out.m, HGO.out⟩
                refine wp_region_held_drew (S := (fun W => Blk W (s + 1 + 1 + 1) 177 (ws M0) ∧ Blk W go 178 (ints O))) (by kernel_rfl) hS0 ?_
                intro hS0'
                generalize wr.drew = wA at hS0' HPS HGO ⊢
                refine wpAnyH_take (i := 0) (v := .func (Fn.func 114) #[] #[.pointer (some ⟨s + 1 + 1 + 1 + 1, 0, none⟩)]) rfl (by kernel_rfl) (by kernel_rfl) (by kernel_rfl) (fun _ _ _ h => h) (Or.inl ⟨by kernel_rfl, fun w hSw => ?_⟩) hS0' ?_
                · go_simp
                try simp only [Act.put, List.getElem_toArray, List.getElem_cons_succ, List.getElem_cons_zero, List.setIfInBounds_toArray, List.set_cons_zero, List.set_cons_succ]
                refine wpAnyH_take (i := 1) (v := .int .i64 (k : Int)) rfl (by kernel_rfl) (by kernel_rfl) (by kernel_rfl) (fun _ _ _ h => h) (Or.inl ⟨by kernel_rfl, fun w hSw => ?_⟩) hS0' ?_
                · go_simp
                try simp only [Act.put, List.getElem_toArray, List.getElem_cons_succ, List.getElem_cons_zero, List.setIfInBounds_toArray, List.set_cons_zero, List.set_cons_succ]
                refine wpAnyH_take (i := 2) (v := .int .i64 (2 * (k : Int))) rfl (by kernel_rfl) (by kernel_rfl) (by kernel_rfl) (fun _ _ _ h => h) (Or.inl ⟨by kernel_rfl, fun w hSw => ?_⟩) hS0' ?_
                · go_simp
                try simp only [Act.put, List.getElem_toArray, List.getElem_cons_succ, List.getElem_cons_zero, List.setIfInBounds_toArray, List.set_cons_zero, List.set_cons_succ]
                refine wpAnyH_take (i := 3) (v := .pointer (some ⟨go, 2 * k, none⟩)) rfl (by kernel_rfl) (by kernel_rfl) (by kernel_rfl) (fun _ _ _ h => h) (Or.inl ⟨by kernel_rfl, fun w hSw => ?_⟩) hS0' ?_
                · go_simp
                try simp only [Act.put, List.getElem_toArray, List.getElem_cons_succ, List.getElem_cons_zero, List.setIfInBounds_toArray, List.set_cons_zero, List.set_cons_succ]
                refine wpAnyH_take (i := 4) (v := .int .i64 (i1 : Int)) rfl (by kernel_rfl) (by kernel_rfl) (by kernel_rfl) (fun _ _ _ h => h) (Or.inl ⟨by kernel_rfl, fun w hSw => ?_⟩) hS0' ?_
                · have hc : w.cell? ⟨go, 2 * k, none⟩ = some (.int .i64 (i1 : Int)) := by rw [HI1.out]; exact blk_ints hSw.2 (by have := HOL.out; omega)
                  clear hSw
                  go_simp
                try simp only [Act.put, List.getElem_toArray, List.getElem_cons_succ, List.getElem_cons_zero, List.setIfInBounds_toArray, List.set_cons_zero, List.set_cons_succ]
                refine wpAnyH_take (i := 5) (v := .pointer (some ⟨s + 1 + 1 + 1, i1, none⟩)) rfl (by kernel_rfl) (by kernel_rfl) (by kernel_rfl) (fun _ _ _ h => h) (Or.inl ⟨by kernel_rfl, fun w hSw => ?_⟩) hS0' ?_
                · go_simp
                try simp only [Act.put, List.getElem_toArray, List.getElem_cons_succ, List.getElem_cons_zero, List.setIfInBounds_toArray, List.set_cons_zero, List.set_cons_succ]
                refine wpAnyH_take (i := 6) (v := .int .u32 (x1.toNat : Int)) rfl (by kernel_rfl) (by kernel_rfl) (by kernel_rfl) (fun _ _ _ h => h) (Or.inl ⟨by kernel_rfl, fun w hSw => ?_⟩) hS0' ?_
                · have hc : w.cell? ⟨s + 1 + 1 + 1, i1, none⟩ = some (.int .u32 (x1.toNat : Int)) := by rw [HX1.out]; exact blk_ws hSw.1 (by have := HML.out; omega)
                  clear hSw
                  go_simp
                try simp only [Act.put, List.getElem_toArray, List.getElem_cons_succ, List.getElem_cons_zero, List.setIfInBounds_toArray, List.set_cons_zero, List.set_cons_succ]
                refine wpAnyH_take (i := 7) (v := .int .i64 (k : Int)) rfl (by kernel_rfl) (by kernel_rfl) (by kernel_rfl) (fun _ _ _ h => h) (Or.inl ⟨by kernel_rfl, fun w hSw => ?_⟩) hS0' ?_
                · go_simp
                try simp only [Act.put, List.getElem_toArray, List.getElem_cons_succ, List.getElem_cons_zero, List.setIfInBounds_toArray, List.set_cons_zero, List.set_cons_succ]
                refine wpAnyH_take (i := 8) (v := .int .i64 (2 * (k : Int))) rfl (by kernel_rfl) (by kernel_rfl) (by kernel_rfl) (fun _ _ _ h => h) (Or.inl ⟨by kernel_rfl, fun w hSw => ?_⟩) hS0' ?_
                · go_simp
                try simp only [Act.put, List.getElem_toArray, List.getElem_cons_succ, List.getElem_cons_zero, List.setIfInBounds_toArray, List.set_cons_zero, List.set_cons_succ]
                refine wpAnyH_take (i := 9) (v := .int .i64 (2 * (k : Int) + 1)) rfl (by kernel_rfl) (by kernel_rfl) (by kernel_rfl) (fun _ _ _ h => h) (Or.inl ⟨by kernel_rfl, fun w hSw => ?_⟩) hS0' ?_
                · go_simp
                try simp only [Act.put, List.getElem_toArray, List.getElem_cons_succ, List.getElem_cons_zero, List.setIfInBounds_toArray, List.set_cons_zero, List.set_cons_succ]
                refine wpAnyH_take (i := 10) (v := .pointer (some ⟨go, 2 * k + 1, none⟩)) rfl (by kernel_rfl) (by kernel_rfl) (by kernel_rfl) (fun _ _ _ h => h) (Or.inl ⟨by kernel_rfl, fun w hSw => ?_⟩) hS0' ?_
                · go_simp
                try simp only [Act.put, List.getElem_toArray, List.getElem_cons_succ, List.getElem_cons_zero, List.setIfInBounds_toArray, List.set_cons_zero, List.set_cons_succ]
                refine wpAnyH_take (i := 11) (v := .int .i64 (i2 : Int)) rfl (by kernel_rfl) (by kernel_rfl) (by kernel_rfl) (fun _ _ _ h => h) (Or.inl ⟨by kernel_rfl, fun w hSw => ?_⟩) hS0' ?_
                · have hc : w.cell? ⟨go, 2 * k + 1, none⟩ = some (.int .i64 (i2 : Int)) := by rw [HI2.out]; exact blk_ints hSw.2 (by have := HOL.out; omega)
                  clear hSw
                  go_simp
                try simp only [Act.put, List.getElem_toArray, List.getElem_cons_succ, List.getElem_cons_zero, List.setIfInBounds_toArray, List.set_cons_zero, List.set_cons_succ]
                refine wpAnyH_take (i := 12) (v := .pointer (some ⟨s + 1 + 1 + 1, i2, none⟩)) rfl (by kernel_rfl) (by kernel_rfl) (by kernel_rfl) (fun _ _ _ h => h) (Or.inl ⟨by kernel_rfl, fun w hSw => ?_⟩) hS0' ?_
                · go_simp
                try simp only [Act.put, List.getElem_toArray, List.getElem_cons_succ, List.getElem_cons_zero, List.setIfInBounds_toArray, List.set_cons_zero, List.set_cons_succ]
                refine wpAnyH_take (i := 13) (v := .int .u32 (x2.toNat : Int)) rfl (by kernel_rfl) (by kernel_rfl) (by kernel_rfl) (fun _ _ _ h => h) (Or.inl ⟨by kernel_rfl, fun w hSw => ?_⟩) hS0' ?_
                · have hc : w.cell? ⟨s + 1 + 1 + 1, i2, none⟩ = some (.int .u32 (x2.toNat : Int)) := by rw [HX2.out]; exact blk_ws hSw.1 (by have := HML.out; omega)
                  clear hSw
                  go_simp
                try simp only [Act.put, List.getElem_toArray, List.getElem_cons_succ, List.getElem_cons_zero, List.setIfInBounds_toArray, List.set_cons_zero, List.set_cons_succ]
                refine wpAnyH_take (i := 14) (v := .int .i64 (c : Int)) rfl (by kernel_rfl) (by kernel_rfl) (by kernel_rfl) (fun _ _ _ h => h) (Or.inl ⟨by kernel_rfl, fun w hSw => ?_⟩) hS0' ?_
                · go_simp
                try simp only [Act.put, List.getElem_toArray, List.getElem_cons_succ, List.getElem_cons_zero, List.setIfInBounds_toArray, List.set_cons_zero, List.set_cons_succ]
                refine wpAnyH_take (i := 15) (v := .int .i64 (c : Int)) rfl (by kernel_rfl) (by kernel_rfl) (by kernel_rfl) (fun _ _ _ h => h) (Or.inl ⟨by kernel_rfl, fun w hSw => ?_⟩) hS0' ?_
                · go_simp
                try simp only [Act.put, List.getElem_toArray, List.getElem_cons_succ, List.getElem_cons_zero, List.setIfInBounds_toArray, List.set_cons_zero, List.set_cons_succ]
                refine wpAnyH_take (i := 16) (v := .int .i64 (t : Int)) rfl (by kernel_rfl) (by kernel_rfl) (by kernel_rfl) (fun _ _ _ h => h) (Or.inl ⟨by kernel_rfl, fun w hSw => ?_⟩) hS0' ?_
                · go_simp
                try simp only [Act.put, List.getElem_toArray, List.getElem_cons_succ, List.getElem_cons_zero, List.setIfInBounds_toArray, List.set_cons_zero, List.set_cons_succ]
                refine wpAnyH_take (i := 17) (v := .int .i64 ((c : Int) + (t : Int))) rfl (by kernel_rfl) (by kernel_rfl) (by kernel_rfl) (fun _ _ _ h => h) (Or.inl ⟨by kernel_rfl, fun w hSw => ?_⟩) hS0' ?_
                · go_simp
                try simp only [Act.put, List.getElem_toArray, List.getElem_cons_succ, List.getElem_cons_zero, List.setIfInBounds_toArray, List.set_cons_zero, List.set_cons_succ]
                refine wpAnyH_take (i := 18) (v := .int .i64 (r1 : Int)) rfl (by kernel_rfl) (by kernel_rfl) (by kernel_rfl) (fun _ _ _ h => h) (Or.inl ⟨by kernel_rfl, fun w hSw => ?_⟩) hS0' ?_
                · go_simp
                try simp only [Act.put, List.getElem_toArray, List.getElem_cons_succ, List.getElem_cons_zero, List.setIfInBounds_toArray, List.set_cons_zero, List.set_cons_succ]
                refine wpAnyH_take (i := 19) (v := .int .i64 (p1 : Int)) rfl (by kernel_rfl) (by kernel_rfl) (by kernel_rfl) (fun _ _ _ h => h) (Or.inl ⟨by kernel_rfl, fun w hSw => ?_⟩) hS0' ?_
                · go_simp
                try simp only [Act.put, List.getElem_toArray, List.getElem_cons_succ, List.getElem_cons_zero, List.setIfInBounds_toArray, List.set_cons_zero, List.set_cons_succ]
                refine wpAnyH_take (i := 20) (v := .int .i64 (c : Int)) rfl (by kernel_rfl) (by kernel_rfl) (by kernel_rfl) (fun _ _ _ h => h) (Or.inl ⟨by kernel_rfl, fun w hSw => ?_⟩) hS0' ?_
                · go_simp
                try simp only [Act.put, List.getElem_toArray, List.getElem_cons_succ, List.getElem_cons_zero, List.setIfInBounds_toArray, List.set_cons_zero, List.set_cons_succ]
                refine wpAnyH_take (i := 21) (v := .int .i64 (t : Int)) rfl (by kernel_rfl) (by kernel_rfl) (by kernel_rfl) (fun _ _ _ h => h) (Or.inl ⟨by kernel_rfl, fun w hSw => ?_⟩) hS0' ?_
                · go_simp
                try simp only [Act.put, List.getElem_toArray, List.getElem_cons_succ, List.getElem_cons_zero, List.setIfInBounds_toArray, List.set_cons_zero, List.set_cons_succ]
                refine wpAnyH_take (i := 22) (v := .int .i64 (2 * (t : Int))) rfl (by kernel_rfl) (by kernel_rfl) (by kernel_rfl) (fun _ _ _ h => h) (Or.inl ⟨by kernel_rfl, fun w hSw => ?_⟩) hS0' ?_
                · go_simp
                try simp only [Act.put, List.getElem_toArray, List.getElem_cons_succ, List.getElem_cons_zero, List.setIfInBounds_toArray, List.set_cons_zero, List.set_cons_succ]
                refine wpAnyH_take (i := 23) (v := .int .i64 ((c : Int) + 2 * (t : Int))) rfl (by kernel_rfl) (by kernel_rfl) (by kernel_rfl) (fun _ _ _ h => h) (Or.inl ⟨by kernel_rfl, fun w hSw => ?_⟩) hS0' ?_
                · go_simp
                try simp only [Act.put, List.getElem_toArray, List.getElem_cons_succ, List.getElem_cons_zero, List.setIfInBounds_toArray, List.set_cons_zero, List.set_cons_succ]
                refine wpAnyH_take (i := 24) (v := .int .i64 (r2 : Int)) rfl (by kernel_rfl) (by kernel_rfl) (by kernel_rfl) (fun _ _ _ h => h) (Or.inl ⟨by kernel_rfl, fun w hSw => ?_⟩) hS0' ?_
                · go_simp
                try simp only [Act.put, List.getElem_toArray, List.getElem_cons_succ, List.getElem_cons_zero, List.setIfInBounds_toArray, List.set_cons_zero, List.set_cons_succ]
                refine wpAnyH_take (i := 25) (v := .int .i64 (p2 : Int)) rfl (by kernel_rfl) (by kernel_rfl) (by kernel_rfl) (fun _ _ _ h => h) (Or.inl ⟨by kernel_rfl, fun w hSw => ?_⟩) hS0' ?_
                · go_simp
                try simp only [Act.put, List.getElem_toArray, List.getElem_cons_succ, List.getElem_cons_zero, List.setIfInBounds_toArray, List.set_cons_zero, List.set_cons_succ]
                refine wpAnyH_take (i := 26) (v := .int .i64 (c : Int)) rfl (by kernel_rfl) (by kernel_rfl) (by kernel_rfl) (fun _ _ _ h => h) (Or.inl ⟨by kernel_rfl, fun w hSw => ?_⟩) hS0' ?_
                · go_simp
                try simp only [Act.put, List.getElem_toArray, List.getElem_cons_succ, List.getElem_cons_zero, List.setIfInBounds_toArray, List.set_cons_zero, List.set_cons_succ]
                refine wpAnyH_take (i := 27) (v := .int .i64 (t : Int)) rfl (by kernel_rfl) (by kernel_rfl) (by kernel_rfl) (fun _ _ _ h => h) (Or.inl ⟨by kernel_rfl, fun w hSw => ?_⟩) hS0' ?_
                · go_simp
                try simp only [Act.put, List.getElem_toArray, List.getElem_cons_succ, List.getElem_cons_zero, List.setIfInBounds_toArray, List.set_cons_zero, List.set_cons_succ]
                refine wpAnyH_take (i := 28) (v := .int .i64 (3 * (t : Int))) rfl (by kernel_rfl) (by kernel_rfl) (by kernel_rfl) (fun _ _ _ h => h) (Or.inl ⟨by kernel_rfl, fun w hSw => ?_⟩) hS0' ?_
                · go_simp
                try simp only [Act.put, List.getElem_toArray, List.getElem_cons_succ, List.getElem_cons_zero, List.setIfInBounds_toArray, List.set_cons_zero, List.set_cons_succ]
                refine wpAnyH_take (i := 29) (v := .int .i64 ((c : Int) + 3 * (t : Int))) rfl (by kernel_rfl) (by kernel_rfl) (by kernel_rfl) (fun _ _ _ h => h) (Or.inl ⟨by kernel_rfl, fun w hSw => ?_⟩) hS0' ?_
                · go_simp
                try simp only [Act.put, List.getElem_toArray, List.getElem_cons_succ, List.getElem_cons_zero, List.setIfInBounds_toArray, List.set_cons_zero, List.set_cons_succ]
                refine wpAnyH_take (i := 30) (v := .int .i64 (r3 : Int)) rfl (by kernel_rfl) (by kernel_rfl) (by kernel_rfl) (fun _ _ _ h => h) (Or.inl ⟨by kernel_rfl, fun w hSw => ?_⟩) hS0' ?_
                · go_simp
                try simp only [Act.put, List.getElem_toArray, List.getElem_cons_succ, List.getElem_cons_zero, List.setIfInBounds_toArray, List.set_cons_zero, List.set_cons_succ]
                refine wpAnyH_take (i := 31) (v := .int .i64 (p3 : Int)) rfl (by kernel_rfl) (by kernel_rfl) (by kernel_rfl) (fun _ _ _ h => h) (Or.inl ⟨by kernel_rfl, fun w hSw => ?_⟩) hS0' ?_
                · go_simp
                try simp only [Act.put, List.getElem_toArray, List.getElem_cons_succ, List.getElem_cons_zero, List.setIfInBounds_toArray, List.set_cons_zero, List.set_cons_succ]
                refine wpAnyH_ready (rs := [32]) (by kernel_rfl) (by simp) ?_
                refine AllReadyH.cons (by rfl) ?_ AllReadyH.nil
                intro K hK
                go_simp
                have hnew := Blk.new wA 3 #[.int .i64 (c : Int), .int .i64 (p1 : Int), .int .i64 (p2 : Int), .int .i64 (p3 : Int)]
                have hp1 := HPS.out.alloc (.cells #[.int .i64 (c : Int), .int .i64 (p1 : Int), .int .i64 (p2 : Int), .int .i64 (p3 : Int)] 3)
                have hb1 := HGO.out.alloc (.cells #[.int .i64 (c : Int), .int .i64 (p1 : Int), .int .i64 (p2 : Int), .int .i64 (p3 : Int)] 3)
                have hlt5 : s + 1 + 1 + 1 + 1 < wA.heap.size := HPS.out.v.lt
                have hlt6 : go ≠ wA.heap.size := Nat.ne_of_lt HGO.out.lt
                generalize wA.heap.size = ga at hnew hlt5 hlt6 ⊢
                generalize (World.alloc _ _) = wB at hnew hp1 hb1 ⊢
                have HNW := Lib.hid hnew
                have HPS := Lib.hid hp1
                have HGO := Lib.hid hb1
                clear hnew hp1 hb1
                refine hK.out _ _ ⟨HPS.out.m, HGO.out⟩ (fun hS1 => ?_)
                clear hK K
                refine wpAnyH_ready (rs := [33]) (by kernel_rfl) (by simp) ?_
                refine AllReadyH.cons (by rfl) ?_ AllReadyH.nil
                intro K hK
                go_simp
                refine (pmix_c (s + 1 + 1 + 1 + 1) ga V x1 x2 c p1 p2 p3 _ HVL.out (by omega) (by omega) (by omega) (by omega) (by omega) HPS.out.v HNW.out).mono ?_
                rintro e wC ⟨rfl, hV2, hO2⟩
                have HPS := Lib.hid (HPS.out.put hO2 hV2)
                have HGO := Lib.hid (hO2.blk HGO.out (by omega))
                refine hK.out _ _ ⟨HPS.out.m, HGO.out⟩ (fun hS2 => ?_)
                clear hK K
                refine wpAnyH_done (by kernel_rfl) ?_ _
                go_wp2_with fail
                go_roundw
                clear w1 w2 w3 w4 w5 w6 w7 w8 w9 w10 t1 t2 t3 n1 n2
                case rel =>
                  refine ⟨k + 1, by omega, by go_num, ?_, HGO.out⟩
                  have := HPS.out
                  rw [turnK, ← HVV.out, roundAt, ← HI1.out, ← HI2.out, ← HX1.out, ← HX2.out, ← HC.out, ← HT.out, ← HR1.out, ← HR2.out, ← HR3.out, ← HP1.out, ← HP2.out, ← HP3.out]
                  exact this
                case measure => simp [intOf]; omega
              · obtain rfl : k = 8 := by omega
                go_wp2_with fail
                go_roundw
                case rel =>
                  refine ⟨m + 1, by omega, by go_num, ?_⟩
                  have := HPS.out
                  rw [turns, HVT.out, ← HO.out]
                  exact this
                case measure => simp [intOf]; omega
          · obtain rfl : m = 10 := by omega
            go_wp2_with fail
            rw [show ((10 : Nat) : Int) = 10 from rfl]
            generalize hVE : turns M0 V0 10 = VE at HPS
            have HVE := Lib.hid hVE
            have HVEL : Hid (VE.length = 16) := Lib.hid (by rw [← hVE, turns_len]; exact HVL0.out)
            clear hVE
            have HFL : Hid (∀ k, (fin h VE k).length = 8) := Lib.hid (fun k => by rw [fin_len]; exact HL8.out)
            go_loopw [103] (fun i wr => ∃ k : Nat, k ≤ 8 ∧ i = .int .i64 k ∧ PS w s (ws (fin h VE k)) (ws M0) (ws VE) Z8 wr) (fun i _ => 8 - (intOf i).toNat)
            case atStart => exact ⟨0, Nat.zero_le _, rfl, by rw [fin, ← HHc.out]; exact HPS.out⟩
            case round =>
              clear HPS
              obtain ⟨k, hk, rfl, hp⟩ := hrel
              have HPS := Lib.hid hp
              clear hp
              by_cases hlt : k < 8
              · have hlt' : (k : Int) < 8 := by omega
                have hk0 : (0 : Int) ≤ (k : Int) := by omega
                have hk8 : (k : Int) + 8 < 16 := by omega
                have hk16 : (k : Int) < 16 := by omega
                go_wp2_with fail
                have ch := blk_ws HPS.out.h (k := k) (by have := HFL.out k; omega)
                have c1 := blk_ws HPS.out.v (k := k) (by have := HVEL.out; omega)
                have c2 := blk_ws HPS.out.v (k := k + 8) (by have := HVEL.out; omega)
                have fh := HPS.out.h.frozen k
                obtain ⟨x, hx⟩ : ∃ x, x = (fin h VE k).getD k 0#32 := ⟨_, rfl⟩
                obtain ⟨y, hy⟩ : ∃ y, y = VE.getD k 0#32 := ⟨_, rfl⟩
                obtain ⟨z, hz⟩ : ∃ z, z = VE.getD (k + 8) 0#32 := ⟨_, rfl⟩
                rw [← hx] at ch
                rw [← hy] at c1
                rw [← hz] at c2
                have HX := Lib.hid hx; have HY := Lib.hid hy; have HZZ := Lib.hid hz
                have x1 := bxq y z
                have x2 := bxq x (y ^^^ z)
                obtain ⟨a, ha⟩ : ∃ a, a = y ^^^ z := ⟨_, rfl⟩
                rw [← ha] at x1 x2
                obtain ⟨r, hr⟩ : ∃ r, r = x ^^^ a := ⟨_, rfl⟩
                rw [← hr] at x2
                have HA := Lib.hid ha; have HR := Lib.hid hr
                clear hx hy hz ha hr
                have v1 : IntKind.i64.wrap ((k : Int) + 8) = (k : Int) + 8 := IntWalk.i64_in _ (by omega)
                have v2 : ((k : Int) + 8).toNat = k + 8 := by omega
                have v3 : (0 : Int) ≤ (k : Int) + 8 := by omega
                go_still_tail 12, (by kernel_rfl)
                change wpList _ _ _ _ _ wr.drew
                have HPS := Lib.hid HPS.out.drew
                clear ch c1 c2 fh
                have fh := HPS.out.h.frozen k
                have ch := blk_ws HPS.out.h (k := k) (by have := HFL.out k; omega)
                rw [← HX.out] at ch
                have HPS2 := Lib.hid (HPS.out.end_ ((Only.refl s wr.drew).setCell (p := ⟨s, k, none⟩) (.inl rfl) (.int .u32 (r.toNat : Int))) (blk_ws_set HPS.out.h k r))
                generalize wr.drew = wd at HPS HPS2 ch fh ⊢
                go_wp2_with fail
                clear v1 v2
                go_roundw
                case rel =>
                  refine ⟨k + 1, by omega, by go_num, ?_⟩
                  have := HPS2.out
                  rw [fin, ← HX.out, ← HY.out, ← HZZ.out, ← HA.out, ← HR.out]
                  exact this
                case measure => simp [intOf]; omega
              · obtain rfl : k = 8 := by omega
                have hfin : fin h VE 8 = press h b n last := by
                  unfold press
                  rw [← HVE.out, ← HMM.out, ← HV0.out]
                rw [hfin] at HPS
                clear hfin
                go_wp2_with (first | (refine wpl_load_blk rfl 161 _ rfl s rfl 161 _ _ HPS.out.h Tryz.underlying161 rfl (by rw [ws_size, press_len, HL8.out]; kernel_rfl) ?_) | (refine wpl_store_blk rfl 161 _ _ rfl (s + 1 + 1) 161 Z8 _ rfl rfl HPS.out.r (by rw [HZ8.out, ws_size, press_len, HL8.out]; rfl) (by rw [ws_size, press_len, HL8.out]; kernel_rfl) (ws_one _) ?_; intro w6 hB6 hO6 hz6))
                exact bodyPost_ret (results_cell_row rfl _ _ (s + 1 + 1) 161 _ (0, 0) _ rfl hB6 Tryz.underlying161 rfl (by rw [ws_size, press_len, HL8.out]; kernel_rfl)) rfl ⟨rfl, by rw [← Hs.out]; exact HPS.out.b.trans (hO6.below (Nat.le_of_lt HPS.out.h.lt) (by omega))⟩
end Go.Proofs.YtomnjhhpeglcnaaGreat

namespace Go.Proofs.YtomnjhhpeglcnaaGreat
open Go.RowKit
set_option linter.unusedSimpArgs false
set_option linter.unusedVariables false

def vfill (h : List Wo) : Nat → List Wo
  | 0 => List.replicate 16 0#32
  | k + 1 => ((vfill h k).set k (h.getD k 0#32)).set (k + 8) (iv.getD k 0#32)
theorem vfill_len (h : List Wo) (k : Nat) : (vfill h k).length = 16 := by
  induction k with
  | zero => simp [vfill]
  | succ k ih => rw [vfill, List.length_set, List.length_set, ih]
theorem vfill_all (h : List Wo) (hh : h.length = 8) : vfill h 8 = h ++ iv := by
  match h, hh with
  | [a, b, c, d, e, f, g, i], _ => rfl
theorem not_toNat (x : Wo) : (4294967295 : Int) - (x.toNat : Int) = ((~~~x).toNat : Int) := by
  have := lt32q x
  rw [BitVec.toNat_not]; omega

set_option maxRecDepth 100000 in
set_option maxHeartbeats 4000000 in
theorem rpress_c (h : List Wo) (b : List By) (n : Nat) (last : Bool) (w : World) (hh : h.length = 8) (hb : b.length = 64) (hn : n < 18446744073709551616) :
    Calls Tryz.prog 106 #[.agg (ws h), .agg (bya b), .int .u64 (n : Int), .bool last] w fun e w' => e = .returned (.agg (ws (press h b n last))) ∧ Below w.heap.size w w' := by
  have HE64 : Hid (IntKind.u64.wrap ((n : Int) / 4294967296) = (n : Int) / 4294967296) := Lib.hid (IntWalk.u64_in _ (by omega))
  clear hn
  have z27 := zero27
  have z61 := zero61
  obtain ⟨Z8, hZ8⟩ : ∃ Z, Z = ws (List.replicate 8 0#32) := ⟨_, rfl⟩
  obtain ⟨Z16, hZ16⟩ : ∃ Z, Z = ws (List.replicate 16 0#32) := ⟨_, rfl⟩
  obtain ⟨Hc, hHc⟩ : ∃ Z, Z = ws h := ⟨_, rfl⟩
  obtain ⟨Bc, hBc⟩ : ∃ Z, Z = bya b := ⟨_, rfl⟩
  rw [← hHc, ← hBc]
  rw [← hZ8] at z27
  rw [← hZ16] at z61
  have HZ8 := Lib.hid hZ8; have HZ16 := Lib.hid hZ16; have HHc := Lib.hid hHc; have HBc := Lib.hid hBc
  have HL8 := Lib.hid hh; have HL64 := Lib.hid hb
  clear hZ8 hZ16 hHc hBc hh hb
  obtain ⟨s, hs⟩ : ∃ s, s = w.heap.size := ⟨_, rfl⟩
  obtain ⟨W1, hW1, p1, p2, p3, p4, hB1, hz1⟩ := news4 w 161 151 161 177 Hc Bc Z8 Z16
  rw [← hs] at p1 p2 p3 p4 hB1 hz1
  have Hs := Lib.hid hs
  have HW := Lib.hid hW1
  have P1 := Lib.hid p1; have P2 := Lib.hid p2; have P3 := Lib.hid p3; have P4 := Lib.hid p4; have HB1 := Lib.hid hB1; have Hz1 := Lib.hid hz1
  clear hs hW1 p1 p2 p3 p4 hB1 hz1
  go_enter Tryz.func106, Tryz.ntmps106
  go_wp2_with fail
  rw [← HW.out, ← Hs.out]
  go_loopw [10] (fun i wr => ∃ k : Nat, k ≤ 16 ∧ i = .int .i64 k ∧ Blk wr (s + 1 + 1 + 1) 177 (ws (mfill b k)) ∧ Only (s + 1 + 1 + 1) W1 wr ∧ wr.heap.size = s + 1 + 1 + 1 + 1) (fun i _ => 16 - (intOf i).toNat)
  case atStart => exact ⟨0, Nat.zero_le _, rfl, by rw [mfill, ← HZ16.out]; exact P4.out, Only.refl _ _, Hz1.out⟩
  case round =>
    obtain ⟨k, hk, rfl, hM, hO, hz⟩ := hrel
    have HM := Lib.hid hM; have HO := Lib.hid hO; have HZ := Lib.hid hz
    clear hM hO hz
    have PB := Lib.hid (HO.out.blk P2.out (by omega))
    by_cases hlt : k < 16
    · have hlt' : (k : Int) < 16 := by omega
      have hf := HM.out.frozen k
      have hc := blk_ws HM.out (k := k) (by rw [mfill_len]; exact hlt)
      go_wp2_with fail
      have q0 := blk_bya (t := 151) (k := 4 * k) (by rw [← HBc.out]; exact PB.out) (by have := HL64.out; omega)
      have q1 := blk_bya (t := 151) (k := 4 * k + 1) (by rw [← HBc.out]; exact PB.out) (by have := HL64.out; omega)
      have q2 := blk_bya (t := 151) (k := 4 * k + 2) (by rw [← HBc.out]; exact PB.out) (by have := HL64.out; omega)
      have q3 := blk_bya (t := 151) (k := 4 * k + 3) (by rw [← HBc.out]; exact PB.out) (by have := HL64.out; omega)
      obtain ⟨x0, hx0⟩ : ∃ x, x = b.getD (4 * k) 0#8 := ⟨_, rfl⟩
      obtain ⟨x1, hx1⟩ : ∃ x, x = b.getD (4 * k + 1) 0#8 := ⟨_, rfl⟩
      obtain ⟨x2, hx2⟩ : ∃ x, x = b.getD (4 * k + 2) 0#8 := ⟨_, rfl⟩
      obtain ⟨x3, hx3⟩ : ∃ x, x = b.getD (4 * k + 3) 0#8 := ⟨_, rfl⟩
      rw [← hx0] at q0; rw [← hx1] at q1; rw [← hx2] at q2; rw [← hx3] at q3
      have hm : (x0.toNat : Int) + 256 * (x1.toNat : Int) + 65536 * (x2.toNat : Int) + 16777216 * (x3.toNat : Int) = ((msgW b k).toNat : Int) := by
        rw [msgW_toNat, ← hx0, ← hx1, ← hx2, ← hx3]; unfold wordN; omega
      have l0 := x0.isLt; have l1 := x1.isLt; have l2 := x2.isLt; have l3 := x3.isLt
      have hk0 : (0 : Int) ≤ (k : Int) := by omega
      have i0 : IntKind.i64.wrap (4 * (k : Int)) = 4 * (k : Int) := IntWalk.i64_in _ (by omega)
      have i1 : IntKind.i64.wrap (4 * (k : Int) + 1) = 4 * (k : Int) + 1 := IntWalk.i64_in _ (by omega)
      have i2 : IntKind.i64.wrap (4 * (k : Int) + 2) = 4 * (k : Int) + 2 := IntWalk.i64_in _ (by omega)
      have i3 : IntKind.i64.wrap (4 * (k : Int) + 3) = 4 * (k : Int) + 3 := IntWalk.i64_in _ (by omega)
      have j0 : (4 * (k : Int)).toNat = 4 * k := by omega
      have j1 : (4 * (k : Int) + 1).toNat = 4 * k + 1 := by omega
      have j2 : (4 * (k : Int) + 2).toNat = 4 * k + 2 := by omega
      have j3 : (4 * (k : Int) + 3).toNat = 4 * k + 3 := by omega
      have a0 : (0 : Int) ≤ 4 * (k : Int) := by omega
      have a1 : (0 : Int) ≤ 4 * (k : Int) + 1 := by omega
      have a2 : (0 : Int) ≤ 4 * (k : Int) + 2 := by omega
      have a3 : (0 : Int) ≤ 4 * (k : Int) + 3 := by omega
      have c0 : 4 * (k : Int) < 64 := by omega
      have c1 : 4 * (k : Int) + 1 < 64 := by omega
      have c2 : 4 * (k : Int) + 2 < 64 := by omega
      have c3 : 4 * (k : Int) + 3 < 64 := by omega
      have ux0 : IntKind.u32.wrap (x0.toNat : Int) = (x0.toNat : Int) := IntWalk.u32_in _ (by omega)
      have ux1 : IntKind.u32.wrap (x1.toNat : Int) = (x1.toNat : Int) := IntWalk.u32_in _ (by omega)
      have ux2 : IntKind.u32.wrap (x2.toNat : Int) = (x2.toNat : Int) := IntWalk.u32_in _ (by omega)
      have ux3 : IntKind.u32.wrap (x3.toNat : Int) = (x3.toNat : Int) := IntWalk.u32_in _ (by omega)
      have u1 : IntKind.u32.wrap (256 * (x1.toNat : Int)) = 256 * (x1.toNat : Int) := IntWalk.u32_in _ (by omega)
      have u2 : IntKind.u32.wrap (65536 * (x2.toNat : Int)) = 65536 * (x2.toNat : Int) := IntWalk.u32_in _ (by omega)
      have u3 : IntKind.u32.wrap (16777216 * (x3.toNat : Int)) = 16777216 * (x3.toNat : Int) := IntWalk.u32_in _ (by omega)
      have u4 : IntKind.u32.wrap ((x0.toNat : Int) + 256 * (x1.toNat : Int)) = (x0.toNat : Int) + 256 * (x1.toNat : Int) := IntWalk.u32_in _ (by omega)
      have u5 : IntKind.u32.wrap ((x0.toNat : Int) + 256 * (x1.toNat : Int) + 65536 * (x2.toNat : Int)) = (x0.toNat : Int) + 256 * (x1.toNat : Int) + 65536 * (x2.toNat : Int) := IntWalk.u32_in _ (by omega)
      have u6 : IntKind.u32.wrap ((x0.toNat : Int) + 256 * (x1.toNat : Int) + 65536 * (x2.toNat : Int) + 16777216 * (x3.toNat : Int)) = (x0.toNat : Int) + 256 * (x1.toNat : Int) + 65536 * (x2.toNat : Int) + 16777216 * (x3.toNat : Int) := IntWalk.u32_in _ (by omega)
      have HX0 := Lib.hid hx0; have HX1 := Lib.hid hx1; have HX2 := Lib.hid hx2; have HX3 := Lib.hid hx3
      clear hx0 hx1 hx2 hx3
      have HMM := Lib.hid hm
      clear hm
      go_still_tail 30, (by kernel_rfl)
      change wpList _ _ _ _ _ wr.drew
      clear ux0 ux1 ux2 ux3 u1 u2 u3 u4 u5 u6 i0 i1 i2 i3 j0 j1 j2 j3 q0 q1 q2 q3
      rw [HMM.out]
      have hf := HM.out.drew.frozen k
      have hc := blk_ws HM.out.drew (k := k) (by rw [mfill_len]; exact hlt)
      have HM2 := Lib.hid (blk_ws_set HM.out.drew k (msgW b k))
      have HO2 := Lib.hid (HO.out.drew.setCell (p := ⟨s + 1 + 1 + 1, k, none⟩) (.inl rfl) (.int .u32 ((msgW b k).toNat : Int)))
      have hzd : wr.drew.heap.size = s + 1 + 1 + 1 + 1 := HZ.out
      have HZD := Lib.hid hzd
      clear hzd
      generalize wr.drew = wd at hf hc HM2 HO2 HZD ⊢
      go_wp2_with fail
      go_roundw
      case rel => exact ⟨k + 1, by omega, by go_num, HM2.out, HO2.out, by have := HZD.out; simpa using this⟩
      case measure => simp [intOf]; omega
    · obtain rfl : k = 16 := by omega
      have PH := Lib.hid (HO.out.blk P1.out (by omega))
      have PR := Lib.hid (HO.out.blk P3.out (by omega))
      have PW := Lib.hid (HB1.out.trans (HO.out.below (B := s) (by have := Hz1.out; omega) (by omega)))
      have hps : PS w s Hc (ws (mfill b 16)) Z16 Z8 (wr.alloc (.cells Z16 177)) := ⟨PH.out.alloc _, PR.out.alloc _, HM.out.alloc _, by have := Blk.new wr 177 Z16; rwa [HZ.out] at this, PW.out.alloc (by have := HZ.out; omega) _⟩
      have HPS := Lib.hid hps
      clear hps PB P1 P2 P3 P4 PH PR PW HB1 HO
      go_wp2_with fail
      rw [HZ.out]
      generalize (World.alloc _ _) = w2 at HPS ⊢
      refine (rfirst_c _).mono ?_
      rintro e w3 ⟨rfl, hb3⟩
      have HPS := Lib.hid (HPS.out.below hb3)
      clear hb3
      go_wp2_with (refine wpl_store_blk rfl 161 _ _ rfl w3.heap.size 161 Z8 _ rfl rfl (Blk.new w3 161 Z8) (by rw [HZ8.out]; rfl) (by kernel_rfl) (by kernel_rfl) ?_; intro w4 hB4 hO4 hz4)
      have hgf : s + 1 + 1 + 1 + 1 < w3.heap.size := HPS.out.v.lt
      generalize w3.heap.size = gf at hB4 hO4 hgf ⊢
      have HPS := Lib.hid ((HPS.out.alloc (.cells Z8 161)).newer hO4 hgf)
      have HF := Lib.hid hB4
      clear hB4 hO4 hz4
      have HIV : Hid (iv.length = 8) := Lib.hid rfl
      go_loopw [13] (fun i wr => ∃ k : Nat, k ≤ 8 ∧ i = .int .i64 k ∧ PS w s Hc (ws (mfill b 16)) (ws (vfill h k)) Z8 wr ∧ Blk wr gf 161 (ws iv)) (fun i _ => 8 - (intOf i).toNat)
      case atStart => exact ⟨0, Nat.zero_le _, rfl, by rw [vfill, ← HZ16.out]; exact HPS.out, HF.out⟩
      case round =>
        clear HPS HF
        obtain ⟨k, hk, rfl, hp, hf⟩ := hrel
        have HPS := Lib.hid hp
        have HF := Lib.hid hf
        clear hp hf
        by_cases hlt : k < 8
        · have hlt' : (k : Int) < 8 := by omega
          have hk0 : (0 : Int) ≤ (k : Int) := by omega
          have hk16 : (k : Int) < 16 := by omega
          have hk8 : (k : Int) + 8 < 16 := by omega
          go_wp2_with fail
          obtain ⟨x1, hx1⟩ : ∃ x, x = h.getD k 0#32 := ⟨_, rfl⟩
          obtain ⟨x2, hx2⟩ : ∃ x, x = iv.getD k 0#32 := ⟨_, rfl⟩
          have HX1 := Lib.hid hx1; have HX2 := Lib.hid hx2
          clear hx1 hx2
          have v1 : IntKind.i64.wrap ((k : Int) + 8) = (k : Int) + 8 := IntWalk.i64_in _ (by omega)
          have v2 : ((k : Int) + 8).toNat = k + 8 := by omega
          have v3 : (0 : Int) ≤ (k : Int) + 8 := by omega
          have HPS := Lib.hid HPS.out.drew
          have HF := Lib.hid HF.out.drew
          have hS0 : Blk wr.drew s 161 (ws h) ∧ Blk wr.drew gf 161 (ws iv) := ⟨by have := HPS.out.h; rw [HHc.out] at this; exact this, HF.out⟩
          refine wp_region_held_drew (S := (fun W => Blk W s 161 (ws h) ∧ Blk W gf 161 (ws iv))) (by kernel_rfl) hS0 ?_
          intro hS0'
          generalize wr.drew = wA at hS0' HPS HF ⊢
          refine wpAnyH_take (i := 0) (v := .int .i64 (k : Int)) rfl (by kernel_rfl) (by kernel_rfl) (by kernel_rfl) (fun _ _ _ h => h) (Or.inl ⟨by kernel_rfl, fun w hSw => ?_⟩) hS0' ?_
          · go_simp
          try simp only [Act.put, List.getElem_toArray, List.getElem_cons_succ, List.getElem_cons_zero, List.setIfInBounds_toArray, List.set_cons_zero, List.set_cons_succ]
          refine wpAnyH_take (i := 1) (v := .int .i64 (k : Int)) rfl (by kernel_rfl) (by kernel_rfl) (by kernel_rfl) (fun _ _ _ h => h) (Or.inl ⟨by kernel_rfl, fun w hSw => ?_⟩) hS0' ?_
          · go_simp
          try simp only [Act.put, List.getElem_toArray, List.getElem_cons_succ, List.getElem_cons_zero, List.setIfInBounds_toArray, List.set_cons_zero, List.set_cons_succ]
          refine wpAnyH_take (i := 2) (v := .int .i64 ((k : Int) + 8)) rfl (by kernel_rfl) (by kernel_rfl) (by kernel_rfl) (fun _ _ _ h => h) (Or.inl ⟨by kernel_rfl, fun w hSw => ?_⟩) hS0' ?_
          · go_simp
          try simp only [Act.put, List.getElem_toArray, List.getElem_cons_succ, List.getElem_cons_zero, List.setIfInBounds_toArray, List.set_cons_zero, List.set_cons_succ]
          refine wpAnyH_take (i := 3) (v := .int .i64 (k : Int)) rfl (by kernel_rfl) (by kernel_rfl) (by kernel_rfl) (fun _ _ _ h => h) (Or.inl ⟨by kernel_rfl, fun w hSw => ?_⟩) hS0' ?_
          · go_simp
          try simp only [Act.put, List.getElem_toArray, List.getElem_cons_succ, List.getElem_cons_zero, List.setIfInBounds_toArray, List.set_cons_zero, List.set_cons_succ]
          refine wpAnyH_take (i := 4) (v := .pointer (some ⟨s, k, none⟩)) rfl (by kernel_rfl) (by kernel_rfl) (by kernel_rfl) (fun _ _ _ h => h) (Or.inl ⟨by kernel_rfl, fun w hSw => ?_⟩) hS0' ?_
          · go_simp
          try simp only [Act.put, List.getElem_toArray, List.getElem_cons_succ, List.getElem_cons_zero, List.setIfInBounds_toArray, List.set_cons_zero, List.set_cons_succ]
          refine wpAnyH_take (i := 5) (v := .int .u32 (x1.toNat : Int)) rfl (by kernel_rfl) (by kernel_rfl) (by kernel_rfl) (fun _ _ _ h => h) (Or.inl ⟨by kernel_rfl, fun w hSw => ?_⟩) hS0' ?_
          · have hc : w.cell? ⟨s, k, none⟩ = some (.int .u32 (x1.toNat : Int)) := by rw [HX1.out]; exact blk_ws hSw.1 (by have := HL8.out; omega)
            clear hSw
            go_simp
          try simp only [Act.put, List.getElem_toArray, List.getElem_cons_succ, List.getElem_cons_zero, List.setIfInBounds_toArray, List.set_cons_zero, List.set_cons_succ]
          refine wpAnyH_take (i := 6) (v := .int .i64 (k : Int)) rfl (by kernel_rfl) (by kernel_rfl) (by kernel_rfl) (fun _ _ _ h => h) (Or.inl ⟨by kernel_rfl, fun w hSw => ?_⟩) hS0' ?_
          · go_simp
          try simp only [Act.put, List.getElem_toArray, List.getElem_cons_succ, List.getElem_cons_zero, List.setIfInBounds_toArray, List.set_cons_zero, List.set_cons_succ]
          refine wpAnyH_take (i := 7) (v := .pointer (some ⟨gf, k, none⟩)) rfl (by kernel_rfl) (by kernel_rfl) (by kernel_rfl) (fun _ _ _ h => h) (Or.inl ⟨by kernel_rfl, fun w hSw => ?_⟩) hS0' ?_
          · go_simp
          try simp only [Act.put, List.getElem_toArray, List.getElem_cons_succ, List.getElem_cons_zero, List.setIfInBounds_toArray, List.set_cons_zero, List.set_cons_succ]
          refine wpAnyH_take (i := 8) (v := .int .u32 (x2.toNat : Int)) rfl (by kernel_rfl) (by kernel_rfl) (by kernel_rfl) (fun _ _ _ h => h) (Or.inl ⟨by kernel_rfl, fun w hSw => ?_⟩) hS0' ?_
          · have hc : w.cell? ⟨gf, k, none⟩ = some (.int .u32 (x2.toNat : Int)) := by rw [HX2.out]; exact blk_ws hSw.2 (by have := HIV.out; omega)
            clear hSw
            go_simp
          try simp only [Act.put, List.getElem_toArray, List.getElem_cons_succ, List.getElem_cons_zero, List.setIfInBounds_toArray, List.set_cons_zero, List.set_cons_succ]
          refine wpAnyH_take (i := 9) (v := .pointer (some ⟨s + 1 + 1 + 1 + 1, k, none⟩)) rfl (by kernel_rfl) (by kernel_rfl) (by kernel_rfl) (fun _ _ _ h => h) (Or.inl ⟨by kernel_rfl, fun w hSw => ?_⟩) hS0' ?_
          · go_simp
          try simp only [Act.put, List.getElem_toArray, List.getElem_cons_succ, List.getElem_cons_zero, List.setIfInBounds_toArray, List.set_cons_zero, List.set_cons_succ]
          refine wpAnyH_ready (rs := [10]) (by kernel_rfl) (by simp) ?_
          refine AllReadyH.cons (by rfl) ?_ AllReadyH.nil
          intro K hK
          have fv := HPS.out.v.frozen k
          have cv := blk_ws HPS.out.v (k := k) (by rw [vfill_len]; omega)
          go_simp
          have HPS := Lib.hid (HPS.out.set k x1)
          have HF := Lib.hid (HF.out.far (p := ⟨s + 1 + 1 + 1 + 1, k, none⟩) (Nat.ne_of_gt hgf) (.int .u32 (x1.toNat : Int)))
          generalize (World.setCell _ _ _) = wB at HPS HF ⊢
          refine hK.out _ _ ⟨by have := HPS.out.h; rw [HHc.out] at this; exact this, HF.out⟩ (fun hS1 => ?_)
          clear hK K
          refine wpAnyH_take (i := 11) (v := .pointer (some ⟨s + 1 + 1 + 1 + 1, k + 8, none⟩)) rfl (by kernel_rfl) (by kernel_rfl) (by kernel_rfl) (fun _ _ _ h => h) (Or.inl ⟨by kernel_rfl, fun w hSw => ?_⟩) hS1 ?_
          · go_simp
          try simp only [Act.put, List.getElem_toArray, List.getElem_cons_succ, List.getElem_cons_zero, List.setIfInBounds_toArray, List.set_cons_zero, List.set_cons_succ]
          refine wpAnyH_ready (rs := [12]) (by kernel_rfl) (by simp) ?_
          refine AllReadyH.cons (by rfl) ?_ AllReadyH.nil
          intro K hK
          have fv := HPS.out.v.frozen (k + 8)
          have cv := blk_ws HPS.out.v (k := k + 8) (by rw [List.length_set, vfill_len]; omega)
          go_simp
          have HPS := Lib.hid (HPS.out.set (k + 8) x2)
          have HF := Lib.hid (HF.out.far (p := ⟨s + 1 + 1 + 1 + 1, k + 8, none⟩) (Nat.ne_of_gt hgf) (.int .u32 (x2.toNat : Int)))
          generalize (World.setCell _ _ _) = wC at HPS HF ⊢
          refine hK.out _ _ ⟨by have := HPS.out.h; rw [HHc.out] at this; exact this, HF.out⟩ (fun hS2 => ?_)
          clear hK K
          refine wpAnyH_done (by kernel_rfl) ?_ _
          go_wp2_with fail
          clear v1 v2 v3
          go_roundw
          case rel =>
            refine ⟨k + 1, by omega, by go_num, ?_, HF.out⟩
            rw [vfill, ← HX1.out, ← HX2.out]
            exact HPS.out
          case measure => simp [intOf]; omega
        · obtain rfl : k = 8 := by omega
          rw [vfill_all h HL8.out] at HPS
          have hv := HPS.out.v
          obtain ⟨V, hV⟩ : ∃ V, V = h ++ iv := ⟨_, rfl⟩
          rw [← hV] at hv HPS
          have HV := Lib.hid hV
          have HVL : Hid (V.length = 16) := Lib.hid (by rw [hV, List.length_append, HL8.out]; rfl)
          clear hV
          have c12 := blk_ws hv (k := 12) (by rw [HVL.out]; decide)
          have c13 := blk_ws hv (k := 13) (by rw [HVL.out]; decide)
          rw [List.getD_eq_getElem?_getD] at c12 c13
          obtain ⟨x12, hx12⟩ : ∃ x, x = V[12]?.getD 0#32 := ⟨_, rfl⟩
          obtain ⟨x13, hx13⟩ : ∃ x, x = V[13]?.getD 0#32 := ⟨_, rfl⟩
          rw [← hx12] at c12
          rw [← hx13] at c13
          have HX12 := Lib.hid hx12; have HX13 := Lib.hid hx13
          have e12 : bits .xor .u32 (x12.toNat : Int) ((n : Int) % 4294967296) = ((x12 ^^^ BitVec.ofNat 32 n).toNat : Int) := by
            rw [← bxq, BitVec.toNat_ofNat]; congr 1
          have e13 : bits .xor .u32 (x13.toNat : Int) ((n : Int) / 4294967296 % 4294967296) = ((x13 ^^^ BitVec.ofNat 32 (n / 4294967296)).toNat : Int) := by
            rw [← bxq, BitVec.toNat_ofNat]; congr 1
          obtain ⟨y12, hy12⟩ : ∃ x, x = x12 ^^^ BitVec.ofNat 32 n := ⟨_, rfl⟩
          obtain ⟨y13, hy13⟩ : ∃ x, x = x13 ^^^ BitVec.ofNat 32 (n / 4294967296) := ⟨_, rfl⟩
          rw [← hy12] at e12
          rw [← hy13] at e13
          have HY12 := Lib.hid hy12; have HY13 := Lib.hid hy13
          have f12 := hv.frozen 12
          have f13 := hv.frozen 13
          clear hv hx12 hx13 hy12 hy13
          have hn0 : (0 : Int) ≤ (n : Int) := by omega
          have e64 := HE64.out
          go_upto_if 85 with (fail)
          go_cut [] (fun wx => PS w s Hc (ws (mfill b 16)) (ws (v0 h n last)) Z8 wx)
          case first =>
            have HPS := Lib.hid ((HPS.out.set 12 y12).set 13 y13)
            generalize (World.setCell _ _ _) = wx at HPS ⊢
            obtain ⟨V2, hV2⟩ : ∃ V2, V2 = (V.set 12 y12).set 13 y13 := ⟨_, rfl⟩
            have hfin : vnot V2 last = v0 h n last := by
              unfold v0
              rw [hV2, HY12.out, HY13.out, HX12.out, HX13.out, HV.out]
              congr 1
              unfold vx
              simp only [List.getD_eq_getElem?_getD, List.getElem?_set_ne (by decide : (12 : Nat) ≠ 13)]
            rw [← hV2] at HPS
            have HFIN := Lib.hid hfin
            have HVL2 : Hid (V2.length = 16) := Lib.hid (by rw [hV2]; simp [HVL.out])
            clear e64 hfin hV2 c12 c13 f12 f13 e12 e13
            cases last with
            | false =>
              go_wp2_with fail
              go_meet
              rw [← HFIN.out]
              exact HPS.out
            | true =>
              have hv := HPS.out.v
              have c14 := blk_ws hv (k := 14) (by rw [HVL2.out]; decide)
              rw [List.getD_eq_getElem?_getD] at c14
              have f14 := hv.frozen 14
              obtain ⟨x14, hx14⟩ : ∃ x, x = V2[14]?.getD 0#32 := ⟨_, rfl⟩
              rw [← hx14] at c14
              have HX14 := Lib.hid hx14
              have HN14 := Lib.hid (not_toNat x14)
              have l14 := lt32q x14
              clear hv hx14
              go_wp2_with fail
              go_meet
              rw [HN14.out, ← HFIN.out]
              have := HPS.out.set 14 (~~~x14)
              rw [HX14.out, ← List.getD_eq_getElem?_getD] at this ⊢
              exact this
          case rest =>
            have HPS := Lib.hid hcut
            clear e64 hcut c12 c13 f12 f13 e12 e13 HX12 HX13 HY12 HY13 HV HVL
            generalize hV : v0 h n last = V0 at HPS
            have HV0 := Lib.hid hV
            have HVL0 : Hid (V0.length = 16) := Lib.hid (by rw [← hV]; exact v0_len _ _ _ HL8.out)
            clear hV
            go_wp2_with fail
            rw [show ((8 : Nat) : Int) = 8 from rfl]
            generalize hMM : mfill b 16 = M0 at HPS
            have HMM := Lib.hid hMM
            have HML : Hid (M0.length = 16) := Lib.hid (by rw [← hMM]; exact mfill_len b 16)
            clear hMM
            go_loopw [14] (fun i wr => ∃ n : Nat, n ≤ 10 ∧ i = .int .i64 n ∧ PS w s Hc (ws M0) (ws (turns M0 V0 n)) Z8 wr) (fun i _ => 10 - (intOf i).toNat)
            case atStart => exact ⟨0, Nat.zero_le _, rfl, HPS.out⟩
            case round =>
              clear HPS
              obtain ⟨m, hm, rfl, hp⟩ := hrel
              have HPS := Lib.hid hp
              clear hp
              by_cases hlt : m < 10
              · have hlt' : (m : Int) < 10 := by omega
                have HOL : Hid ((ordN.getD m []).length = 16) := Lib.hid (ordN_len m hlt)
                have HOL2 : Hid (∀ k, (ordN.getD m []).getD k 0 < 16) := Lib.hid (ordN_lt m)
                go_wp2_with fail
                refine (order_c m _ hlt).mono ?_
                rintro e wo ⟨rfl, hbo⟩
                have HPS := Lib.hid (HPS.out.below hbo)
                clear hbo
                obtain ⟨O, hO⟩ : ∃ O, O = ordN.getD m [] := ⟨_, rfl⟩
                rw [← hO] at HOL HOL2 ⊢
                have HO := Lib.hid hO
                clear hO
                go_wp2_with (refine wpl_store_blk rfl 178 _ _ rfl wo.heap.size 178 _ (ints O) rfl rfl (Blk.new wo 178 _) (by rw [ints_size, HOL.out]; rfl) (by rw [ints_size, HOL.out]; kernel_rfl) (ints_one _) ?_; intro wq hBq hOq hzq)
                have hgo : s + 1 + 1 + 1 + 1 < wo.heap.size := HPS.out.v.lt
                have HPS := Lib.hid ((HPS.out.alloc _).newer hOq hgo)
                have HGO := Lib.hid hBq
                generalize wo.heap.size = go at hgo HGO ⊢
                clear hBq hOq hzq
                generalize hVT : turns M0 V0 m = VT at HPS
                have HVT := Lib.hid hVT
                have HVTL : Hid (VT.length = 16) := Lib.hid (by rw [← hVT, turns_len]; exact HVL0.out)
                clear hVT
                go_loopw [16] (fun i wr => ∃ k : Nat, k ≤ 8 ∧ i = .int .i64 k ∧ PS w s Hc (ws M0) (ws (turnK M0 O VT k)) Z8 wr ∧ Blk wr go 178 (ints O)) (fun i _ => 8 - (intOf i).toNat)
                case atStart => exact ⟨0, Nat.zero_le _, rfl, HPS.out, HGO.out⟩
                case round =>
                  clear HPS HGO
                  obtain ⟨k, hk, rfl, hp, hg⟩ := hrel
                  have HPS := Lib.hid hp
                  have HGO := Lib.hid hg
                  clear hp hg
                  by_cases hlt : k < 8
                  · have hlt' : (k : Int) < 8 := by omega
                    have hk0 : (0 : Int) ≤ (k : Int) := by omega
                    go_wp2_with fail
                    refine (places_c k _ hlt).mono ?_
                    rintro e wp ⟨rfl, hbp⟩
                    have HPS := Lib.hid (HPS.out.below hbp)
                    have HGO := Lib.hid (HGO.out.below hbp HGO.out.lt)
                    clear hbp
                    obtain ⟨p0, hp0⟩ : ∃ p, p = k % 4 := ⟨_, rfl⟩
                    obtain ⟨p1, hp1⟩ : ∃ p, p = 4 + (k % 4 + k / 4) % 4 := ⟨_, rfl⟩
                    obtain ⟨p2, hp2⟩ : ∃ p, p = 8 + (k % 4 + 2 * (k / 4)) % 4 := ⟨_, rfl⟩
                    obtain ⟨p3, hp3⟩ : ∃ p, p = 12 + (k % 4 + 3 * (k / 4)) % 4 := ⟨_, rfl⟩
                    have hpn : placesN k = [p0, p1, p2, p3] := by unfold placesN; rw [hp0, hp1, hp2, hp3]
                    rw [hpn]
                    have z0 : (0 : Int) ≤ (p0 : Int) := by omega
                    have z1 : (0 : Int) ≤ (p1 : Int) := by omega
                    have z2 : (0 : Int) ≤ (p2 : Int) := by omega
                    have z3 : (0 : Int) ≤ (p3 : Int) := by omega
                    have y0 : (p0 : Int) < 16 := by omega
                    have y1 : (p1 : Int) < 16 := by omega
                    have y2 : (p2 : Int) < 16 := by omega
                    have y3 : (p3 : Int) < 16 := by omega
                    have HP0 := Lib.hid hp0; have HP1 := Lib.hid hp1; have HP2 := Lib.hid hp2; have HP3 := Lib.hid hp3
                    clear hp0 hp1 hp2 hp3 hpn
                    go_wp2_with (refine wpl_store_blk rfl 180 _ _ rfl wp.heap.size 180 _ (ints [p0, p1, p2, p3]) rfl rfl (Blk.new wp 180 _) rfl (by kernel_rfl) (ints_one _) ?_; intro wq hBq hOq hzq)
                    have hgp : s + 1 + 1 + 1 + 1 < wp.heap.size := HPS.out.v.lt
                    have hgp2 : go ≠ wp.heap.size := Nat.ne_of_lt HGO.out.lt
                    have HPS := Lib.hid ((HPS.out.alloc _).newer hOq hgp)
                    have HGO := Lib.hid (hOq.blk (HGO.out.alloc _) hgp2)
                    have HGP := Lib.hid hBq
                    generalize wp.heap.size = gp at hgp hgp2 HGP ⊢
                    clear hBq hOq hzq
                    obtain ⟨V, hV⟩ : ∃ V, V = turnK M0 O VT k := ⟨_, rfl⟩
                    have hvl : V.length = 16 := by rw [hV, turnK_len]; exact HVTL.out
                    rw [← hV] at HPS
                    have HVV := Lib.hid hV
                    have HVL := Lib.hid hvl
                    clear hV hvl
                    obtain ⟨i1, hi1⟩ : ∃ i, i = O.getD (2 * k) 0 := ⟨_, rfl⟩
                    obtain ⟨i2, hi2⟩ : ∃ i, i = O.getD (2 * k + 1) 0 := ⟨_, rfl⟩
                    have l1 : i1 < 16 := by rw [hi1]; exact HOL2.out _
                    have l2 : i2 < 16 := by rw [hi2]; exact HOL2.out _
                    have l1' : (i1 : Int) < 16 := by omega
                    have l2' : (i2 : Int) < 16 := by omega
                    have m1' : (0 : Int) ≤ (i1 : Int) := by omega
                    have m2' : (0 : Int) ≤ (i2 : Int) := by omega
                    obtain ⟨x1, hx1⟩ : ∃ x, x = M0.getD i1 0#32 := ⟨_, rfl⟩
                    obtain ⟨x2, hx2⟩ : ∃ x, x = M0.getD i2 0#32 := ⟨_, rfl⟩
                    obtain ⟨a0, ha0⟩ : ∃ a, a = V.getD p0 0#32 := ⟨_, rfl⟩
                    obtain ⟨a1, ha1⟩ : ∃ a, a = V.getD p1 0#32 := ⟨_, rfl⟩
                    obtain ⟨a2, ha2⟩ : ∃ a, a = V.getD p2 0#32 := ⟨_, rfl⟩
                    obtain ⟨a3, ha3⟩ : ∃ a, a = V.getD p3 0#32 := ⟨_, rfl⟩
                    obtain ⟨q, hq⟩ : ∃ q, q = quadAt V p0 p1 p2 p3 := ⟨_, rfl⟩
                    have hqc : q.cells = #[.int .u32 (a0.toNat : Int), .int .u32 (a1.toNat : Int), .int .u32 (a2.toNat : Int), .int .u32 (a3.toNat : Int)] := by rw [hq, ha0, ha1, ha2, ha3]; rfl
                    have HQC := Lib.hid hqc
                    have HQQ := Lib.hid hq
                    have HI1 := Lib.hid hi1; have HI2 := Lib.hid hi2; have HX1 := Lib.hid hx1; have HX2 := Lib.hid hx2
                    have HA0 := Lib.hid ha0; have HA1 := Lib.hid ha1; have HA2 := Lib.hid ha2; have HA3 := Lib.hid ha3
                    clear hi1 hi2 hx1 hx2 ha0 ha1 ha2 ha3 hqc hq
                    simp only [Act.put]
                    go_upto_region 24 with (fail)
                    go_cut [18] (fun s18 wx => ∃ gq : Nat, s18 = .pointer (some ⟨gq, 0, none⟩) ∧ PS w s Hc (ws M0) (ws V) Z8 wx ∧ Blk wx go 178 (ints O) ∧ Blk wx gp 180 (ints [p0, p1, p2, p3]) ∧ Blk wx gq 182 (mix q x1 x2).cells ∧ s + 1 + 1 + 1 + 1 < gq ∧ go ≠ gq ∧ gp ≠ gq)
                    case first =>
                      have w1 : IntKind.i64.wrap (2 * (k : Int)) = 2 * (k : Int) := IntWalk.i64_in _ (by omega)
                      have w2 : IntKind.i64.wrap (2 * (k : Int) + 1) = 2 * (k : Int) + 1 := IntWalk.i64_in _ (by omega)
                      have n1 : (2 * (k : Int)).toNat = 2 * k := by omega
                      have n2 : (2 * (k : Int) + 1).toNat = 2 * k + 1 := by omega
                      have n3 : (0 : Int) ≤ 2 * (k : Int) := by omega
                      have n4 : (0 : Int) ≤ 2 * (k : Int) + 1 := by omega
                      have n5 : 2 * (k : Int) < 16 := by omega
                      have n6 : 2 * (k : Int) + 1 < 16 := by omega
                      have HPS := Lib.hid HPS.out.drew
                      have HGO := Lib.hid HGO.out.drew
                      have HGP := Lib.hid HGP.out.drew
                      have hS0 : Blk wq.drew gp 180 (ints [p0, p1, p2, p3]) ∧ Blk wq.drew (s + 1 + 1 + 1 + 1) 177 (ws V) ∧ Blk wq.drew (s + 1 + 1 + 1) 177 (ws M0) ∧ Blk wq.drew go 178 (ints O) := ⟨HGP.out, HPS.out.v, HPS.out.m, HGO.out⟩
                      refine wp_region_held_drew (S := (fun W => Blk W gp 180 (ints [p0, p1, p2, p3]) ∧ Blk W (s + 1 + 1 + 1 + 1) 177 (ws V) ∧ Blk W (s + 1 + 1 + 1) 177 (ws M0) ∧ Blk W go 178 (ints O))) (by kernel_rfl) hS0 ?_
                      intro hS0'
                      generalize wq.drew = wA at hS0' HPS HGO HGP ⊢
                      refine wpAnyH_take (i := 0) (v := .pointer (some ⟨gp, 0, none⟩)) rfl (by kernel_rfl) (by kernel_rfl) (by kernel_rfl) (fun _ _ _ h => h) (Or.inl ⟨by kernel_rfl, fun w hSw => ?_⟩) hS0' ?_
                      · go_simp
                      try simp only [Act.put, List.getElem_toArray, List.getElem_cons_succ, List.getElem_cons_zero, List.setIfInBounds_toArray, List.set_cons_zero, List.set_cons_succ]
                      refine wpAnyH_take (i := 1) (v := .int .i64 (p0 : Int)) rfl (by kernel_rfl) (by kernel_rfl) (by kernel_rfl) (fun _ _ _ h => h) (Or.inl ⟨by kernel_rfl, fun w hSw => ?_⟩) hS0' ?_
                      · have hc : w.cell? ⟨gp, 0, none⟩ = some (.int .i64 (p0 : Int)) := hSw.1.cell rfl
                        clear hSw
                        go_simp
                      try simp only [Act.put, List.getElem_toArray, List.getElem_cons_succ, List.getElem_cons_zero, List.setIfInBounds_toArray, List.set_cons_zero, List.set_cons_succ]
                      refine wpAnyH_take (i := 2) (v := .pointer (some ⟨s + 1 + 1 + 1 + 1, p0, none⟩)) rfl (by kernel_rfl) (by kernel_rfl) (by kernel_rfl) (fun _ _ _ h => h) (Or.inl ⟨by kernel_rfl, fun w hSw => ?_⟩) hS0' ?_
                      · go_simp
                      try simp only [Act.put, List.getElem_toArray, List.getElem_cons_succ, List.getElem_cons_zero, List.setIfInBounds_toArray, List.set_cons_zero, List.set_cons_succ]
                      refine wpAnyH_take (i := 3) (v := .int .u32 (a0.toNat : Int)) rfl (by kernel_rfl) (by kernel_rfl) (by kernel_rfl) (fun _ _ _ h => h) (Or.inl ⟨by kernel_rfl, fun w hSw => ?_⟩) hS0' ?_
                      · have hc : w.cell? ⟨s + 1 + 1 + 1 + 1, p0, none⟩ = some (.int .u32 (a0.toNat : Int)) := by rw [HA0.out]; exact blk_ws hSw.2.1 (by have := HVL.out; omega)
                        clear hSw
                        go_simp
                      try simp only [Act.put, List.getElem_toArray, List.getElem_cons_succ, List.getElem_cons_zero, List.setIfInBounds_toArray, List.set_cons_zero, List.set_cons_succ]
                      refine wpAnyH_take (i := 4) (v := .pointer (some ⟨gp, 1, none⟩)) rfl (by kernel_rfl) (by kernel_rfl) (by kernel_rfl) (fun _ _ _ h => h) (Or.inl ⟨by kernel_rfl, fun w hSw => ?_⟩) hS0' ?_
                      · go_simp
                      try simp only [Act.put, List.getElem_toArray, List.getElem_cons_succ, List.getElem_cons_zero, List.setIfInBounds_toArray, List.set_cons_zero, List.set_cons_succ]
                      refine wpAnyH_take (i := 5) (v := .int .i64 (p1 : Int)) rfl (by kernel_rfl) (by kernel_rfl) (by kernel_rfl) (fun _ _ _ h => h) (Or.inl ⟨by kernel_rfl, fun w hSw => ?_⟩) hS0' ?_
                      · have hc : w.cell? ⟨gp, 1, none⟩ = some (.int .i64 (p1 : Int)) := hSw.1.cell rfl
                        clear hSw
                        go_simp
                      try simp only [Act.put, List.getElem_toArray, List.getElem_cons_succ, List.getElem_cons_zero, List.setIfInBounds_toArray, List.set_cons_zero, List.set_cons_succ]
                      refine wpAnyH_take (i := 6) (v := .pointer (some ⟨s + 1 + 1 + 1 + 1, p1, none⟩)) rfl (by kernel_rfl) (by kernel_rfl) (by kernel_rfl) (fun _ _ _ h => h) (Or.inl ⟨by kernel_rfl, fun w hSw => ?_⟩) hS0' ?_
                      · go_simp
                      try simp only [Act.put, List.getElem_toArray, List.getElem_cons_succ, List.getElem_cons_zero, List.setIfInBounds_toArray, List.set_cons_zero, List.set_cons_succ]
                      refine wpAnyH_take (i := 7) (v := .int .u32 (a1.toNat : Int)) rfl (by kernel_rfl) (by kernel_rfl) (by kernel_rfl) (fun _ _ _ h => h) (Or.inl ⟨by kernel_rfl, fun w hSw => ?_⟩) hS0' ?_
                      · have hc : w.cell? ⟨s + 1 + 1 + 1 + 1, p1, none⟩ = some (.int .u32 (a1.toNat : Int)) := by rw [HA1.out]; exact blk_ws hSw.2.1 (by have := HVL.out; omega)
                        clear hSw
                        go_simp
                      try simp only [Act.put, List.getElem_toArray, List.getElem_cons_succ, List.getElem_cons_zero, List.setIfInBounds_toArray, List.set_cons_zero, List.set_cons_succ]
                      refine wpAnyH_take (i := 8) (v := .pointer (some ⟨gp, 2, none⟩)) rfl (by kernel_rfl) (by kernel_rfl) (by kernel_rfl) (fun _ _ _ h => h) (Or.inl ⟨by kernel_rfl, fun w hSw => ?_⟩) hS0' ?_
                      · go_simp
                      try simp only [Act.put, List.getElem_toArray, List.getElem_cons_succ, List.getElem_cons_zero, List.setIfInBounds_toArray, List.set_cons_zero, List.set_cons_succ]
                      refine wpAnyH_take (i := 9) (v := .int .i64 (p2 : Int)) rfl (by kernel_rfl) (by kernel_rfl) (by kernel_rfl) (fun _ _ _ h => h) (Or.inl ⟨by kernel_rfl, fun w hSw => ?_⟩) hS0' ?_
                      · have hc : w.cell? ⟨gp, 2, none⟩ = some (.int .i64 (p2 : Int)) := hSw.1.cell rfl
                        clear hSw
                        go_simp
                      try simp only [Act.put, List.getElem_toArray, List.getElem_cons_succ, List.getElem_cons_zero, List.setIfInBounds_toArray, List.set_cons_zero, List.set_cons_succ]
                      refine wpAnyH_take (i := 10) (v := .pointer (some ⟨s + 1 + 1 + 1 + 1, p2, none⟩)) rfl (by kernel_rfl) (by kernel_rfl) (by kernel_rfl) (fun _ _ _ h => h) (Or.inl ⟨by kernel_rfl, fun w hSw => ?_⟩) hS0' ?_
                      · go_simp
                      try simp only [Act.put, List.getElem_toArray, List.getElem_cons_succ, List.getElem_cons_zero, List.setIfInBounds_toArray, List.set_cons_zero, List.set_cons_succ]
                      refine wpAnyH_take (i := 11) (v := .int .u32 (a2.toNat : Int)) rfl (by kernel_rfl) (by kernel_rfl) (by kernel_rfl) (fun _ _ _ h => h) (Or.inl ⟨by kernel_rfl, fun w hSw => ?_⟩) hS0' ?_
                      · have hc : w.cell? ⟨s + 1 + 1 + 1 + 1, p2, none⟩ = some (.int .u32 (a2.toNat : Int)) := by rw [HA2.out]; exact blk_ws hSw.2.1 (by have := HVL.out; omega)
                        clear hSw
                        go_simp
                      try simp only [Act.put, List.getElem_toArray, List.getElem_cons_succ, List.getElem_cons_zero, List.setIfInBounds_toArray, List.set_cons_zero, List.set_cons_succ]
                      refine wpAnyH_take (i := 12) (v := .pointer (some ⟨gp, 3, none⟩)) rfl (by kernel_rfl) (by kernel_rfl) (by kernel_rfl) (fun _ _ _ h => h) (Or.inl ⟨by kernel_rfl, fun w hSw => ?_⟩) hS0' ?_
                      · go_simp
                      try simp only [Act.put, List.getElem_toArray, List.getElem_cons_succ, List.getElem_cons_zero, List.setIfInBounds_toArray, List.set_cons_zero, List.set_cons_succ]
                      refine wpAnyH_take (i := 13) (v := .int .i64 (p3 : Int)) rfl (by kernel_rfl) (by kernel_rfl) (by kernel_rfl) (fun _ _ _ h => h) (Or.inl ⟨by kernel_rfl, fun w hSw => ?_⟩) hS0' ?_
                      · have hc : w.cell? ⟨gp, 3, none⟩ = some (.int .i64 (p3 : Int)) := hSw.1.cell rfl
                        clear hSw
                        go_simp
                      try simp only [Act.put, List.getElem_toArray, List.getElem_cons_succ, List.getElem_cons_zero, List.setIfInBounds_toArray, List.set_cons_zero, List.set_cons_succ]
                      refine wpAnyH_take (i := 14) (v := .pointer (some ⟨s + 1 + 1 + 1 + 1, p3, none⟩)) rfl (by kernel_rfl) (by kernel_rfl) (by kernel_rfl) (fun _ _ _ h => h) (Or.inl ⟨by kernel_rfl, fun w hSw => ?_⟩) hS0' ?_
                      · go_simp
                      try simp only [Act.put, List.getElem_toArray, List.getElem_cons_succ, List.getElem_cons_zero, List.setIfInBounds_toArray, List.set_cons_zero, List.set_cons_succ]
                      refine wpAnyH_take (i := 15) (v := .int .u32 (a3.toNat : Int)) rfl (by kernel_rfl) (by kernel_rfl) (by kernel_rfl) (fun _ _ _ h => h) (Or.inl ⟨by kernel_rfl, fun w hSw => ?_⟩) hS0' ?_
                      · have hc : w.cell? ⟨s + 1 + 1 + 1 + 1, p3, none⟩ = some (.int .u32 (a3.toNat : Int)) := by rw [HA3.out]; exact blk_ws hSw.2.1 (by have := HVL.out; omega)
                        clear hSw
                        go_simp
                      try simp only [Act.put, List.getElem_toArray, List.getElem_cons_succ, List.getElem_cons_zero, List.setIfInBounds_toArray, List.set_cons_zero, List.set_cons_succ]
                      refine wpAnyH_take (i := 16) (v := .agg #[.int .u32 (a0.toNat : Int), .int .u32 (a1.toNat : Int), .int .u32 (a2.toNat : Int), .int .u32 (a3.toNat : Int)]) rfl (by kernel_rfl) (by kernel_rfl) (by kernel_rfl) (fun _ _ _ h => h) (Or.inl ⟨by kernel_rfl, fun w hSw => ?_⟩) hS0' ?_
                      · go_simp
                      try simp only [Act.put, List.getElem_toArray, List.getElem_cons_succ, List.getElem_cons_zero, List.setIfInBounds_toArray, List.set_cons_zero, List.set_cons_succ]
                      refine wpAnyH_take (i := 17) (v := .int .i64 (k : Int)) rfl (by kernel_rfl) (by kernel_rfl) (by kernel_rfl) (fun _ _ _ h => h) (Or.inl ⟨by kernel_rfl, fun w hSw => ?_⟩) hS0' ?_
                      · go_simp
                      try simp only [Act.put, List.getElem_toArray, List.getElem_cons_succ, List.getElem_cons_zero, List.setIfInBounds_toArray, List.set_cons_zero, List.set_cons_succ]
                      refine wpAnyH_take (i := 18) (v := .int .i64 (2 * (k : Int))) rfl (by kernel_rfl) (by kernel_rfl) (by kernel_rfl) (fun _ _ _ h => h) (Or.inl ⟨by kernel_rfl, fun w hSw => ?_⟩) hS0' ?_
                      · go_simp
                      try simp only [Act.put, List.getElem_toArray, List.getElem_cons_succ, List.getElem_cons_zero, List.setIfInBounds_toArray, List.set_cons_zero, List.set_cons_succ]
                      refine wpAnyH_take (i := 19) (v := .pointer (some ⟨go, 2 * k, none⟩)) rfl (by kernel_rfl) (by kernel_rfl) (by kernel_rfl) (fun _ _ _ h => h) (Or.inl ⟨by kernel_rfl, fun w hSw => ?_⟩) hS0' ?_
                      · go_simp
                      try simp only [Act.put, List.getElem_toArray, List.getElem_cons_succ, List.getElem_cons_zero, List.setIfInBounds_toArray, List.set_cons_zero, List.set_cons_succ]
                      refine wpAnyH_take (i := 20) (v := .int .i64 (i1 : Int)) rfl (by kernel_rfl) (by kernel_rfl) (by kernel_rfl) (fun _ _ _ h => h) (Or.inl ⟨by kernel_rfl, fun w hSw => ?_⟩) hS0' ?_
                      · have hc : w.cell? ⟨go, 2 * k, none⟩ = some (.int .i64 (i1 : Int)) := by rw [HI1.out]; exact blk_ints hSw.2.2.2 (by have := HOL.out; omega)
                        clear hSw
                        go_simp
                      try simp only [Act.put, List.getElem_toArray, List.getElem_cons_succ, List.getElem_cons_zero, List.setIfInBounds_toArray, List.set_cons_zero, List.set_cons_succ]
                      refine wpAnyH_take (i := 21) (v := .pointer (some ⟨s + 1 + 1 + 1, i1, none⟩)) rfl (by kernel_rfl) (by kernel_rfl) (by kernel_rfl) (fun _ _ _ h => h) (Or.inl ⟨by kernel_rfl, fun w hSw => ?_⟩) hS0' ?_
                      · go_simp
                      try simp only [Act.put, List.getElem_toArray, List.getElem_cons_succ, List.getElem_cons_zero, List.setIfInBounds_toArray, List.set_cons_zero, List.set_cons_succ]
                      refine wpAnyH_take (i := 22) (v := .int .u32 (x1.toNat : Int)) rfl (by kernel_rfl) (by kernel_rfl) (by kernel_rfl) (fun _ _ _ h => h) (Or.inl ⟨by kernel_rfl, fun w hSw => ?_⟩) hS0' ?_
                      · have hc : w.cell? ⟨s + 1 + 1 + 1, i1, none⟩ = some (.int .u32 (x1.toNat : Int)) := by rw [HX1.out]; exact blk_ws hSw.2.2.1 (by have := HML.out; omega)
                        clear hSw
                        go_simp
                      try simp only [Act.put, List.getElem_toArray, List.getElem_cons_succ, List.getElem_cons_zero, List.setIfInBounds_toArray, List.set_cons_zero, List.set_cons_succ]
                      refine wpAnyH_take (i := 23) (v := .int .i64 (k : Int)) rfl (by kernel_rfl) (by kernel_rfl) (by kernel_rfl) (fun _ _ _ h => h) (Or.inl ⟨by kernel_rfl, fun w hSw => ?_⟩) hS0' ?_
                      · go_simp
                      try simp only [Act.put, List.getElem_toArray, List.getElem_cons_succ, List.getElem_cons_zero, List.setIfInBounds_toArray, List.set_cons_zero, List.set_cons_succ]
                      refine wpAnyH_take (i := 24) (v := .int .i64 (2 * (k : Int))) rfl (by kernel_rfl) (by kernel_rfl) (by kernel_rfl) (fun _ _ _ h => h) (Or.inl ⟨by kernel_rfl, fun w hSw => ?_⟩) hS0' ?_
                      · go_simp
                      try simp only [Act.put, List.getElem_toArray, List.getElem_cons_succ, List.getElem_cons_zero, List.setIfInBounds_toArray, List.set_cons_zero, List.set_cons_succ]
                      refine wpAnyH_take (i := 25) (v := .int .i64 (2 * (k : Int) + 1)) rfl (by kernel_rfl) (by kernel_rfl) (by kernel_rfl) (fun _ _ _ h => h) (Or.inl ⟨by kernel_rfl, fun w hSw => ?_⟩) hS0' ?_
                      · go_simp
                      try simp only [Act.put, List.getElem_toArray, List.getElem_cons_succ, List.getElem_cons_zero, List.setIfInBounds_toArray, List.set_cons_zero, List.set_cons_succ]
                      refine wpAnyH_take (i := 26) (v := .pointer (some ⟨go, 2 * k + 1, none⟩)) rfl (by kernel_rfl) (by kernel_rfl) (by kernel_rfl) (fun _ _ _ h => h) (Or.inl ⟨by kernel_rfl, fun w hSw => ?_⟩) hS0' ?_
                      · go_simp
                      try simp only [Act.put, List.getElem_toArray, List.getElem_cons_succ, List.getElem_cons_zero, List.setIfInBounds_toArray, List.set_cons_zero, List.set_cons_succ]
                      refine wpAnyH_take (i := 27) (v := .int .i64 (i2 : Int)) rfl (by kernel_rfl) (by kernel_rfl) (by kernel_rfl) (fun _ _ _ h => h) (Or.inl ⟨by kernel_rfl, fun w hSw => ?_⟩) hS0' ?_
                      · have hc : w.cell? ⟨go, 2 * k + 1, none⟩ = some (.int .i64 (i2 : Int)) := by rw [HI2.out]; exact blk_ints hSw.2.2.2 (by have := HOL.out; omega)
                        clear hSw
                        go_simp
                      try simp only [Act.put, List.getElem_toArray, List.getElem_cons_succ, List.getElem_cons_zero, List.setIfInBounds_toArray, List.set_cons_zero, List.set_cons_succ]
                      refine wpAnyH_take (i := 28) (v := .pointer (some ⟨s + 1 + 1 + 1, i2, none⟩)) rfl (by kernel_rfl) (by kernel_rfl) (by kernel_rfl) (fun _ _ _ h => h) (Or.inl ⟨by kernel_rfl, fun w hSw => ?_⟩) hS0' ?_
                      · go_simp
                      try simp only [Act.put, List.getElem_toArray, List.getElem_cons_succ, List.getElem_cons_zero, List.setIfInBounds_toArray, List.set_cons_zero, List.set_cons_succ]
                      refine wpAnyH_take (i := 29) (v := .int .u32 (x2.toNat : Int)) rfl (by kernel_rfl) (by kernel_rfl) (by kernel_rfl) (fun _ _ _ h => h) (Or.inl ⟨by kernel_rfl, fun w hSw => ?_⟩) hS0' ?_
                      · have hc : w.cell? ⟨s + 1 + 1 + 1, i2, none⟩ = some (.int .u32 (x2.toNat : Int)) := by rw [HX2.out]; exact blk_ws hSw.2.2.1 (by have := HML.out; omega)
                        clear hSw
                        go_simp
                      try simp only [Act.put, List.getElem_toArray, List.getElem_cons_succ, List.getElem_cons_zero, List.setIfInBounds_toArray, List.set_cons_zero, List.set_cons_succ]
                      refine wpAnyH_ready (rs := [30, 31]) (by kernel_rfl) (by simp) ?_
                      refine AllReadyH.cons (by rfl) ?_ ?_
                      · intro K hK
                        go_simp
                        rw [← HQC.out]
                        refine (rmix_c q x1 x2 _).mono ?_
                        rintro e wC ⟨rfl, hb⟩
                        have HPS := Lib.hid (HPS.out.below hb)
                        have HGO := Lib.hid (HGO.out.below hb HGO.out.lt)
                        have HGP := Lib.hid (HGP.out.below hb HGP.out.lt)
                        refine hK.out _ _ ⟨HGP.out, HPS.out.v, HPS.out.m, HGO.out⟩ (fun hS1 => ?_)
                        clear hK K
                        refine wpAnyH_ready (rs := [31]) (by kernel_rfl) (by simp) ?_
                        refine AllReadyH.cons (by rfl) ?_ AllReadyH.nil
                        intro K hK
                        go_simp
                        have hgq1 : s + 1 + 1 + 1 + 1 < wC.heap.size := HPS.out.v.lt
                        have hgq2 : go ≠ wC.heap.size := Nat.ne_of_lt HGO.out.lt
                        have hgq3 : gp ≠ wC.heap.size := Nat.ne_of_lt HGP.out.lt
                        have hgq := Blk.new wC 182 #[.int .u32 0, .int .u32 0, .int .u32 0, .int .u32 0]
                        have hp1 := HPS.out.alloc (.cells #[.int .u32 0, .int .u32 0, .int .u32 0, .int .u32 0] 182)
                        have hg1 := HGO.out.alloc (.cells #[.int .u32 0, .int .u32 0, .int .u32 0, .int .u32 0] 182)
                        have hg2 := HGP.out.alloc (.cells #[.int .u32 0, .int .u32 0, .int .u32 0, .int .u32 0] 182)
                        generalize wC.heap.size = gq at hgq1 hgq2 hgq3 hgq ⊢
                        generalize (World.alloc _ _) = wD at hgq hp1 hg1 hg2 ⊢
                        have HPS := Lib.hid hp1
                        have HGO := Lib.hid hg1
                        have HGP := Lib.hid hg2
                        have HGQ := Lib.hid hgq
                        clear hp1 hg1 hg2 hgq
                        refine hK.out _ _ ⟨HGP.out, HPS.out.v, HPS.out.m, HGO.out⟩ (fun hS2 => ?_)
                        clear hK K
                        refine wpAnyH_ready (rs := [32]) (by kernel_rfl) (by simp) ?_
                        refine all_readyH_yes (by rfl) (by kernel_rfl) ?_ AllReadyH.nil
                        intro K hK
                        with_reducible refine wp_store_blk 182 (.tmp 18) (.tmp 132) ?_ gq 182 _ (mix q x1 x2).cells ?_ ?_ HGQ.out ?_ (Quad.info _) (Quad.one _) ?_
                        · kernel_rfl
                        · kernel_rfl
                        · kernel_rfl
                        · rfl
                        intro w6 hB6 hO6 hz6
                        try simp only [Act.put, List.getElem_toArray, List.getElem_cons_succ, List.getElem_cons_zero, List.setIfInBounds_toArray, List.set_cons_zero, List.set_cons_succ]
                        have HPS := Lib.hid (HPS.out.newer hO6 hgq1)
                        have HGO := Lib.hid (hO6.blk HGO.out hgq2)
                        have HGP := Lib.hid (hO6.blk HGP.out hgq3)
                        have HGQ := Lib.hid hB6
                        refine hK.out _ _ ⟨HGP.out, HPS.out.v, HPS.out.m, HGO.out⟩ (fun hS7 => ?_)
                        clear hK K
                        refine wpAnyH_done (by kernel_rfl) ?_ _
                        go_wp2_with fail
                        go_meet
                        exact ⟨gq, rfl, HPS.out, HGO.out, HGP.out, HGQ.out, hgq1, hgq2, hgq3⟩
                      refine AllReadyH.cons (by rfl) ?_ AllReadyH.nil
                      intro K hK
                      go_simp
                      have hgq1 : s + 1 + 1 + 1 + 1 < wA.heap.size := HPS.out.v.lt
                      have hgq2 : go ≠ wA.heap.size := Nat.ne_of_lt HGO.out.lt
                      have hgq3 : gp ≠ wA.heap.size := Nat.ne_of_lt HGP.out.lt
                      have hgq := Blk.new wA 182 #[.int .u32 0, .int .u32 0, .int .u32 0, .int .u32 0]
                      have hp1 := HPS.out.alloc (.cells #[.int .u32 0, .int .u32 0, .int .u32 0, .int .u32 0] 182)
                      have hg1 := HGO.out.alloc (.cells #[.int .u32 0, .int .u32 0, .int .u32 0, .int .u32 0] 182)
                      have hg2 := HGP.out.alloc (.cells #[.int .u32 0, .int .u32 0, .int .u32 0, .int .u32 0] 182)
                      generalize wA.heap.size = gq at hgq1 hgq2 hgq3 hgq ⊢
                      generalize (World.alloc _ _) = wD at hgq hp1 hg1 hg2 ⊢
                      have HPS := Lib.hid hp1
                      have HGO := Lib.hid hg1
                      have HGP := Lib.hid hg2
                      have HGQ := Lib.hid hgq
                      clear hp1 hg1 hg2 hgq
                      refine hK.out _ _ ⟨HGP.out, HPS.out.v, HPS.out.m, HGO.out⟩ (fun hS2 => ?_)
                      clear hK K
                      refine wpAnyH_ready (rs := [30]) (by kernel_rfl) (by simp) ?_
                      refine AllReadyH.cons (by rfl) ?_ AllReadyH.nil
                      intro K hK
                      go_simp
                      rw [← HQC.out]
                      refine (rmix_c q x1 x2 _).mono ?_
                      rintro e wC ⟨rfl, hb⟩
                      have HPS := Lib.hid (HPS.out.below hb)
                      have HGO := Lib.hid (HGO.out.below hb HGO.out.lt)
                      have HGP := Lib.hid (HGP.out.below hb HGP.out.lt)
                      have HGQ := Lib.hid (HGQ.out.below hb HGQ.out.lt)
                      refine hK.out _ _ ⟨HGP.out, HPS.out.v, HPS.out.m, HGO.out⟩ (fun hS1 => ?_)
                      clear hK K
                      refine wpAnyH_ready (rs := [32]) (by kernel_rfl) (by simp) ?_
                      refine all_readyH_yes (by rfl) (by kernel_rfl) ?_ AllReadyH.nil
                      intro K hK
                      with_reducible refine wp_store_blk 182 (.tmp 18) (.tmp 132) ?_ gq 182 _ (mix q x1 x2).cells ?_ ?_ HGQ.out ?_ (Quad.info _) (Quad.one _) ?_
                      · kernel_rfl
                      · kernel_rfl
                      · kernel_rfl
                      · rfl
                      intro w6 hB6 hO6 hz6
                      try simp only [Act.put, List.getElem_toArray, List.getElem_cons_succ, List.getElem_cons_zero, List.setIfInBounds_toArray, List.set_cons_zero, List.set_cons_succ]
                      have HPS := Lib.hid (HPS.out.newer hO6 hgq1)
                      have HGO := Lib.hid (hO6.blk HGO.out hgq2)
                      have HGP := Lib.hid (hO6.blk HGP.out hgq3)
                      have HGQ := Lib.hid hB6
                      refine hK.out _ _ ⟨HGP.out, HPS.out.v, HPS.out.m, HGO.out⟩ (fun hS7 => ?_)
                      clear hK K
                      refine wpAnyH_done (by kernel_rfl) ?_ _
                      go_wp2_with fail
                      go_meet
                      exact ⟨gq, rfl, HPS.out, HGO.out, HGP.out, HGQ.out, hgq1, hgq2, hgq3⟩
                    case rest =>
                      clear HPS HGO HGP
                      obtain ⟨gq, rfl, hp, hg, hgpp, hgq, hq1, hq2, hq3⟩ := hcut
                      have HPS := Lib.hid hp
                      have HGO := Lib.hid hg
                      have HGP := Lib.hid hgpp
                      obtain ⟨r, hr⟩ : ∃ r, r = mix q x1 x2 := ⟨_, rfl⟩
                      rw [← hr] at hgq
                      have HRR := Lib.hid hr
                      have HGQ := Lib.hid hgq
                      clear hp hg hgpp hgq hr
                      go_wp2_with fail
                      have HPS := Lib.hid HPS.out.drew
                      have HGO := Lib.hid HGO.out.drew
                      have HGP := Lib.hid HGP.out.drew
                      have HGQ := Lib.hid HGQ.out.drew
                      have hS0 : Blk wc.drew gp 180 (ints [p0, p1, p2, p3]) ∧ Blk wc.drew gq 182 r.cells := ⟨HGP.out, HGQ.out⟩
                      refine wp_region_held_drew (S := (fun W => Blk W gp 180 (ints [p0, p1, p2, p3]) ∧ Blk W gq 182 r.cells)) (by kernel_rfl) hS0 ?_
                      intro hS0'
                      generalize wc.drew = wA at hS0' HPS HGO HGP HGQ ⊢
                      refine wpAnyH_take (i := 0) (v := .pointer (some ⟨gp, 0, none⟩)) rfl (by kernel_rfl) (by kernel_rfl) (by kernel_rfl) (fun _ _ _ h => h) (Or.inl ⟨by kernel_rfl, fun w hSw => ?_⟩) hS0' ?_
                      · go_simp
                      try simp only [Act.put, List.getElem_toArray, List.getElem_cons_succ, List.getElem_cons_zero, List.setIfInBounds_toArray, List.set_cons_zero, List.set_cons_succ]
                      refine wpAnyH_take (i := 1) (v := .int .i64 (p0 : Int)) rfl (by kernel_rfl) (by kernel_rfl) (by kernel_rfl) (fun _ _ _ h => h) (Or.inl ⟨by kernel_rfl, fun w hSw => ?_⟩) hS0' ?_
                      · have hc : w.cell? ⟨gp, 0, none⟩ = some (.int .i64 (p0 : Int)) := hSw.1.cell rfl
                        clear hSw
                        go_simp
                      try simp only [Act.put, List.getElem_toArray, List.getElem_cons_succ, List.getElem_cons_zero, List.setIfInBounds_toArray, List.set_cons_zero, List.set_cons_succ]
                      refine wpAnyH_take (i := 2) (v := .pointer (some ⟨gp, 1, none⟩)) rfl (by kernel_rfl) (by kernel_rfl) (by kernel_rfl) (fun _ _ _ h => h) (Or.inl ⟨by kernel_rfl, fun w hSw => ?_⟩) hS0' ?_
                      · go_simp
                      try simp only [Act.put, List.getElem_toArray, List.getElem_cons_succ, List.getElem_cons_zero, List.setIfInBounds_toArray, List.set_cons_zero, List.set_cons_succ]
                      refine wpAnyH_take (i := 3) (v := .int .i64 (p1 : Int)) rfl (by kernel_rfl) (by kernel_rfl) (by kernel_rfl) (fun _ _ _ h => h) (Or.inl ⟨by kernel_rfl, fun w hSw => ?_⟩) hS0' ?_
                      · have hc : w.cell? ⟨gp, 1, none⟩ = some (.int .i64 (p1 : Int)) := hSw.1.cell rfl
                        clear hSw
                        go_simp
                      try simp only [Act.put, List.getElem_toArray, List.getElem_cons_succ, List.getElem_cons_zero, List.setIfInBounds_toArray, List.set_cons_zero, List.set_cons_succ]
                      refine wpAnyH_take (i := 4) (v := .pointer (some ⟨gp, 2, none⟩)) rfl (by kernel_rfl) (by kernel_rfl) (by kernel_rfl) (fun _ _ _ h => h) (Or.inl ⟨by kernel_rfl, fun w hSw => ?_⟩) hS0' ?_
                      · go_simp
                      try simp only [Act.put, List.getElem_toArray, List.getElem_cons_succ, List.getElem_cons_zero, List.setIfInBounds_toArray, List.set_cons_zero, List.set_cons_succ]
                      refine wpAnyH_take (i := 5) (v := .int .i64 (p2 : Int)) rfl (by kernel_rfl) (by kernel_rfl) (by kernel_rfl) (fun _ _ _ h => h) (Or.inl ⟨by kernel_rfl, fun w hSw => ?_⟩) hS0' ?_
                      · have hc : w.cell? ⟨gp, 2, none⟩ = some (.int .i64 (p2 : Int)) := hSw.1.cell rfl
                        clear hSw
                        go_simp
                      try simp only [Act.put, List.getElem_toArray, List.getElem_cons_succ, List.getElem_cons_zero, List.setIfInBounds_toArray, List.set_cons_zero, List.set_cons_succ]
                      refine wpAnyH_take (i := 6) (v := .pointer (some ⟨gp, 3, none⟩)) rfl (by kernel_rfl) (by kernel_rfl) (by kernel_rfl) (fun _ _ _ h => h) (Or.inl ⟨by kernel_rfl, fun w hSw => ?_⟩) hS0' ?_
                      · go_simp
                      try simp only [Act.put, List.getElem_toArray, List.getElem_cons_succ, List.getElem_cons_zero, List.setIfInBounds_toArray, List.set_cons_zero, List.set_cons_succ]
                      refine wpAnyH_take (i := 7) (v := .int .i64 (p3 : Int)) rfl (by kernel_rfl) (by kernel_rfl) (by kernel_rfl) (fun _ _ _ h => h) (Or.inl ⟨by kernel_rfl, fun w hSw => ?_⟩) hS0' ?_
                      · have hc : w.cell? ⟨gp, 3, none⟩ = some (.int .i64 (p3 : Int)) := hSw.1.cell rfl
                        clear hSw
                        go_simp
                      try simp only [Act.put, List.getElem_toArray, List.getElem_cons_succ, List.getElem_cons_zero, List.setIfInBounds_toArray, List.set_cons_zero, List.set_cons_succ]
                      refine wpAnyH_take (i := 8) (v := .pointer (some ⟨gq, 0, none⟩)) rfl (by kernel_rfl) (by kernel_rfl) (by kernel_rfl) (fun _ _ _ h => h) (Or.inl ⟨by kernel_rfl, fun w hSw => ?_⟩) hS0' ?_
                      · go_simp
                      try simp only [Act.put, List.getElem_toArray, List.getElem_cons_succ, List.getElem_cons_zero, List.setIfInBounds_toArray, List.set_cons_zero, List.set_cons_succ]
                      refine wpAnyH_take (i := 9) (v := .int .u32 (r.a.toNat : Int)) rfl (by kernel_rfl) (by kernel_rfl) (by kernel_rfl) (fun _ _ _ h => h) (Or.inl ⟨by kernel_rfl, fun w hSw => ?_⟩) hS0' ?_
                      · have hc : w.cell? ⟨gq, 0, none⟩ = some (.int .u32 (r.a.toNat : Int)) := hSw.2.cell rfl
                        clear hSw
                        go_simp
                      try simp only [Act.put, List.getElem_toArray, List.getElem_cons_succ, List.getElem_cons_zero, List.setIfInBounds_toArray, List.set_cons_zero, List.set_cons_succ]
                      refine wpAnyH_take (i := 10) (v := .pointer (some ⟨gq, 1, none⟩)) rfl (by kernel_rfl) (by kernel_rfl) (by kernel_rfl) (fun _ _ _ h => h) (Or.inl ⟨by kernel_rfl, fun w hSw => ?_⟩) hS0' ?_
                      · go_simp
                      try simp only [Act.put, List.getElem_toArray, List.getElem_cons_succ, List.getElem_cons_zero, List.setIfInBounds_toArray, List.set_cons_zero, List.set_cons_succ]
                      refine wpAnyH_take (i := 11) (v := .int .u32 (r.b.toNat : Int)) rfl (by kernel_rfl) (by kernel_rfl) (by kernel_rfl) (fun _ _ _ h => h) (Or.inl ⟨by kernel_rfl, fun w hSw => ?_⟩) hS0' ?_
                      · have hc : w.cell? ⟨gq, 1, none⟩ = some (.int .u32 (r.b.toNat : Int)) := hSw.2.cell rfl
                        clear hSw
                        go_simp
                      try simp only [Act.put, List.getElem_toArray, List.getElem_cons_succ, List.getElem_cons_zero, List.setIfInBounds_toArray, List.set_cons_zero, List.set_cons_succ]
                      refine wpAnyH_take (i := 12) (v := .pointer (some ⟨gq, 2, none⟩)) rfl (by kernel_rfl) (by kernel_rfl) (by kernel_rfl) (fun _ _ _ h => h) (Or.inl ⟨by kernel_rfl, fun w hSw => ?_⟩) hS0' ?_
                      · go_simp
                      try simp only [Act.put, List.getElem_toArray, List.getElem_cons_succ, List.getElem_cons_zero, List.setIfInBounds_toArray, List.set_cons_zero, List.set_cons_succ]
                      refine wpAnyH_take (i := 13) (v := .int .u32 (r.c.toNat : Int)) rfl (by kernel_rfl) (by kernel_rfl) (by kernel_rfl) (fun _ _ _ h => h) (Or.inl ⟨by kernel_rfl, fun w hSw => ?_⟩) hS0' ?_
                      · have hc : w.cell? ⟨gq, 2, none⟩ = some (.int .u32 (r.c.toNat : Int)) := hSw.2.cell rfl
                        clear hSw
                        go_simp
                      try simp only [Act.put, List.getElem_toArray, List.getElem_cons_succ, List.getElem_cons_zero, List.setIfInBounds_toArray, List.set_cons_zero, List.set_cons_succ]
                      refine wpAnyH_take (i := 14) (v := .pointer (some ⟨gq, 3, none⟩)) rfl (by kernel_rfl) (by kernel_rfl) (by kernel_rfl) (fun _ _ _ h => h) (Or.inl ⟨by kernel_rfl, fun w hSw => ?_⟩) hS0' ?_
                      · go_simp
                      try simp only [Act.put, List.getElem_toArray, List.getElem_cons_succ, List.getElem_cons_zero, List.setIfInBounds_toArray, List.set_cons_zero, List.set_cons_succ]
                      refine wpAnyH_take (i := 15) (v := .int .u32 (r.d.toNat : Int)) rfl (by kernel_rfl) (by kernel_rfl) (by kernel_rfl) (fun _ _ _ h => h) (Or.inl ⟨by kernel_rfl, fun w hSw => ?_⟩) hS0' ?_
                      · have hc : w.cell? ⟨gq, 3, none⟩ = some (.int .u32 (r.d.toNat : Int)) := hSw.2.cell rfl
                        clear hSw
                        go_simp
                      try simp only [Act.put, List.getElem_toArray, List.getElem_cons_succ, List.getElem_cons_zero, List.setIfInBounds_toArray, List.set_cons_zero, List.set_cons_succ]
                      refine wpAnyH_take (i := 16) (v := .pointer (some ⟨s + 1 + 1 + 1 + 1, p0, none⟩)) rfl (by kernel_rfl) (by kernel_rfl) (by kernel_rfl) (fun _ _ _ h => h) (Or.inl ⟨by kernel_rfl, fun w hSw => ?_⟩) hS0' ?_
                      · go_simp
                      try simp only [Act.put, List.getElem_toArray, List.getElem_cons_succ, List.getElem_cons_zero, List.setIfInBounds_toArray, List.set_cons_zero, List.set_cons_succ]
                      refine wpAnyH_ready (rs := [17]) (by kernel_rfl) (by simp) ?_
                      refine AllReadyH.cons (by rfl) ?_ AllReadyH.nil
                      intro K hK
                      have fv := HPS.out.v.frozen p0
                      have cv := blk_ws HPS.out.v (k := p0) (by have := HVL.out; simp; omega)
                      go_simp
                      have HPS := Lib.hid (HPS.out.set p0 r.a)
                      have HGP := Lib.hid (HGP.out.far (p := ⟨s + 1 + 1 + 1 + 1, p0, none⟩) (Nat.ne_of_gt hgp) (.int .u32 (r.a.toNat : Int)))
                      have HGQ := Lib.hid (HGQ.out.far (p := ⟨s + 1 + 1 + 1 + 1, p0, none⟩) (Nat.ne_of_gt hq1) (.int .u32 (r.a.toNat : Int)))
                      have HGO := Lib.hid (HGO.out.far (p := ⟨s + 1 + 1 + 1 + 1, p0, none⟩) (Nat.ne_of_gt hgo) (.int .u32 (r.a.toNat : Int)))
                      generalize (World.setCell _ _ _) = wS0 at HPS HGP HGQ HGO ⊢
                      refine hK.out _ _ ⟨HGP.out, HGQ.out⟩ (fun hS1 => ?_)
                      clear hK K
                      refine wpAnyH_take (i := 18) (v := .pointer (some ⟨s + 1 + 1 + 1 + 1, p1, none⟩)) rfl (by kernel_rfl) (by kernel_rfl) (by kernel_rfl) (fun _ _ _ h => h) (Or.inl ⟨by kernel_rfl, fun w hSw => ?_⟩) hS1 ?_
                      · go_simp
                      try simp only [Act.put, List.getElem_toArray, List.getElem_cons_succ, List.getElem_cons_zero, List.setIfInBounds_toArray, List.set_cons_zero, List.set_cons_succ]
                      refine wpAnyH_ready (rs := [19]) (by kernel_rfl) (by simp) ?_
                      refine AllReadyH.cons (by rfl) ?_ AllReadyH.nil
                      intro K hK
                      have fv := HPS.out.v.frozen p1
                      have cv := blk_ws HPS.out.v (k := p1) (by have := HVL.out; simp; omega)
                      go_simp
                      have HPS := Lib.hid (HPS.out.set p1 r.b)
                      have HGP := Lib.hid (HGP.out.far (p := ⟨s + 1 + 1 + 1 + 1, p1, none⟩) (Nat.ne_of_gt hgp) (.int .u32 (r.b.toNat : Int)))
                      have HGQ := Lib.hid (HGQ.out.far (p := ⟨s + 1 + 1 + 1 + 1, p1, none⟩) (Nat.ne_of_gt hq1) (.int .u32 (r.b.toNat : Int)))
                      have HGO := Lib.hid (HGO.out.far (p := ⟨s + 1 + 1 + 1 + 1, p1, none⟩) (Nat.ne_of_gt hgo) (.int .u32 (r.b.toNat : Int)))
                      generalize (World.setCell _ _ _) = wS1 at HPS HGP HGQ HGO ⊢
                      refine hK.out _ _ ⟨HGP.out, HGQ.out⟩ (fun hS2 => ?_)
                      clear hK K
                      refine wpAnyH_take (i := 20) (v := .pointer (some ⟨s + 1 + 1 + 1 + 1, p2, none⟩)) rfl (by kernel_rfl) (by kernel_rfl) (by kernel_rfl) (fun _ _ _ h => h) (Or.inl ⟨by kernel_rfl, fun w hSw => ?_⟩) hS2 ?_
                      · go_simp
                      try simp only [Act.put, List.getElem_toArray, List.getElem_cons_succ, List.getElem_cons_zero, List.setIfInBounds_toArray, List.set_cons_zero, List.set_cons_succ]
                      refine wpAnyH_ready (rs := [21]) (by kernel_rfl) (by simp) ?_
                      refine AllReadyH.cons (by rfl) ?_ AllReadyH.nil
                      intro K hK
                      have fv := HPS.out.v.frozen p2
                      have cv := blk_ws HPS.out.v (k := p2) (by have := HVL.out; simp; omega)
                      go_simp
                      have HPS := Lib.hid (HPS.out.set p2 r.c)
                      have HGP := Lib.hid (HGP.out.far (p := ⟨s + 1 + 1 + 1 + 1, p2, none⟩) (Nat.ne_of_gt hgp) (.int .u32 (r.c.toNat : Int)))
                      have HGQ := Lib.hid (HGQ.out.far (p := ⟨s + 1 + 1 + 1 + 1, p2, none⟩) (Nat.ne_of_gt hq1) (.int .u32 (r.c.toNat : Int)))
                      have HGO := Lib.hid (HGO.out.far (p := ⟨s + 1 + 1 + 1 + 1, p2, none⟩) (Nat.ne_of_gt hgo) (.int .u32 (r.c.toNat : Int)))
                      generalize (World.setCell _ _ _) = wS2 at HPS HGP HGQ HGO ⊢
                      refine hK.out _ _ ⟨HGP.out, HGQ.out⟩ (fun hS3 => ?_)
                      clear hK K
                      refine wpAnyH_take (i := 22) (v := .pointer (some ⟨s + 1 + 1 + 1 + 1, p3, none⟩)) rfl (by kernel_rfl) (by kernel_rfl) (by kernel_rfl) (fun _ _ _ h => h) (Or.inl ⟨by kernel_rfl, fun w hSw => ?_⟩) hS3 ?_
                      · go_simp
                      try simp only [Act.put, List.getElem_toArray, List.getElem_cons_succ, List.getElem_cons_zero, List.setIfInBounds_toArray, List.set_cons_zero, List.set_cons_succ]
                      refine wpAnyH_ready (rs := [23]) (by kernel_rfl) (by simp) ?_
                      refine AllReadyH.cons (by rfl) ?_ AllReadyH.nil
                      intro K hK
                      have fv := HPS.out.v.frozen p3
                      have cv := blk_ws HPS.out.v (k := p3) (by have := HVL.out; simp; omega)
                      go_simp
                      have HPS := Lib.hid (HPS.out.set p3 r.d)
                      have HGP := Lib.hid (HGP.out.far (p := ⟨s + 1 + 1 + 1 + 1, p3, none⟩) (Nat.ne_of_gt hgp) (.int .u32 (r.d.toNat : Int)))
                      have HGQ := Lib.hid (HGQ.out.far (p := ⟨s + 1 + 1 + 1 + 1, p3, none⟩) (Nat.ne_of_gt hq1) (.int .u32 (r.d.toNat : Int)))
                      have HGO := Lib.hid (HGO.out.far (p := ⟨s + 1 + 1 + 1 + 1, p3, none⟩) (Nat.ne_of_gt hgo) (.int .u32 (r.d.toNat : Int)))
                      generalize (World.setCell _ _ _) = wS3 at HPS HGP HGQ HGO ⊢
                      refine hK.out _ _ ⟨HGP.out, HGQ.out⟩ (fun hS4 => ?_)
                      clear hK K
                      refine wpAnyH_done (by kernel_rfl) ?_ _
                      go_wp2_with fail
                      go_roundw
                      case rel =>
                        refine ⟨k + 1, by omega, by go_num, ?_, HGO.out⟩
                        rw [turnK, ← HVV.out, roundAt, ← HI1.out, ← HI2.out, ← HX1.out, ← HX2.out, ← HP1.out, ← HP2.out, ← HP3.out, ← HP0.out, mixAt, ← HQQ.out, ← HRR.out]
                        exact HPS.out
                      case measure => simp [intOf]; omega
                  · obtain rfl : k = 8 := by omega
                    go_wp2_with fail
                    go_roundw
                    case rel =>
                      refine ⟨m + 1, by omega, by go_num, ?_⟩
                      have := HPS.out
                      rw [turns, HVT.out, ← HO.out]
                      exact this
                    case measure => simp [intOf]; omega
              · obtain rfl : m = 10 := by omega
                go_wp2_with fail
                rw [show ((10 : Nat) : Int) = 10 from rfl]
                generalize hVE : turns M0 V0 10 = VE at HPS
                have HVE := Lib.hid hVE
                have HVEL : Hid (VE.length = 16) := Lib.hid (by rw [← hVE, turns_len]; exact HVL0.out)
                clear hVE
                have HFL : Hid (∀ k, (fin h VE k).length = 8) := Lib.hid (fun k => by rw [fin_len]; exact HL8.out)
                go_loopw [19] (fun i wr => ∃ k : Nat, k ≤ 8 ∧ i = .int .i64 k ∧ PS w s (ws (fin h VE k)) (ws M0) (ws VE) Z8 wr) (fun i _ => 8 - (intOf i).toNat)
                case atStart => exact ⟨0, Nat.zero_le _, rfl, by rw [fin, ← HHc.out]; exact HPS.out⟩
                case round =>
                  clear HPS
                  obtain ⟨k, hk, rfl, hp⟩ := hrel
                  have HPS := Lib.hid hp
                  clear hp
                  by_cases hlt : k < 8
                  · have hlt' : (k : Int) < 8 := by omega
                    have hk0 : (0 : Int) ≤ (k : Int) := by omega
                    have hk8 : (k : Int) + 8 < 16 := by omega
                    have hk16 : (k : Int) < 16 := by omega
                    go_wp2_with fail
                    have ch := blk_ws HPS.out.h (k := k) (by have := HFL.out k; omega)
                    have c1 := blk_ws HPS.out.v (k := k) (by have := HVEL.out; omega)
                    have c2 := blk_ws HPS.out.v (k := k + 8) (by have := HVEL.out; omega)
                    have fh := HPS.out.h.frozen k
                    obtain ⟨x, hx⟩ : ∃ x, x = (fin h VE k).getD k 0#32 := ⟨_, rfl⟩
                    obtain ⟨y, hy⟩ : ∃ y, y = VE.getD k 0#32 := ⟨_, rfl⟩
                    obtain ⟨z, hz⟩ : ∃ z, z = VE.getD (k + 8) 0#32 := ⟨_, rfl⟩
                    rw [← hx] at ch
                    rw [← hy] at c1
                    rw [← hz] at c2
                    have HX := Lib.hid hx; have HY := Lib.hid hy; have HZZ := Lib.hid hz
                    have x1 := bxq x y
                    have x2 := bxq (x ^^^ y) z
                    obtain ⟨a, ha⟩ : ∃ a, a = x ^^^ y := ⟨_, rfl⟩
                    rw [← ha] at x1 x2
                    obtain ⟨r, hr⟩ : ∃ r, r = a ^^^ z := ⟨_, rfl⟩
                    rw [← hr] at x2
                    have HA := Lib.hid ha; have HR := Lib.hid hr
                    clear hx hy hz ha hr
                    have v1 : IntKind.i64.wrap ((k : Int) + 8) = (k : Int) + 8 := IntWalk.i64_in _ (by omega)
                    have v2 : ((k : Int) + 8).toNat = k + 8 := by omega
                    have v3 : (0 : Int) ≤ (k : Int) + 8 := by omega
                    go_still_tail 13, (by kernel_rfl)
                    change wpList _ _ _ _ _ wr.drew
                    have HPS := Lib.hid HPS.out.drew
                    clear ch c1 c2 fh
                    have fh := HPS.out.h.frozen k
                    have ch := blk_ws HPS.out.h (k := k) (by have := HFL.out k; omega)
                    rw [← HX.out] at ch
                    have HPS2 := Lib.hid (HPS.out.end_ ((Only.refl s wr.drew).setCell (p := ⟨s, k, none⟩) (.inl rfl) (.int .u32 (r.toNat : Int))) (blk_ws_set HPS.out.h k r))
                    generalize wr.drew = wd at HPS HPS2 ch fh ⊢
                    go_wp2_with fail
                    clear v1 v2
                    go_roundw
                    case rel =>
                      refine ⟨k + 1, by omega, by go_num, ?_⟩
                      have := HPS2.out
                      rw [fin, ← HX.out, ← HY.out, ← HZZ.out, ← BitVec.xor_assoc, ← HA.out, ← HR.out]
                      exact this
                    case measure => simp [intOf]; omega
                  · obtain rfl : k = 8 := by omega
                    have hfin : fin h VE 8 = press h b n last := by
                      unfold press
                      rw [← HVE.out, ← HMM.out, ← HV0.out]
                    rw [hfin] at HPS
                    clear hfin
                    go_wp2_with (first | (refine wpl_load_blk rfl 161 _ rfl s rfl 161 _ _ HPS.out.h Tryz.underlying161 rfl (by rw [ws_size, press_len, HL8.out]; kernel_rfl) ?_) | (refine wpl_store_blk rfl 161 _ _ rfl (s + 1 + 1) 161 Z8 _ rfl rfl HPS.out.r (by rw [HZ8.out, ws_size, press_len, HL8.out]; rfl) (by rw [ws_size, press_len, HL8.out]; kernel_rfl) (ws_one _) ?_; intro w6 hB6 hO6 hz6))
                    exact bodyPost_ret (results_cell_row rfl _ _ (s + 1 + 1) 161 _ (0, 0) _ rfl hB6 Tryz.underlying161 rfl (by rw [ws_size, press_len, HL8.out]; kernel_rfl)) rfl ⟨rfl, by rw [← Hs.out]; exact HPS.out.b.trans (hO6.below (Nat.le_of_lt HPS.out.h.lt) (by omega))⟩
end Go.Proofs.YtomnjhhpeglcnaaGreat

namespace Go.Proofs.YtomnjhhpeglcnaaGreat
open Go.RowKit
set_option maxRecDepth 100000
set_option linter.unusedSimpArgs false
set_option linter.unusedVariables false

/-- A word as a cell. -/
def wcell (x : Wo) : Value := .int .u32 (x.toNat : Int)
/-- A state's cells, and what lies behind them. -/
def scells (h : List Wo) (n : Nat) (rest : List Value) : Array Value := (h.map wcell ++ .int .u64 (n : Int) :: rest).toArray
section
variable {h : List Wo} {n : Nat} {rest : List Value}
theorem scells_word (hh : h.length = 8) {k : Nat} (hk : k < 8) : (scells h n rest)[k]? = some (.int .u32 ((h.getD k 0#32).toNat : Int)) := by
  simp [scells, List.getElem?_append_left, hh, hk, wcell]
theorem scells_n (hh : h.length = 8) : (scells h n rest)[8]? = some (.int .u64 (n : Int)) := by
  simp [scells]
  rw [List.getElem?_append_right (by simp [hh])]
  simp [hh]
theorem scells_rest (hh : h.length = 8) (k : Nat) : (scells h n rest)[9 + k]? = rest[k]? := by
  simp [scells]
  rw [List.getElem?_append_right (by simp [hh]; omega)]
  simp only [List.length_map, hh]
  rw [show 9 + k - 8 = k + 1 by omega, List.getElem?_cons_succ]
theorem scells_size (hh : h.length = 8) : (scells h n rest).size = 9 + rest.length := by
  simp [scells, hh]; omega
theorem scells_setn (hh : h.length = 8) (m : Nat) : (scells h n rest).setIfInBounds 8 (.int .u64 (m : Int)) = scells h m rest := by
  simp only [scells, List.setIfInBounds_toArray]
  congr 1
  rw [List.set_append_right _ _ (by simp [hh])]
  simp [hh]
theorem scells_setw (hh : h.length = 8) (k : Nat) (hk : k < 8) (x : Wo) : (scells h n rest).setIfInBounds k (.int .u32 (x.toNat : Int)) = scells (h.set k x) n rest := by
  simp only [scells, List.setIfInBounds_toArray]
  congr 1
  rw [List.set_append_left _ _ (by simp [hh, hk]), List.map_set]
  rfl
theorem scells_rest_set (hh : h.length = 8) (k : Nat) (v : Value) : (scells h n rest).setIfInBounds (9 + k) v = scells h n (rest.set k v) := by
  simp only [scells, List.setIfInBounds_toArray]
  congr 1
  rw [List.set_append_right _ _ (by simp [hh]; omega)]
  simp only [List.length_map, hh]
  rw [show 9 + k - 8 = k + 1 by omega, List.set_cons_succ]
end
/-- The words of a state, as a range of its block. -/
theorem range_words {w : World} {g : Nat} {t : TypeId} {h : List Wo} {n : Nat} {rest : List Value} (hb : Blk w g t (scells h n rest)) (hh : h.length = 8) : w.rangeAt g 0 (ws h).toList := by
  have := World.rangeAt_of_block hb 0 8
  have e : ((scells h n rest).extract 0 (0 + 8)).toList = (ws h).toList := by
    simp [scells, ws, List.take_append_of_le_length, hh]
    intro a _; rfl
  rwa [e] at this
theorem there_words {w : World} {g : Nat} {t : TypeId} {h : List Wo} {n : Nat} {rest : List Value} (hb : Blk w g t (scells h n rest)) (hh : h.length = 8) : w.there g 0 8 := fun j hj => by
  rw [Nat.zero_add]
  exact ⟨by rw [hb.cell (scells_word hh hj)]; rfl, hb.frozen j⟩
/-- Words stored into a state. -/
theorem set_words {t : TypeId} {n : Nat} {rest : List Value} (g : Nat) (h h' : List Wo) (w : World) (hb : Blk w g t (scells h n rest)) (hh : h.length = 8) (hh' : h'.length = 8) :
    Blk (w.setCells g 0 (ws h').toList) g t (scells h' n rest) ∧ Only g w (w.setCells g 0 (ws h').toList) ∧ (w.setCells g 0 (ws h').toList).heap.size = w.heap.size := by
  obtain ⟨cs', h1, h2, h3, h4, h5⟩ := setCells_blk g t (ws h').toList 0 w _ hb
  have e : cs' = scells h' n rest := by
    apply Array.ext_getElem?
    intro i
    rw [h3 i]
    by_cases hi : i < 8
    · rw [if_pos ⟨Nat.zero_le _, by simp [ws, hh', hi], by rw [scells_size hh]; omega⟩, scells_word hh' hi]
      have := ws_get (l := h') (k := i) (by omega)
      simpa using this
    · rw [if_neg (by simp [ws, hh']; omega)]
      by_cases h8 : i = 8
      · subst h8; rw [scells_n hh, scells_n hh']
      · obtain ⟨k, rfl⟩ : ∃ k, i = 9 + k := ⟨i - 9, by omega⟩
        rw [scells_rest hh, scells_rest hh']
  subst e
  exact ⟨h1, h4, h5⟩
theorem wp_store_words {P : Program} {op : Oper} {a : Act} {w : World} {K : Act → World → Prop} {Q : Exit → Act → World → Prop} (ty : TypeId) (x y : Operand) (ho : op.op = .store ty x y)
    (g : Nat) {t : TypeId} {n : Nat} {rest : List Value} (h h' : List Wo) (hx : a.eval x = .pointer (some ⟨g, 0, none⟩)) (hy : a.eval y = .agg (ws h')) (hb : Blk w g t (scells h n rest)) (hh : h.length = 8) (hh' : h'.length = 8)
    (hi : (P.info? ty).map (·.size) = some 8)
    (hK : ∀ w', Blk w' g t (scells h' n rest) → Only g w w' → w'.heap.size = w.heap.size → K (a.put op.dst undef) w') : op.wp P a w K Q := by
  obtain ⟨k1, k2, k3⟩ := set_words g h h' w hb hh hh'
  have hs : (ws h').size = 8 := by rw [ws_size, hh']
  exact wp_store_mid ty x y ho g 0 (ws h') hx hy (by rw [hs]; exact there_words hb hh) (by rw [hs]; exact hi) (ws_one _) (hK _ k1 k2 k3)

/-! ### Bytes copied into a block -/
theorem splice_bya (d l : List By) : ((bl d).take 0 ++ bl l ++ (bl d).drop (0 + (bl l).length)).toArray = bya (l ++ d.drop l.length) := by
  simp [bya, bl, List.map_drop]
theorem bya_bl (l : List By) : bya l = (bl l).toArray := rfl
theorem run_copy_bys (w : World) (ty : TypeId) (gb : Nat) (d : List By) (t : TypeId) (a : Option Addr) (m c dl dc : Nat) (l : List By) (hb : Blk w gb t (bya d)) (hl : Bys w a m l) (hm : m ≤ dl) (hd : dl ≤ d.length) :
    ∃ w', (Builtin.copy_ #[40, 40] ty #[.slice (some ⟨gb, 0, none⟩) dl dc, .slice a m c]).run Tryz.prog w = .ok (goInt m) w' ∧ Blk w' gb t (bya (l ++ d.drop m)) ∧ Only gb w w' ∧ w'.heap.size = w.heap.size := by
  have hsz : (Tryz.prog.info? 5).map (·.size) = some 1 := by kernel_rfl
  by_cases h0 : m = 0
  · subst h0
    have hn : l = [] := List.eq_nil_of_length_eq_zero hl.1
    subst hn
    exact ⟨w, run_copy_none w 40 40 ty 5 _ a dl dc 0 c Tryz.underlying40 hsz (by simp), by simpa using hb, Only.refl _ _, rfl⟩
  · obtain ⟨g, off, rfl, hg, hc⟩ := hl.cells (by omega)
    have hml := hl.1
    have hrun := run_copy_row (P := Tryz.prog) w 40 40 ty 5 gb 0 dl dc ⟨g, off, none⟩ m c (bya d) t (bl l) Tryz.underlying40 hsz hb (by rw [bl_len, hml]; exact (Nat.min_eq_left hm).symm) (fun j v hv => by
      rw [add_plain]
      simp only [bl, List.getElem?_map, Option.map_eq_some_iff] at hv
      obtain ⟨x, hx, rfl⟩ := hv
      exact hc j x hx) (by rw [bl_len, bya_size]; omega) (bl_one l)
    rw [bl_len, hml] at hrun
    refine ⟨_, hrun, ?_, setRow_only _ _ _, setRow_size _ _ _⟩
    have := setRow_blk hb (t := t) ((bya d).toList.take 0 ++ bl l ++ (bya d).toList.drop (0 + m)).toArray
    have e := splice_bya d l
    rw [bl_len, hml] at e
    have e2 : (bya d).toList = bl d := rfl
    rw [e2, e] at this
    rw [e2, e]
    exact this
theorem wp_copy_bys {o : Oper} {a : Act} {w : World} {K : Act → World → Prop} {Q : Exit → Act → World → Prop} (d s : Operand)
    (ho : o.op = .call { callee := .builtin .copy, args := #[d, s], argTypes := #[40, 40] })
    (gb : Nat) (D : List By) (t : TypeId) (ad : Option Addr) (m c dl dc : Nat) (l : List By) (hd : a.eval d = .slice (some ⟨gb, 0, none⟩) dl dc) (hs : a.eval s = .slice ad m c) (hb : Blk w gb t (bya D)) (hl : Bys w ad m l) (hm : m ≤ dl) (hD : dl ≤ D.length)
    (h : ∀ w', Blk w' gb t (bya (l ++ D.drop m)) → Only gb w w' → w'.heap.size = w.heap.size → K (a.put o.dst (.int .i64 (m : Int))) w') : o.wp Tryz.prog a w K Q := by
  obtain ⟨w', hrun, h2, h3, h4⟩ := run_copy_bys w o.type gb D t ad m c dl dc l hb hl hm hD
  unfold Oper.wp execOp
  simp only [ho, resolve, invoke, builtin, Sem.run_bind, Sem.run_pure, Result.andThen_ok, List.map_toArray, List.map_cons, List.map_nil, hd, hs, hrun]
  exact h w' h2 h3 h4
theorem wpl_copy_bys {ops : Array Oper} {rest : List Oper} {o : Oper} {a : Act} {w : World} {Q : Exit → Act → World → Prop} (hgd : o.guard = none) (d s : Operand)
    (ho : o.op = .call { callee := .builtin .copy, args := #[d, s], argTypes := #[40, 40] })
    (gb : Nat) (D : List By) (t : TypeId) (ad : Option Addr) (m c dl dc : Nat) (l : List By) (hd : a.eval d = .slice (some ⟨gb, 0, none⟩) dl dc) (hs : a.eval s = .slice ad m c) (hb : Blk w gb t (bya D)) (hl : Bys w ad m l) (hm : m ≤ dl) (hD : dl ≤ D.length)
    (h : ∀ w', Blk w' gb t (bya (l ++ D.drop m)) → Only gb w w' → w'.heap.size = w.heap.size → wpList Tryz.prog ops Q rest (a.put o.dst (.int .i64 (m : Int))) w') : wpList Tryz.prog ops Q (o :: rest) a w :=
  wpList_plain hgd fun _ hK => wp_copy_bys d s ho gb D t ad m c dl dc l hd hs hb hl hm hD fun w' h2 h3 h4 => hK _ _ (h w' h2 h3 h4)
theorem Bys.only {w w' : World} {a : Option Addr} {n g : Nat} {l : List By} (h : Bys w a n l) (hO : Only g w w') (hg : ∀ x off, a = some ⟨x, off, none⟩ → 0 < n → x ≠ g) : Bys w' a n l := by
  refine ⟨h.1, fun i c hi => ?_⟩
  obtain ⟨x, off, e, hx, hc⟩ := h.2 i c hi
  have hn : 0 < n := by have := (List.getElem?_eq_some_iff.1 hi).1; have := h.1; omega
  exact ⟨x, off, e, Nat.lt_of_lt_of_le hx hO.size, (World.cell?_of_block (a := ⟨x, off + i, none⟩) (hO.block x hx (fun e' => hg x off e hn (by injection e')))).trans hc⟩
/-- A block's bytes, with noughts behind. -/
def pad (l : List By) : List By := l ++ List.replicate (64 - l.length) 0#8
theorem pad_len (l : List By) (h : l.length ≤ 64) : (pad l).length = 64 := by simp [pad]; omega
theorem pad_copy (l : List By) (h : l.length ≤ 64) : l ++ (List.replicate 64 0#8).drop l.length = pad l := by
  rw [pad, List.drop_replicate]
theorem zero28 (w : World) : (zeroValue 151).run Tryz.prog w = .ok (.agg (bya (List.replicate 64 0#8))) w := by kernel_rfl
end Go.Proofs.YtomnjhhpeglcnaaGreat
