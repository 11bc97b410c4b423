/- Contracts: the document's reader. -/
import Derived.Test.YtomnjhhpeglcnaaGreatZm
import Derived.RegionTactic
import Derived.BigRegion
import Derived.Deep.Cut
namespace Go.Proofs.YtomnjhhpeglcnaaGreat
open Go.RowKit
set_option linter.unusedSimpArgs false
set_option linter.unusedVariables false
set_option maxRecDepth 100000

theorem blk2 (w : World) (t1 t2 : TypeId) (c1 c2 : Array Value) :
    Blk ((w.alloc (.cells c1 t1)).alloc (.cells c2 t2)) w.heap.size t1 c1 ∧ Blk ((w.alloc (.cells c1 t1)).alloc (.cells c2 t2)) (w.heap.size + 1) t2 c2 ∧
    Below w.heap.size w ((w.alloc (.cells c1 t1)).alloc (.cells c2 t2)) ∧ ((w.alloc (.cells c1 t1)).alloc (.cells c2 t2)).heap.size = w.heap.size + 2 :=
  ⟨(Blk.new w t1 c1).alloc _, Blk.new2 w _ t2 c2, ((Below.refl _ _).alloc (Nat.le_refl _) _).alloc (by simp) _, by simp⟩
/-- The document's reader as a value. -/
def RV (w : World) (v : Value) (s : RS) : Prop := ∃ a c, v = .agg #[.slice a s.l.length c, .int .i64 s.e] ∧ Bys w a s.l.length s.l ∧ s.l.length ≤ c
theorem RV.below {w w' : World} {v : Value} {s : RS} (h : RV w v s) (hb : Below w.heap.size w w') : RV w' v s := by
  obtain ⟨a, c, e, h2, h3⟩ := h
  exact ⟨a, c, e, h2.below hb, h3⟩
theorem RV.fail (w : World) : RV w (.agg #[.slice none 0 0, .int .i64 120]) RS.fail := ⟨none, 0, rfl, Bys.nil, Nat.le_refl _⟩
theorem rfail_c (a : Option Addr) (n c : Nat) (e0 : Int) (w : World) :
    Calls Tryz.prog 62 #[.agg #[.slice a n c, .int .i64 e0]] w fun e w' => e = .returned (.tuple #[.agg #[.slice none 0 0, .int .i64 120], .int .i64 120]) ∧ Below w.heap.size w w' := by
  go_enter Tryz.func62, Tryz.ntmps62
  go_wp2
  refine bodyPost_ret (v := .tuple #[.agg #[.slice none 0 0, .int .i64 120], .int .i64 120]) (by simp [results, Tryz.results62, go_sem]) rfl ⟨rfl, ?_⟩
  exact ((Below.refl _ _).alloc (Nat.le_refl _) _).alloc (by simp) _

/-- What the document's reader answers. -/
def RNum (w : World) (s : RS) (most : Int) (e : Ending) (w' : World) : Prop := (∃ v, e = .returned (.tuple #[v, .int .i64 ((rnum s most).2.1 : Int), .int .i64 (rnum s most).2.2]) ∧ RV w' v (rnum s most).1) ∧ Below w.heap.size w w'
set_option maxHeartbeats 2000000 in
theorem rr_number (v : Value) (s : RS) (most : Int) (w : World) (h : RV w v s) (hl : s.l.length ≤ 1000000000) :
    Calls Tryz.prog 39 #[v, .int .i64 most] w (RNum w s most) := by
  obtain ⟨a, c, rfl, h2, h3⟩ := h
  have H2 := Lib.hid h2
  have hbl := takeB_bound s.l
  obtain ⟨m, hm⟩ : ∃ m, m = s.l.length := ⟨_, rfl⟩
  rw [← hm] at hl h3 ⊢
  have HM := Lib.hid hm
  have HBL := Lib.hid hbl
  have HB2 := Lib.hid (blk2 w 78 78 #[.slice a m c, .int .i64 s.e] #[.slice none 0 0, .int .i64 0])
  clear h2 hm hbl
  by_cases he : s.e = 0
  case neg =>
    have HR := Lib.hid (rnum_err (most := most) he)
    have q : (s.e != 0) = true := by simpa using he
    clear he
    go_enter Tryz.func39, Tryz.ntmps39
    go_wp2_with fail
    go_region
    go_wp2_with fail
    refine bodyPost_ret (v := .tuple #[.agg #[.slice a m c, .int .i64 s.e], .int .i64 0, .int .i64 s.e]) (by simp [results, Tryz.results39, go_sem]) rfl ?_
    have hB : Below w.heap.size w ((w.alloc (.cells #[.slice a m c, .int .i64 s.e] 78)).alloc (.cells #[.slice a m c, .int .i64 s.e] 78)).drew := (((Below.refl _ _).alloc (Nat.le_refl _) _).alloc (by simp) _).drew
    refine ⟨⟨_, by rw [HR.out]; rfl, ?_⟩, hB⟩
    rw [HR.out]
    exact ⟨a, c, by rw [HM.out], H2.out.below hB, by rw [← HM.out]; exact h3⟩
  case pos =>
    rw [he]
    have HE := Lib.hid he; clear he
    by_cases hlow : most < 0
    · have HR := Lib.hid (rnum_low HE.out hlow)
      go_enter Tryz.func39, Tryz.ntmps39
      go_wp2_with fail
      refine bodyPost_ret (v := .tuple #[.agg #[.slice a m c, .int .i64 0], .int .i64 0, .int .i64 2]) (by simp [results, Tryz.results39, go_sem]) rfl ?_
      have hB : Below w.heap.size w ((w.alloc (.cells #[.slice a m c, .int .i64 0] 78)).alloc (.cells #[.slice a m c, .int .i64 0] 78)) := ((Below.refl _ _).alloc (Nat.le_refl _) _).alloc (by simp) _
      refine ⟨⟨_, by rw [HR.out]; rfl, ?_⟩, hB⟩
      rw [HR.out]
      exact ⟨a, c, by rw [HM.out, HE.out], H2.out.below hB, by rw [← HM.out]; exact h3⟩
    · have hHL := HB2.out
      rw [HE.out] at hHL
      have HB3 := Lib.hid hHL
      obtain ⟨k, hk⟩ : ∃ k, k = (takeB s.l).2 := ⟨_, rfl⟩
      obtain ⟨x, hx⟩ : ∃ x, x = (takeB s.l).1 := ⟨_, rfl⟩
      have HK := Lib.hid hk; have HX := Lib.hid hx
      clear hk hx hHL
      have hHM := HM.out
      cases hc : canNum s most
      · have HR := Lib.hid (rnum_bad HE.out hlow hc)
        have hc2 : k ≤ 0 ∨ most < (x : Int) := by rw [HK.out, HX.out]; exact (canNum_iff s most).1 hc
        clear hc hHM
        go_enter Tryz.func39, Tryz.ntmps39
        go_wp2_with fail
        generalize (World.alloc _ _) = W0 at HB3 ⊢
        obtain ⟨b1, b3, b5, b6⟩ := HB3.out
        have B3 := Lib.hid b3; have B1 := Lib.hid b1; have B5 := Lib.hid b5
        refine (rtake_c a m c s.l _ (by rw [HM.out]; exact H2.out.below b5) hl).mono ?_
        rintro e w' ⟨rfl, rfl⟩
        rw [← HX.out, ← HK.out]
        have c0 : W0.cell? ⟨w.heap.size, 0, none⟩ = some (.slice a m c) := b1.cell (i := 0) rfl
        have c1 : W0.cell? ⟨w.heap.size, 1, none⟩ = some (.int .i64 0) := b1.cell (i := 1) rfl
        clear b1 b3 b5 HB2 HB3
        have hz : W0.heap.size = w.heap.size + 2 := b6
        clear b6
        have HZ := Lib.hid hz; clear hz
        by_cases k0 : k ≤ 0
        case' neg => have r1 : decide (most < (x : Int)) = true := decide_eq_true (by omega)
        all_goals
          clear hc2
          go_wp2_with fail
          refine (rfail_c a m c 0 _).mono ?_
          rintro e w3 ⟨rfl, hb⟩
          have HB := Lib.hid (B5.out.trans (hb.mono (by have := HZ.out; omega)))
          have b3 := B3.out.below hb B3.out.lt
          have B3' := Lib.hid b3
          have hz3 := hb.size
          have d0 : w3.cell? ⟨w.heap.size + 1, 0, none⟩ = some (.slice none 0 0) := b3.cell (i := 0) rfl
          have d1 : w3.cell? ⟨w.heap.size + 1, 1, none⟩ = some (.int .i64 0) := b3.cell (i := 1) rfl
          have g0 := b3.frozen 0
          have g1 := b3.frozen 1
          have hzz := HZ.out
          have hl1 : w.heap.size + 1 < w3.heap.size := by omega
          have hl2 : w.heap.size + 1 ≠ w3.heap.size := by omega
          clear b3 hb c0 c1 hzz
          go_wp2_with fail
          have k5 := ((B3'.out.set 0 (.slice none 0 0)).set 1 (.int .i64 120)).alloc (.cells #[.slice none 0 0, .int .i64 120] 78)
          have HBB := Lib.hid (((HB.out.setCell (p := ⟨w.heap.size + 1, 0, none⟩) (by simp) (.slice none 0 0)).setCell (p := ⟨w.heap.size + 1, 1, none⟩) (by simp) (.int .i64 120)).alloc (by simp; omega) (.cells #[.slice none 0 0, .int .i64 120] 78))
          generalize (World.alloc _ _) = w5 at k5 HBB ⊢
          have c5 : w5.cell? ⟨w.heap.size + 1, 0, none⟩ = some (.slice none 0 0) := k5.cell (i := 0) rfl
          have c6 : w5.cell? ⟨w.heap.size + 1, 1, none⟩ = some (.int .i64 120) := k5.cell (i := 1) rfl
          refine bodyPost_ret (v := .tuple #[.agg #[.slice none 0 0, .int .i64 120], .int .i64 0, .int .i64 120]) (by simp [results, Tryz.results39, go_sem, c5, c6]) rfl ?_
          refine ⟨⟨_, by rw [HR.out]; rfl, ?_⟩, HBB.out⟩
          rw [HR.out]
          exact RV.fail _
      · have HR := Lib.hid (rnum_ok HE.out hlow hc)
        have hc2 := hc
        unfold canNum at hc2
        rw [← HK.out, ← HX.out, Bool.and_eq_true, decide_eq_true_eq, decide_eq_true_eq] at hc2
        have hbl := HBL.out
        rw [← HK.out, ← HX.out, ← hHM] at hbl
        obtain ⟨j, rfl⟩ : ∃ j : Nat, k = (j : Int) := ⟨k.toNat, by omega⟩
        have hj : j ≤ m := by omega
        have hnil : a = none → m = 0 := by
          rintro rfl
          rcases Nat.eq_zero_or_pos m with e | e
          · exact e
          · obtain ⟨g, off, e', _⟩ := H2.out.cells (by omega); cases e'
        obtain ⟨A, C, hrun, hAC, hA⟩ := slice_low a m c j hj h3 hnil
        have HA := Lib.hid hA
        have r0 : ¬ ((j : Int) ≤ 0) := by omega
        have r1 : decide (most < (x : Int)) = false := decide_eq_false (by omega)
        have hHM2 := Lib.hid hHM
        clear hc hHM hA hc2 hbl hnil
        go_enter Tryz.func39, Tryz.ntmps39
        go_wp2_with fail
        generalize (World.alloc _ _) = W0 at HB3 ⊢
        obtain ⟨b1, b3, b5, b6⟩ := HB3.out
        have B3 := Lib.hid b3; have B5 := Lib.hid b5
        refine (rtake_c a m c s.l _ (by rw [HM.out]; exact H2.out.below b5) hl).mono ?_
        rintro e w' ⟨rfl, rfl⟩
        rw [← HX.out, ← HK.out]
        have c0 : W0.cell? ⟨w.heap.size, 0, none⟩ = some (.slice a m c) := b1.cell (i := 0) rfl
        have d0 : W0.cell? ⟨w.heap.size + 1, 0, none⟩ = some (.slice none 0 0) := b3.cell (i := 0) rfl
        have d1 : W0.cell? ⟨w.heap.size + 1, 1, none⟩ = some (.int .i64 0) := b3.cell (i := 1) rfl
        have g0 := b3.frozen 0
        have g1 := b3.frozen 1
        clear b1 b3 b5 HB2 HB3
        have HZ := Lib.hid b6; clear b6
        go_wp2_with fail
        have k5 := (B3.out.set 0 (.slice A (m - j) C)).set 1 (.int .i64 0)
        have HBB := Lib.hid ((B5.out.setCell (p := ⟨w.heap.size + 1, 0, none⟩) (by simp) (.slice A (m - j) C)).setCell (p := ⟨w.heap.size + 1, 1, none⟩) (by simp) (.int .i64 0))
        generalize (World.setCell _ _ _) = w5 at k5 HBB ⊢
        have c5 : w5.cell? ⟨w.heap.size + 1, 0, none⟩ = some (.slice A (m - j) C) := k5.cell (i := 0) rfl
        have c6 : w5.cell? ⟨w.heap.size + 1, 1, none⟩ = some (.int .i64 0) := k5.cell (i := 1) rfl
        refine bodyPost_ret (v := .tuple #[.agg #[.slice A (m - j) C, .int .i64 0], .int .i64 (x : Int), .int .i64 0]) (by simp [results, Tryz.results39, go_sem, c5, c6]) rfl ?_
        refine ⟨⟨_, by rw [HR.out, HX.out], ?_⟩, HBB.out⟩
        rw [HR.out]
        have e1 : (takeB s.l).2.toNat = j := by rw [← HK.out]; simp
        have hb := HA.out w5 s.l (by rw [hHM2.out]; exact H2.out.below HBB.out)
        have e2 : (s.l.drop j).length = m - j := by rw [List.length_drop, ← hHM2.out]
        refine ⟨A, C, ?_, ?_, ?_⟩
        · simp only [e1, e2]
        · simp only [e1, e2]; exact hb
        · simp only [e1, e2]; exact hAC
end Go.Proofs.YtomnjhhpeglcnaaGreat
