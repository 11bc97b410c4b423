/- Contracts: Mix, the reference's Mix. -/
import Derived.Test.YticgknjjhkgggaaWa
namespace Go.Proofs.Yticgknjjhkgggaa
open Go.RowKit

theorem info23 : (Try.prog.info? 23).map (·.size) = some 4 := by kernel_rfl
theorem Quad.one (q : Quad) : q.cells.all (·.oneCell') = true := by simp [Quad.cells, Value.oneCell']
theorem Quad.info (q : Quad) : (Try.prog.info? 23).map (·.size) = some q.cells.size := info23
theorem below2 (w : World) (o o' : Obj) : Below w.heap.size w ((w.alloc o).alloc o') := ((Below.refl _ _).alloc (Nat.le_refl _) _).alloc (by simp) _

set_option maxHeartbeats 1000000 in
theorem mix_c (q : Quad) (x y : Wo) (w : World) :
    Calls Try.prog 10 #[.agg q.cells, .int .u32 (x.toNat : Int), .int .u32 (y.toNat : Int)] w fun e w' => e = .returned (.agg (mix q x y).cells) ∧ Below w.heap.size w w' := by
  have hmf : ∀ (fn : Fn) (first cap : Array Value) (w : World), (Instr.makeFunc fn first cap).run Try.prog w = .ok (.func fn first cap) w := fun _ _ _ _ => rfl
  have hb1 := (Blk.new w 23 q.cells).alloc (.cells #[.int .u32 0, .int .u32 0, .int .u32 0, .int .u32 0] 23)
  have hb2 := Blk.new2 w (.cells q.cells 23) 23 #[.int .u32 0, .int .u32 0, .int .u32 0, .int .u32 0]
  have hbb := below2 w (.cells q.cells 23) (.cells #[.int .u32 0, .int .u32 0, .int .u32 0, .int .u32 0] 23)
  obtain ⟨cs, hcs⟩ : ∃ cs, cs = q.cells := ⟨_, rfl⟩
  rw [← hcs] at hb1 hb2 hbb ⊢
  have HCS := Lib.hid hcs; clear hcs
  go_enter Try.func10, Try.ntmps10
  go_wp2_with fail
  clear hmf
  generalize (World.alloc _ _) = w2 at hb1 hb2 hbb ⊢
  rw [HCS.out] at hb1
  have H1 := Lib.hid hb1; have H2 := Lib.hid hb2; have HB := Lib.hid hbb
  clear hb1 hb2 hbb
  refine (half_c w.heap.size q x 16 12 _ H1.out (by decide) (by decide) (by decide) (by decide)).mono ?_
  rintro e w3 ⟨rfl, hq, hO⟩
  have H3 := Lib.hid hq
  have H4 := Lib.hid (hO.blk H2.out (by omega))
  have HB3 := Lib.hid (HB.out.trans (hO.below HB.out.size (Nat.le_refl _)))
  clear hq hO
  go_wp2_with fail
  refine (half_c w.heap.size _ y 8 7 _ H3.out (by decide) (by decide) (by decide) (by decide)).mono ?_
  rintro e w5 ⟨rfl, hq, hO⟩
  have H5 : Hid (Blk w5 w.heap.size 23 (mix q x y).cells) := Lib.hid hq
  have H6 := Lib.hid (hO.blk H4.out (by omega))
  have HB5 := Lib.hid (HB3.out.trans (hO.below HB3.out.size (Nat.le_refl _)))
  clear hq hO
  go_wp2_with (first | (refine wpl_load_blk rfl 23 _ rfl w.heap.size rfl 23 _ _ H5.out Try.underlying23 rfl (Quad.info _) ?_) | (refine wpl_store_blk rfl 23 _ _ rfl (w.heap.size + 1) 23 _ _ rfl rfl H6.out rfl (Quad.info _) (Quad.one _) ?_; intro w6 hB6 hO6 hz6))
  exact bodyPost_ret (results_cell_row rfl _ _ (w.heap.size + 1) 23 _ (0, 0) _ rfl hB6 Try.underlying23 rfl (Quad.info _)) rfl ⟨rfl, HB5.out.trans (hO6.below HB5.out.size (by omega))⟩

set_option maxHeartbeats 2000000 in
theorem rmix_c (q : Quad) (x y : Wo) (w : World) :
    Calls Try.prog 11 #[.agg q.cells, .int .u32 (x.toNat : Int), .int .u32 (y.toNat : Int)] w fun e w' => e = .returned (.agg (mix q x y).cells) ∧ Below w.heap.size w w' := by
  obtain ⟨a, b, c, d⟩ := q
  have hbb := below2 w (.cells (Quad.cells ⟨a, b, c, d⟩) 23) (.cells #[.int .u32 0, .int .u32 0, .int .u32 0, .int .u32 0] 23)
  have hb2 := Blk.new2 w (.cells (Quad.cells ⟨a, b, c, d⟩) 23) 23 #[.int .u32 0, .int .u32 0, .int .u32 0, .int .u32 0]
  unfold Quad.cells at hbb hb2
  have HB := Lib.hid hbb; have H2 := Lib.hid hb2
  clear hbb hb2
  rw [show (Quad.cells ⟨a, b, c, d⟩) = #[.int .u32 (a.toNat : Int), .int .u32 (b.toNat : Int), .int .u32 (c.toNat : Int), .int .u32 (d.toNat : Int)] from rfl]
  go_enter Try.func11, Try.ntmps11
  have e11 := add32 a b
  obtain ⟨s1, hs1⟩ : ∃ v, v = a + b := ⟨_, rfl⟩
  rw [← hs1] at e11
  have e12 := add32 s1 x
  obtain ⟨a1, ha1⟩ : ∃ v, v = s1 + x := ⟨_, rfl⟩
  rw [← ha1] at e12
  have e13 := bx d a1
  obtain ⟨p1, hp1⟩ : ∃ v, v = d ^^^ a1 := ⟨_, rfl⟩
  rw [← hp1] at e13
  have HS1 := Lib.hid hs1; have HA1 := Lib.hid ha1; have HP1 := Lib.hid hp1
  clear hs1 ha1 hp1
  go_wp2_with fail
  go_quiet (fail)
  go_wp2_with fail
  refine (turned_c p1 16 _ (by decide)).mono ?_
  rintro e w' ⟨rfl, rfl⟩
  obtain ⟨d1, hd1⟩ : ∃ v, v = rot p1 16 := ⟨_, rfl⟩
  rw [← hd1]
  have e14 := add32 c d1
  obtain ⟨c1, hc1⟩ : ∃ v, v = c + d1 := ⟨_, rfl⟩
  rw [← hc1] at e14
  have e15 := bx b c1
  obtain ⟨r1, hr1⟩ : ∃ v, v = b ^^^ c1 := ⟨_, rfl⟩
  rw [← hr1] at e15
  have HD1 := Lib.hid hd1; have HC1 := Lib.hid hc1; have HR1 := Lib.hid hr1
  clear hd1 hc1 hr1
  go_wp2_with fail
  refine (turned_c r1 12 _ (by decide)).mono ?_
  rintro e w' ⟨rfl, rfl⟩
  obtain ⟨b1, hb1⟩ : ∃ v, v = rot r1 12 := ⟨_, rfl⟩
  rw [← hb1]
  have HB1 := Lib.hid hb1
  clear hb1
  have e21 := add32 a1 b1
  obtain ⟨s2, hs2⟩ : ∃ v, v = a1 + b1 := ⟨_, rfl⟩
  rw [← hs2] at e21
  have e22 := add32 s2 y
  obtain ⟨a2, ha2⟩ : ∃ v, v = s2 + y := ⟨_, rfl⟩
  rw [← ha2] at e22
  have e23 := bx d1 a2
  obtain ⟨p2, hp2⟩ : ∃ v, v = d1 ^^^ a2 := ⟨_, rfl⟩
  rw [← hp2] at e23
  have HS2 := Lib.hid hs2; have HA2 := Lib.hid ha2; have HP2 := Lib.hid hp2
  clear hs2 ha2 hp2
  go_wp2_with fail
  refine (turned_c p2 8 _ (by decide)).mono ?_
  rintro e w' ⟨rfl, rfl⟩
  obtain ⟨d2, hd2⟩ : ∃ v, v = rot p2 8 := ⟨_, rfl⟩
  rw [← hd2]
  have e24 := add32 c1 d2
  obtain ⟨c2, hc2⟩ : ∃ v, v = c1 + d2 := ⟨_, rfl⟩
  rw [← hc2] at e24
  have e25 := bx b1 c2
  obtain ⟨r2, hr2⟩ : ∃ v, v = b1 ^^^ c2 := ⟨_, rfl⟩
  rw [← hr2] at e25
  have HD2 := Lib.hid hd2; have HC2 := Lib.hid hc2; have HR2 := Lib.hid hr2
  clear hd2 hc2 hr2
  go_wp2_with fail
  refine (turned_c r2 7 _ (by decide)).mono ?_
  rintro e w' ⟨rfl, rfl⟩
  obtain ⟨b2, hb2⟩ : ∃ v, v = rot r2 7 := ⟨_, rfl⟩
  rw [← hb2]
  have HB2 := Lib.hid hb2
  clear hb2
  have hq1 : half ⟨a, b, c, d⟩ x 16 12 = ⟨a1, b1, c1, d1⟩ := by
    unfold half
    simp only [← HS1.out, ← HA1.out, ← HP1.out, ← HD1.out, ← HC1.out, ← HR1.out, ← HB1.out]
  have hq2 : half ⟨a1, b1, c1, d1⟩ y 8 7 = ⟨a2, b2, c2, d2⟩ := by
    unfold half
    simp only [← HS2.out, ← HA2.out, ← HP2.out, ← HD2.out, ← HC2.out, ← HR2.out, ← HB2.out]
  have HQ : Hid ((mix ⟨a, b, c, d⟩ x y).cells = #[.int .u32 (a2.toNat : Int), .int .u32 (b2.toNat : Int), .int .u32 (c2.toNat : Int), .int .u32 (d2.toNat : Int)]) := Lib.hid (by
    unfold mix; rw [hq1, hq2]; rfl)
  clear hq1 hq2
  have hbn := H2.out.below (below_drewN (Below.refl _ _) nq) H2.out.lt
  have HBN := Lib.hid (HB.out.trans (below_drewN (Below.refl _ _) nq |>.mono HB.out.size))
  have HBL := Lib.hid hbn
  clear hbn HB H2
  go_wp2_with (refine wpl_store_blk rfl 23 _ _ rfl (w.heap.size + 1) 23 _ _ rfl rfl HBL.out rfl (by kernel_rfl) (by simp [Value.oneCell']) ?_; intro w6 hB6 hO6 hz6)
  refine bodyPost_ret (results_cell_row rfl _ _ (w.heap.size + 1) 23 _ (0, 0) _ rfl hB6 Try.underlying23 rfl (by kernel_rfl)) rfl ⟨?_, HBN.out.trans (hO6.below HBN.out.size (by omega))⟩
  rw [HQ.out]
end Go.Proofs.Yticgknjjhkgggaa
