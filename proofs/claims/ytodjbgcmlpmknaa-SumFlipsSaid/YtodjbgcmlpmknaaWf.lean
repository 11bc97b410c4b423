/- Products by the program. -/
import Derived.Test.YtodjbgcmlpmknaaWe
namespace Go.Proofs.Ytodjbgcmlpmknaa
open Go.RowKit Go.Shelf
attribute [local go_sem] Oper.semAt_some

/-- How far a power is from where it is to be, read off its box. -/
def far (x : Nat) (B : Nat) (W : World) : Nat := x - (intOf ((W.cell? ⟨B, 0, none⟩).getD undef)).toNat
theorem far_eq {x B i : Nat} {W : World} (h : Boxed W B 3 (.int .i64 (i : Nat))) : far x B W = x - i := by
  unfold far; rw [h.cell]; simp [intOf]
theorem cel_set (W : World) {g : Nat} {p : Addr} (hp : g ≠ p.block) (u : Value) : Cel g W (W.setCell p u) :=
  World.cell?_of_block (a := ⟨g, 0, none⟩) (Below.heap_setCell W p u g hp)
theorem boxed_word {W : World} {B : Nat} {y : Wo} (h : Boxed W B 53 (.int .u32 (y.toNat : Int))) : WordAt W B y := ⟨h.cell, h.frozen⟩

set_option maxRecDepth 100000 in
set_option maxHeartbeats 4000000 in
theorem mul_in (a b : Wo) (w : World) :
    CallsIn Fence.wide 5 Try.prog 18 #[.int .u32 (a.toNat : Int), .int .u32 (b.toNat : Int)] w fun e W' => e = .returned (.int .u32 ((mul a b).toNat : Int)) ∧ Below w.heap.size w W' := by
  refine callsIn_of_wp_marks Try.func18 rfl trivial ?_ rfl
  simp only [Try.ntmps18, List.size_toArray, List.length_cons, List.length_nil, Nat.reduceAdd, Nat.reduceSub, Array.replicate_succ, Array.replicate_zero, List.push_toArray, List.append_toArray, List.nil_append, List.cons_append]
  gi_wp2_with fail
  refine ⟨trivial, ?_⟩
  refine (callsIn_wide.2 (bits_c a _)).mono ?_
  rintro e w4 ⟨rfl, hw4⟩
  have b1 : Boxed w4 w.heap.size 24 (.int .u32 ((0#32 : Wo).toNat : Int)) := by
    rw [hw4]; exact (((Boxed.new w 24 _).alloc _).alloc _).alloc _
  have b2 : Boxed w4 (w.heap.size + 1) 3 (.int .i64 ((0 : Nat) : Int)) := by
    rw [hw4]
    have := Boxed.new (w.alloc (.cells #[.int .u32 0] 24)) 3 (.int .i64 0)
    rw [World.size_alloc] at this
    exact (this.alloc _).alloc _
  have b3 : Boxed w4 (w.heap.size + 1 + 1) 53 (.int .u32 (b.toNat : Int)) := by
    rw [hw4]
    have := Boxed.new ((w.alloc (.cells #[.int .u32 0] 24)).alloc (.cells #[.int .i64 0] 3)) 53 (.int .u32 (b.toNat : Int))
    rw [World.size_alloc, World.size_alloc] at this
    exact this.alloc _
  have b4 : w4.cell? ⟨w.heap.size + 1 + 1 + 1, 0, none⟩ = some (.int .u32 (a.toNat : Int)) := by
    have := blk0 (w := ((w.alloc (.cells #[.int .u32 0] 24)).alloc (.cells #[.int .i64 0] 3)).alloc (.cells #[.int .u32 (b.toNat : Int)] 53)) (t := 24) (c := #[.int .u32 (a.toNat : Int)]) (i := 0) (v := .int .u32 (a.toNat : Int)) rfl
    rw [World.size_alloc, World.size_alloc, World.size_alloc] at this
    rw [hw4]; exact this
  have hB0 : Below w.heap.size w w4 := by
    rw [hw4]
    exact ((((Below.refl w.heap.size w).alloc (Nat.le_refl _) _).alloc (by simp) _).alloc (by simp; omega) _).alloc (by simp; omega) _
  have hs4 : w4.heap.size = w.heap.size + 1 + 1 + 1 + 1 := by rw [hw4]; simp
  have Hs4 := Lib.hid hs4
  clear hw4 hs4
  have hz : (((w.alloc (.cells #[.int .u32 0] 24)).alloc (.cells #[.int .i64 0] 3)).alloc (.cells #[.int .u32 (b.toNat : Int)] 53)).heap.size = w.heap.size + 1 + 1 + 1 := by simp
  rw [hz]
  clear hz
  gi_wp2_with fail
  refine wpIn_rangeFunc_ownG rfl (by omega) (gf := 42) (lb := #[.pointer (some ⟨w.heap.size + 1 + 1 + 1, 0, none⟩)]) rfl trivial (enters_of Try.func42 (by kernel_rfl) rfl)
    (bits_stops 4 _ a w4 (by rw [Hs4.out]; omega) b4) cel_trans (cel_b (by rw [Hs4.out]; omega)) (Below.refl _ _) (fun _ => rfl)
    (fun pre W => Boxed W w.heap.size 24 (.int .u32 ((outOf b pre).toNat : Int)) ∧ Boxed W (w.heap.size + 1) 3 (.int .i64 (atOf pre : Nat)) ∧ Boxed W (w.heap.size + 1 + 1) 53 (.int .u32 ((txn (atOf pre) b).toNat : Int)) ∧ Below w.heap.size w W)
    (fun _ _ _ => False)
    (OwnFrom.and (Own.from (boxed_own w.heap.size 24 (fun pre => .int .u32 ((outOf b pre).toNat : Int))) _) (OwnFrom.and (Own.from (boxed_own (w.heap.size + 1) 3 (fun pre => .int .i64 (atOf pre : Nat))) _) (OwnFrom.and (Own.from (boxed_own (w.heap.size + 1 + 1) 53 (fun pre => .int .u32 ((txn (atOf pre) b).toNat : Int))) _) (ownFrom_below (Nat.le_refl _) hB0.size))))
    (fun _ _ _ _ _ hs _ _ => hs)
    ⟨b1, b2, b3, hB0⟩
    (fun x => { tmps := #[.int .u32 (a.toNat : Int), .int .u32 (b.toNat : Int), undef, undef, .int .u32 0, .pointer (some ⟨w.heap.size, 0, none⟩), .pointer (some ⟨w.heap.size + 1, 0, none⟩), .pointer (some ⟨w.heap.size + 1 + 1, 0, none⟩), .int .i64 (x.val : Nat), .int .u32 (b.toNat : Int), .agg #[.int .u32 (b.toNat : Int)], .int .u32 (a.toNat : Int), .func (.func 42) #[] #[.pointer (some ⟨w.heap.size + 1 + 1 + 1, 0, none⟩)], .int .i64 (x.val : Nat), undef, undef, undef, undef, undef, undef, undef, undef, undef, undef, undef], defers := [] }) ?assign ?body ?done ?stop
  case assign =>
    intro l x W K hK
    gi_wp2
    exact hK
  case body =>
    rintro l pre ⟨x, hx⟩ W ⟨h1, h2, h3, hB⟩ hlt
    have hat := at_le pre
    generalize hout : outOf b pre = o at h1
    generalize hatv : atOf pre = i0 at h2 h3 hat
    have Hout := Lib.hid hout; have Hat := Lib.hid hatv
    clear hout hatv
    gi_wp2
    gi_loopw [14] (fun _ wr => ∃ i : Nat, i0 ≤ i ∧ i ≤ max i0 x ∧ Boxed wr w.heap.size 24 (.int .u32 (o.toNat : Int)) ∧ Boxed wr (w.heap.size + 1) 3 (.int .i64 (i : Nat)) ∧ Boxed wr (w.heap.size + 1 + 1) 53 (.int .u32 ((txn i b).toNat : Int)) ∧ Below w.heap.size w wr ∧ KeepsOthers W wr ∧ Cel (w.heap.size + 1 + 1 + 1) W wr) (fun _ wr => far x (w.heap.size + 1) wr)
    case atStart => exact ⟨i0, Nat.le_refl _, Nat.le_max_left _ _, h1, h2, h3, hB, KeepsOthers.refl _, rfl⟩
    case round =>
      obtain ⟨i, hi1, hi2, g1, g2, g3, gB, gK, gC⟩ := hrel
      have c2 := g2.cell
      have f2 := g2.frozen
      have HG1 := Lib.hid g1; have HG2 := Lib.hid g2; have HG3 := Lib.hid g3; have HB := Lib.hid gB; have HK := Lib.hid gK; have HC := Lib.hid gC
      clear g1 g2 g3 gB gK gC
      by_cases hix : i < x
      · gi_wp2_with fail
        refine ⟨trivial, ?_⟩
        refine (CallsIn.inRound l (callsIn_wide.2 (times_c _ (txn i b) _ (boxed_word HG3.out)))).mono ?_
        rintro e w5 ⟨rfl, rfl⟩
        rw [← txn_succ]
        have k1 := HG1.out.other (B' := w.heap.size + 1 + 1) (by omega) (.int .u32 ((txn (i + 1) b).toNat : Int))
        have k2 := HG2.out.other (B' := w.heap.size + 1 + 1) (by omega) (.int .u32 ((txn (i + 1) b).toNat : Int))
        have k3 := Boxed.set (.int .u32 ((txn (i + 1) b).toNat : Int)) HG3.out
        have kB := HB.out.setCell (p := ⟨w.heap.size + 1 + 1, 0, none⟩) (by show w.heap.size ≤ w.heap.size + 1 + 1; omega) (.int .u32 ((txn (i + 1) b).toNat : Int))
        have kK := HK.out.trans (KeepsOthers.setCell wr ⟨w.heap.size + 1 + 1, 0, none⟩ (.int .u32 ((txn (i + 1) b).toNat : Int)))
        have kC := cel_trans HC.out (cel_set wr (g := w.heap.size + 1 + 1 + 1) (p := ⟨w.heap.size + 1 + 1, 0, none⟩) (by show w.heap.size + 1 + 1 + 1 ≠ w.heap.size + 1 + 1; omega) (.int .u32 ((txn (i + 1) b).toNat : Int)))
        generalize wr.setCell ⟨w.heap.size + 1 + 1, 0, none⟩ (.int .u32 ((txn (i + 1) b).toNat : Int)) = w5 at k1 k2 k3 kB kK kC ⊢
        clear c2 f2
        have c2 := k2.cell
        have f2 := k2.frozen
        have m1 := Lib.hid (k1.other (B' := w.heap.size + 1) (by omega) (.int .i64 ((i : Int) + 1)))
        have m2 := Lib.hid (Boxed.set (.int .i64 ((i : Int) + 1)) k2)
        have m3 := Lib.hid (k3.other (B' := w.heap.size + 1) (by omega) (.int .i64 ((i : Int) + 1)))
        have mB := Lib.hid (kB.setCell (p := ⟨w.heap.size + 1, 0, none⟩) (by show w.heap.size ≤ w.heap.size + 1; omega) (.int .i64 ((i : Int) + 1)))
        have mK := Lib.hid (kK.trans (KeepsOthers.setCell w5 ⟨w.heap.size + 1, 0, none⟩ (.int .i64 ((i : Int) + 1))))
        have mC := Lib.hid (cel_trans kC (cel_set w5 (g := w.heap.size + 1 + 1 + 1) (p := ⟨w.heap.size + 1, 0, none⟩) (by show w.heap.size + 1 + 1 + 1 ≠ w.heap.size + 1; omega) (.int .i64 ((i : Int) + 1))))
        have mf : Hid (far x (w.heap.size + 1) (w5.setCell ⟨w.heap.size + 1, 0, none⟩ (.int .i64 ((i : Int) + 1))) < far x (w.heap.size + 1) wr) := Lib.hid (by
          rw [far_eq HG2.out, far_eq (i := i + 1) (by push_cast; exact m2.out)]; omega)
        clear k1 k2 k3 kB kK kC
        gi_wp2_with fail
        go_roundw
        case rel => exact ⟨i + 1, by omega, by omega, m1.out, by push_cast; exact m2.out, m3.out, mB.out, mK.out, mC.out⟩
        case measure => exact mf.out
      · have him : i = max i0 x := by omega
        obtain ⟨y, hy⟩ : ∃ y, y = o ^^^ txn i b := ⟨_, rfl⟩
        have hx1 : Hid (bits .xor .u32 (o.toNat : Int) ((txn i b).toNat : Int) = (y.toNat : Int)) := Lib.hid (by rw [hy, bx])
        have Him := Lib.hid him; have HY := Lib.hid hy
        clear him hy
        have d1 := HG1.out.cell
        have e1 := HG1.out.frozen
        have d3 := HG3.out.cell
        have m1 := Lib.hid (Boxed.set (.int .u32 (y.toNat : Int)) HG1.out)
        have m2 := Lib.hid (HG2.out.other (B' := w.heap.size) (by omega) (.int .u32 (y.toNat : Int)))
        have m3 := Lib.hid (HG3.out.other (B' := w.heap.size) (by omega) (.int .u32 (y.toNat : Int)))
        have mB := Lib.hid (HB.out.setCell (p := ⟨w.heap.size, 0, none⟩) (Nat.le_refl _) (.int .u32 (y.toNat : Int)))
        have mK := Lib.hid (HK.out.trans (KeepsOthers.setCell wr ⟨w.heap.size, 0, none⟩ (.int .u32 (y.toNat : Int))))
        have mC := Lib.hid (cel_trans HC.out (cel_set wr (g := w.heap.size + 1 + 1 + 1) (p := ⟨w.heap.size, 0, none⟩) (by show w.heap.size + 1 + 1 + 1 ≠ w.heap.size; omega) (.int .u32 (y.toNat : Int))))
        gi_wp2_with fail
        rw [hx1.out]
        have ha2 : max (atOf pre) x = i := by rw [Hat.out, Him.out]
        refine ⟨mK.out.from _, mC.out, ?_, ?_, ?_, mB.out⟩
        · rw [out_snoc]
          show Boxed _ _ _ (.int .u32 ((outOf b pre ^^^ txn (max (atOf pre) x) b).toNat : Int))
          rw [Hout.out, ha2, ← HY.out]
          exact m1.out
        · rw [at_snoc]
          show Boxed _ _ _ (.int .i64 (max (atOf pre) x : Nat))
          rw [ha2]
          exact m2.out
        · rw [at_snoc]
          show Boxed _ _ _ (.int .u32 ((txn (max (atOf pre) x) b).toNat : Int))
          rw [ha2]
          exact m3.out
  case done =>
    rintro D ys W hD hys ⟨h1, h2, h3, hB⟩ hK
    rw [out_all a b ys hys] at h1
    have hc := h1.cell
    gi_wp2
    refine ⟨by simp, .inl ⟨_, _, rfl, run_takeDeferred hK, ?_⟩⟩
    exact ⟨_, results_tmp rfl _ _ _, rfl, hB.trans (belowK_b (w := w) (Nat.le_refl _) W D _ _ (by have := hB0.size; omega) hK rfl rfl)⟩
  case stop =>
    rintro D c pre W _ _ h _
    exact h.elim

theorem mul_c (a b : Wo) (w : World) :
    Calls Try.prog 18 #[.int .u32 (a.toNat : Int), .int .u32 (b.toNat : Int)] w fun e W' => e = .returned (.int .u32 ((mul a b).toNat : Int)) ∧ Below w.heap.size w W' :=
  callsIn_wide.1 (mul_in a b w)
end Go.Proofs.Ytodjbgcmlpmknaa
