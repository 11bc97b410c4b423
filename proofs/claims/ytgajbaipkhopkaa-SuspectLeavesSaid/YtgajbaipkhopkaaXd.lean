/- The reference's Hear. -/
import Derived.Test.YtgajbaipkhopkaaXc
namespace Go.Proofs.Ytgajbaipkhopkaa
open Go.RowKit

def Z35 : Array Value := #[.int .i64 0, .int .i64 0, .int .i64 0, .int .i64 0, .int .i64 0, .int .i64 0, .bool false, .int .i64 0, .int .i64 0, .bool false, .int .i64 0, .int .i64 0, .bool false, .int .i64 0, .int .i64 0, .bool false, .int .i64 0, .int .i64 0, .bool false, .int .i64 0, .int .i64 0, .bool false, .int .i64 0, .int .i64 0, .bool false, .int .i64 0, .int .i64 0, .bool false, .int .i64 0, .int .i64 0, .bool false]
/-- What a method of the reference's watch begins with: the watch's box, the result's cell. -/
def Boxes (w w2 : World) (s : St) : Prop := IsR w2 w.heap.size s ∧ Blk w2 (w.heap.size + 1) 35 Z35 ∧ Below w.heap.size w w2 ∧ w2.heap.size = w.heap.size + 2
theorem boxes {w : World} {cs : Array Value} {s : St} (h : RC cs s) : Boxes w ((w.alloc (.cells cs 35)).alloc (.cells Z35 35)) s :=
  ⟨⟨cs, (Blk.new w 35 cs).alloc _, h⟩, Blk.new2 w _ 35 Z35, ((Below.refl _ _).alloc (Nat.le_refl _) _).alloc (by simp) _, by simp⟩

set_option maxHeartbeats 800000 in
theorem rhear_no (cs : Array Value) (s : St) (p : Int) (w : World) (h : RC cs s) (hp : (decide (0 ≤ p) && decide (p < s.c)) = false) :
    Calls Try.prog 32 #[.agg cs, .int .i64 p] w fun e w' => (∃ cs', e = .returned (.tuple #[.agg cs', .bool false, .int .i64 2]) ∧ RC cs' s) ∧ Below w.heap.size w w' := by
  have hb := boxes (w := w) h
  have HP := Lib.hid hp; clear hp
  have HS := Lib.hid h.size
  have hc0 := h.c
  go_enter Try.func32, Try.ntmps32
  go_wp2_with fail
  refine (rplace_c _ _ _).mono ?_; rintro e w' ⟨rfl, rfl⟩
  rw [HP.out]
  clear hc0
  unfold Z35 at hb
  generalize ((w.alloc (.cells cs 35)).alloc _) = w2 at hb ⊢
  obtain ⟨⟨cs', hb1, hc1⟩, hb2, hb3, hb4⟩ := hb
  have HB1 := Lib.hid hb1; have HC1 := Lib.hid hc1; have HB2 := Lib.hid hb2; have HB3 := Lib.hid hb3
  clear hb1 hc1 hb2 hb3
  go_wp2_with (first | (refine wpl_load_blk rfl 35 _ rfl w.heap.size rfl 35 cs' _ HB1.out Try.underlying35 rfl HC1.out.info ?_) | (refine wpl_store_blk rfl 35 _ _ rfl (w.heap.size + 1) 35 _ cs' rfl rfl HB2.out (by rw [HC1.out.size]; rfl) HC1.out.info HC1.out.one ?_; intro w5 hB5 hO5 hz5))
  exact bodyPost_ret (results_cell3 rfl _ _ (w.heap.size + 1) 35 _ _ rfl hB5 Try.underlying35 rfl HC1.out.info) rfl ⟨⟨cs', rfl, HC1.out⟩, HB3.out.trans (hO5.below HB3.out.size (by omega))⟩

set_option maxHeartbeats 800000 in
theorem rhear_no_susp (cs : Array Value) (s : St) (p : Nat) (w : World) (h : RC cs s) (hs : Sane s) (hp : p < s.c.toNat) (hu : (s.pl p).susp = false) :
    Calls Try.prog 32 #[.agg cs, .int .i64 p] w fun e w' => (∃ cs', e = .returned (.tuple #[.agg cs', .bool false, .int .i64 0]) ∧ RC cs' (s.heard p)) ∧ Below w.heap.size w w' := by
  have hb := boxes (w := w) h
  have c1 := hs.c1
  have c2 := hs.c2
  have hp9 : p < 9 := by omega
  have HP : Hid ((decide (0 ≤ (p : Int)) && decide ((p : Int) < s.c)) = true) := Lib.hid (by simp; omega)
  have HU := Lib.hid hu; clear hu
  have hc0 := h.c
  go_enter Try.func32, Try.ntmps32
  go_wp2_with fail
  refine (rplace_c _ _ _).mono ?_; rintro e w' ⟨rfl, rfl⟩
  rw [HP.out]
  clear hc0
  unfold Z35 at hb
  generalize ((w.alloc (.cells cs 35)).alloc _) = w2 at hb ⊢
  obtain ⟨hb1, hb2, hb3, hb4⟩ := hb
  have HB1 := Lib.hid hb1; have HB2 := Lib.hid hb2; have HB3 := Lib.hid hb3
  have r3 := hb1.r3
  have p0 := hb1.p0 hp9
  have p2 := hb1.p2 hp9
  have f0 := hb1.fz (4 + p * 3)
  have f2 := hb1.fz (4 + p * 3 + 2)
  rw [HU.out] at p2
  obtain ⟨cs', hx1, hx2⟩ := (hb1.setSince hp9 s.now).setSusp hp9 false
  have hO := ((Only.refl w.heap.size w2).setCell (p := ⟨w.heap.size, 4 + p * 3, none⟩) (.inl rfl) (.int .i64 s.now)).setCell (p := ⟨w.heap.size, 4 + p * 3 + 2, none⟩) (.inl rfl) (.bool false)
  have HX1 := Lib.hid hx1; have HX2 := Lib.hid hx2
  have HX3 := Lib.hid (hO.blk hb2 (by omega))
  have HBx := Lib.hid (hb3.trans (hO.below hb3.size (Nat.le_refl _)))
  have e1 : ((s.put p { s.pl p with since := s.now }).put p { (s.put p { s.pl p with since := s.now }).pl p with susp := false }) = s.heard p := by
    rw [put_put]
    simp [St.heard, HU.out, St.put]
  have HE := Lib.hid e1
  clear hb1 hb2 hb3 hx1 hx2 hO e1
  go_wp2_with (first | (refine wpl_load_blk rfl 35 _ rfl w.heap.size rfl 35 cs' _ HX1.out Try.underlying35 rfl HX2.out.info ?_) | (refine wpl_store_blk rfl 35 _ _ rfl (w.heap.size + 1) 35 _ cs' rfl rfl HX3.out (by rw [HX2.out.size]; rfl) HX2.out.info HX2.out.one ?_; intro w5 hB5 hO5 hz5))
  exact bodyPost_ret (results_cell3 rfl _ _ (w.heap.size + 1) 35 _ _ rfl hB5 Try.underlying35 rfl HX2.out.info) rfl ⟨⟨cs', rfl, HE.out ▸ HX2.out⟩, HBx.out.trans (hO5.below HBx.out.size (by omega))⟩

set_option maxHeartbeats 800000 in
theorem rhear_susp (cs : Array Value) (s : St) (p : Nat) (w : World) (h : RC cs s) (hs : Fair s) (hp : p < s.c.toNat) (hu : (s.pl p).susp = true) :
    Calls Try.prog 32 #[.agg cs, .int .i64 p] w fun e w' => (∃ cs', e = .returned (.tuple #[.agg cs', .bool true, .int .i64 0]) ∧ RC cs' (s.heard p)) ∧ Below w.heap.size w w' := by
  have hb := boxes (w := w) h
  have c1 := hs.sane.c1
  have c2 := hs.sane.c2
  have w0 := hs.w0
  have w1 := hs.w1
  have x0 := hs.x0 p
  have x1 := hs.x1 p
  have hp9 : p < 9 := by omega
  have HP : Hid ((decide (0 ≤ (p : Int)) && decide ((p : Int) < s.c)) = true) := Lib.hid (by simp; omega)
  have HU := Lib.hid hu; clear hu
  have Hx1 := Lib.hid (IntWalk.i64_in (2 * (s.pl p).wait) (by omega))
  have Hx2 := Lib.hid (IntWalk.i64_in (16 * s.wait) (by omega))
  have Hm : Hid ((if 16 * s.wait < 2 * (s.pl p).wait then 16 * s.wait else 2 * (s.pl p).wait) = min (2 * (s.pl p).wait) (16 * s.wait)) := Lib.hid (by split <;> omega)
  have hc0 := h.c
  go_enter Try.func32, Try.ntmps32
  go_wp2_with fail
  refine (rplace_c _ _ _).mono ?_; rintro e w' ⟨rfl, rfl⟩
  rw [HP.out]
  clear hc0
  unfold Z35 at hb
  generalize ((w.alloc (.cells cs 35)).alloc _) = w2 at hb ⊢
  obtain ⟨hb1, hb2, hb3, hb4⟩ := hb
  have r2 := hb1.r2
  have r3 := hb1.r3
  have p0 := hb1.p0 hp9
  have p1 := hb1.p1 hp9
  have p2 := hb1.p2 hp9
  have f0 := hb1.fz (4 + p * 3)
  have f2 := hb1.fz (4 + p * 3 + 2)
  rw [HU.out] at p2
  have hI := (hb1.setSince hp9 s.now).setSusp hp9 false
  have hO := ((Only.refl w.heap.size w2).setCell (p := ⟨w.heap.size, 4 + p * 3, none⟩) (.inl rfl) (.int .i64 s.now)).setCell (p := ⟨w.heap.size, 4 + p * 3 + 2, none⟩) (.inl rfl) (.bool false)
  have HI := Lib.hid hI; have HO := Lib.hid hO
  have HB2 := Lib.hid hb2; have HB3 := Lib.hid hb3
  clear hb1 hb2 hb3 hI hO
  go_wp2_with fail
  clear r2 r3 p0 p1 p2 f0 f2
  have e1 : ((((s.put p { s.pl p with since := s.now }).put p { (s.put p { s.pl p with since := s.now }).pl p with susp := false }).put p { (((s.put p { s.pl p with since := s.now }).put p { (s.put p { s.pl p with since := s.now }).pl p with susp := false })).pl p with wait := min (2 * (s.pl p).wait) (16 * s.wait) })) = s.heard p := by
    rw [put_put, put_put]
    simp [St.heard, HU.out, St.put]
  have HE := Lib.hid e1
  have e2 : (((s.put p { s.pl p with since := s.now }).put p { (s.put p { s.pl p with since := s.now }).pl p with susp := false }).pl p).wait = (s.pl p).wait := by simp [St.put]
  have e3 : ((s.put p { s.pl p with since := s.now }).put p { (s.put p { s.pl p with since := s.now }).pl p with susp := false }).wait = s.wait := rfl
  have hI := HI.out
  have hO := HO.out
  clear HI HO e1
  generalize ((s.put p { s.pl p with since := s.now }).put p { (s.put p { s.pl p with since := s.now }).pl p with susp := false }) = s2 at hI e2 e3 HE
  generalize ((w2.setCell ⟨w.heap.size, 4 + p * 3, none⟩ (.int .i64 s.now)).setCell ⟨w.heap.size, 4 + p * 3 + 2, none⟩ (.bool false)) = w3 at hI hO ⊢
  have r2 := hI.r2
  have p1 := hI.p1 hp9
  have f1 := hI.fz (4 + p * 3 + 1)
  rw [e2] at p1
  rw [e3] at r2
  clear e2 e3
  have i1 : (0 : Int) ≤ (p : Int) := by omega
  have i2 : (p : Int) < 9 := by omega
  go_still_tail 14, (by kernel_rfl)
  change wpList _ _ _ _ _ w3.drew
  have HI := Lib.hid hI.drew
  have HO := Lib.hid hO.drew
  have HX3 := Lib.hid (hO.drew.blk HB2.out (by omega))
  have HBx := Lib.hid (HB3.out.trans (hO.drew.below HB3.out.size (Nat.le_refl _)))
  clear hI hO r2 p1 f1
  generalize w3.drew = w4 at HI HO HX3 HBx ⊢
  rw [Hx1.out, Hx2.out, Hm.out]
  have p1 := HI.out.p1 hp9
  have f1 := HI.out.fz (4 + p * 3 + 1)
  obtain ⟨cs', hx1, hx2⟩ := HI.out.setWait hp9 (min (2 * (s.pl p).wait) (16 * s.wait))
  have hO := (Only.refl w.heap.size w4).setCell (p := ⟨w.heap.size, 4 + p * 3 + 1, none⟩) (.inl rfl) (.int .i64 (min (2 * (s.pl p).wait) (16 * s.wait)))
  have HX1 := Lib.hid hx1; have HX2 := Lib.hid hx2
  have HX4 := Lib.hid (hO.blk HX3.out (by omega))
  have HBy := Lib.hid (HBx.out.trans (hO.below HBx.out.size (Nat.le_refl _)))
  clear hx1 hx2 hO
  go_wp2_with (first | (refine wpl_load_blk rfl 35 _ rfl w.heap.size rfl 35 cs' _ HX1.out Try.underlying35 rfl HX2.out.info ?_) | (refine wpl_store_blk rfl 35 _ _ rfl (w.heap.size + 1) 35 _ cs' rfl rfl HX4.out (by rw [HX2.out.size]; rfl) HX2.out.info HX2.out.one ?_; intro w5 hB5 hO5 hz5))
  exact bodyPost_ret (results_cell3 rfl _ _ (w.heap.size + 1) 35 _ _ rfl hB5 Try.underlying35 rfl HX2.out.info) rfl ⟨⟨cs', rfl, HE.out ▸ HX2.out⟩, HBy.out.trans (hO5.below HBy.out.size (by omega))⟩

/-- What the reference tells of hearing: the answer, the error, the watch. -/
def hearB (s : St) (p : Int) : Bool := (decide (0 ≤ p) && decide (p < s.c)) && (s.pl p.toNat).susp
def hearE (s : St) (p : Int) : Int := if (decide (0 ≤ p) && decide (p < s.c)) then 0 else 2
def hearS (s : St) (p : Int) : St := if (decide (0 ≤ p) && decide (p < s.c)) then s.heard p.toNat else s
theorem rhear_any (cs : Array Value) (s : St) (p : Int) (w : World) (h : RC cs s) (hs : Fair s) :
    Calls Try.prog 32 #[.agg cs, .int .i64 p] w fun e w' => (∃ cs', e = .returned (.tuple #[.agg cs', .bool (hearB s p), .int .i64 (hearE s p)]) ∧ RC cs' (hearS s p)) ∧ Below w.heap.size w w' := by
  unfold hearB hearE hearS
  cases hp : (decide (0 ≤ p) && decide (p < s.c))
  · exact rhear_no cs s p w h hp
  · have hp' := hp
    simp only [Bool.and_eq_true, decide_eq_true_eq] at hp'
    obtain ⟨q, rfl⟩ : ∃ q : Nat, p = q := ⟨p.toNat, by omega⟩
    have hq : q < s.c.toNat := by omega
    rw [Int.toNat_natCast, Bool.true_and, if_pos rfl, if_pos rfl]
    cases hu : (s.pl q).susp
    · exact rhear_no_susp cs s q w h hs.sane hq hu
    · exact rhear_susp cs s q w h hs hq hu
end Go.Proofs.Ytgajbaipkhopkaa
