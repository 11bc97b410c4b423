/- The reference's Tick. -/
import Derived.Test.YtgajbaipkhopkaaXd
namespace Go.Proofs.Ytgajbaipkhopkaa
open Go.RowKit

set_option maxHeartbeats 800000 in
theorem rtick_no (cs : Array Value) (s : St) (n e : Int) (w : World) (h : RC cs s) (hs : Sane s) (hn : (e = 2 ∧ inB n 0 2147483647 = false) ∨ (e = 3 ∧ inB n 0 2147483647 = true ∧ 4611686018427387904 < s.now + n)) :
    Calls Try.prog 33 #[.agg cs, .int .i64 n] w fun e' w' => (∃ cs', e' = .returned (.tuple #[.agg cs', .slice none 0 0, .int .i64 e]) ∧ RC cs' s) ∧ Below w.heap.size w w' := by
  have hb := boxes (w := w) h
  obtain ⟨hb1, hb2, hb3, hb4⟩ := hb
  obtain ⟨cs', hx1, hx2⟩ := hb1
  have HX1 := Lib.hid hx1; have HX2 := Lib.hid hx2; have HB2 := Lib.hid hb2; have HB3 := Lib.hid hb3
  have n0 := hs.now0
  have n1 := hs.now1
  clear hx1 hx2 hb2 hb3
  rcases hn with ⟨rfl, hn⟩ | ⟨rfl, hn, hl⟩
  · have hn' : n < 0 ∨ (¬ n < 0 ∧ 2147483647 < n) := by simp [inB] at hn; omega
    clear hn
    rcases hn' with h1 | ⟨h1, h2⟩
    all_goals
      go_enter Try.func33, Try.ntmps33
      go_wp2_with (first | (refine wpl_load_blk rfl 35 _ rfl w.heap.size rfl 35 cs' _ HX1.out Try.underlying35 rfl HX2.out.info ?_) | (refine wpl_store_blk rfl 35 _ _ rfl (w.heap.size + 1) 35 _ cs' rfl rfl HB2.out (by rw [HX2.out.size]; rfl) HX2.out.info HX2.out.one ?_; intro w5 hB5 hO5 hz5))
      exact bodyPost_ret (results_cell3 rfl _ _ (w.heap.size + 1) 35 _ _ rfl hB5 Try.underlying35 rfl HX2.out.info) rfl ⟨⟨cs', rfl, HX2.out⟩, HB3.out.trans (hO5.below HB3.out.size (by omega))⟩
  · have h1 : 0 ≤ n ∧ n ≤ 2147483647 := by simpa [inB] using hn
    obtain ⟨h1, h2⟩ := h1
    have hc3 := h.now
    clear hn
    go_enter Try.func33, Try.ntmps33
    go_wp2_with (first | (refine wpl_load_blk rfl 35 _ rfl w.heap.size rfl 35 cs' _ HX1.out Try.underlying35 rfl HX2.out.info ?_) | (refine wpl_store_blk rfl 35 _ _ rfl (w.heap.size + 1) 35 _ cs' rfl rfl HB2.out (by rw [HX2.out.size]; rfl) HX2.out.info HX2.out.one ?_; intro w5 hB5 hO5 hz5))
    exact bodyPost_ret (results_cell3 rfl _ _ (w.heap.size + 1) 35 _ _ rfl hB5 Try.underlying35 rfl HX2.out.info) rfl ⟨⟨cs', rfl, HX2.out⟩, HB3.out.trans (hO5.below HB3.out.size (by omega))⟩

set_option maxHeartbeats 2000000 in
theorem rtick_ok (cs : Array Value) (s : St) (n : Int) (w : World) (h : RC cs s) (hs : Sane s) (n0 : 0 ≤ n) (n1 : n ≤ 2147483647) (n2 : s.now + n ≤ 4611686018427387904) :
    Calls Try.prog 33 #[.agg cs, .int .i64 n] w fun e' w' => (∃ cs' v, e' = .returned (.tuple #[.agg cs', v, .int .i64 0]) ∧ RC cs' (s.tick n) ∧ Ints w' w.heap.size v (s.told n)) ∧ Below w.heap.size w w' := by
  obtain ⟨i0, hi, hz0, hz1, hz2⟩ := info_parts info3
  have hs' := setNow_sane hs n0 n2
  have c1 := hs.c1
  have c2 := hs.c2
  have now0 := hs.now0
  have now1 := hs.now1
  have hb := boxes (w := w) (h.setNow (s.now + n))
  unfold Z35 at hb
  have hc3 := h.now
  go_enter Try.func33, Try.ntmps33
  go_wp2_with fail
  generalize (w.alloc (.cells (cs.setIfInBounds 3 (.int .i64 (s.now + n))) 35)).alloc _ = w2 at hb ⊢
  obtain ⟨hb1, hb2, hb3, hb4⟩ := hb
  clear hc3
  have hc' : (s.setNow (s.now + n)).c = s.c := rfl
  have he1 : s.tick n = (s.setNow (s.now + n)).tickTo (s.setNow (s.now + n)).c.toNat := rfl
  have he2 : s.told n = (s.setNow (s.now + n)).outs (s.setNow (s.now + n)).c.toNat := rfl
  have HE1 := Lib.hid he1; have HE2 := Lib.hid he2
  clear he1 he2
  generalize s.setNow (s.now + n) = s1 at hs' hb1 hc' HE1 HE2
  rw [← hc'] at c1 c2
  clear hc'
  have HI0 := Lib.hid hb1; have HZ := Lib.hid hb2; have HB0 := Lib.hid hb3; have HZS := Lib.hid hb4
  clear hb1 hb2 hb3 hb4
  go_loopw [7, 8] (fun v i wr => ∃ k : Nat, k ≤ s1.c.toNat ∧ i = .int .i64 k ∧ Ints wr (w.heap.size + 2) v (s1.outs k) ∧ IsR wr w.heap.size (s1.tickTo k) ∧ Only w.heap.size w2 wr) (fun _ i _ => s1.c.toNat - (intOf i).toNat)
  case atStart => exact ⟨0, Nat.zero_le _, rfl, World.ownsRow_nil _ _ _ _, by rw [tickTo_zero]; exact HI0.out, Only.refl _ _⟩
  case round =>
    obtain ⟨k, hk, rfl, hI, hWr, hOr⟩ := hrel
    have HIr := Lib.hid hI; have HOr := Lib.hid hOr
    clear hI hOr
    have r0 := hWr.r0
    rw [show (s1.tickTo k).c = s1.c from rfl] at r0
    by_cases hlt : k < s1.c.toNat
    · have hlt' : (k : Int) < s1.c := by omega
      have j0 : (0 : Int) ≤ (k : Int) := by omega
      have j1 : (k : Int) < 9 := by omega
      have r1 := hWr.r1
      rw [show (s1.tickTo k).self = s1.self from rfl] at r1
      have r3 := hWr.r3
      rw [show (s1.tickTo k).now = s1.now from rfl] at r3
      have p0 := hWr.p0 (p := k) (by omega)
      have p1 := hWr.p1 (p := k) (by omega)
      have p2 := hWr.p2 (p := k) (by omega)
      rw [tickTo_pl (Nat.le_refl k)] at p0 p1 p2
      have f2 := hWr.fz (4 + k * 3 + 2)
      have x0 := hs'.since0 k
      have x1 := hs'.since1 k
      have x2 := hs'.now1
      have HW := Lib.hid hWr
      clear hWr
      have hcase : (lateB s1 k = false ∧ (k : Int) = s1.self) ∨ (lateB s1 k = false ∧ (k : Int) ≠ s1.self ∧ (s1.pl k).susp = true) ∨ (lateB s1 k = false ∧ (k : Int) ≠ s1.self ∧ (s1.pl k).susp = false ∧ s1.now - (s1.pl k).since < (s1.pl k).wait) ∨ (lateB s1 k = true ∧ (k : Int) ≠ s1.self ∧ (s1.pl k).susp = false ∧ (s1.pl k).wait ≤ s1.now - (s1.pl k).since) := by
        unfold lateB and3
        by_cases a1 : (k : Int) = s1.self
        · simp [a1]
        · cases a2 : (s1.pl k).susp
          · by_cases a3 : (s1.pl k).wait ≤ s1.now - (s1.pl k).since
            · simp [a1, a3]
            · simp [a1, a3]; omega
          · simp [a1]
      have fin : ∀ wq : World, Below wr.heap.size wr wq → lateB s1 k = false → Ints wq (w.heap.size + 2) u7 (s1.outs (k + 1)) ∧ IsR wq w.heap.size (s1.tickTo (k + 1)) ∧ Only w.heap.size w2 wq := by
        intro wq hbq hl
        rw [outs_no hl, tickTo_no hl]
        exact ⟨HIr.out.only (Only.of_below hbq w.heap.size) (by omega), HW.out.below hbq HW.out.lt, HOr.out.trans (Only.of_below hbq _)⟩
      have FIN := Lib.hid fin; clear fin
      rcases hcase with ⟨hl, a1⟩ | ⟨hl, a1, a2⟩ | ⟨hl, a1, a2, a3⟩ | ⟨hl, a1, a2, a3⟩
      · have HL := Lib.hid hl; clear hl
        have b1 : ((k : Int) != s1.self) = false := by simp [a1]
        clear p0 p1 p2 f2
        go_wp2_with fail
        go_quiet (fail)
        go_wp2_with fail
        have hf := FIN.out _ (below_drewN (Below.refl _ _) nq) HL.out
        go_roundw
        case rel => exact ⟨k + 1, by omega, by go_num, hf.1, hf.2.1, hf.2.2⟩
        case measure => simp [intOf]; omega
      · have HL := Lib.hid hl; clear hl
        have b1 : ((k : Int) != s1.self) = true := by simp [a1]
        rw [a2] at p2
        clear p0 p1 f2
        go_wp2_with fail
        go_quiet (fail)
        go_wp2_with fail
        have hf := FIN.out _ (below_drewN (Below.refl _ _) nq) HL.out
        go_roundw
        case rel => exact ⟨k + 1, by omega, by go_num, hf.1, hf.2.1, hf.2.2⟩
        case measure => simp [intOf]; omega
      · have HL := Lib.hid hl; clear hl
        have b1 : ((k : Int) != s1.self) = true := by simp [a1]
        rw [a2] at p2
        have b3 : decide ((s1.pl k).wait ≤ s1.now - (s1.pl k).since) = false := decide_eq_false (by omega)
        have hw := IntWalk.i64_in (s1.now - (s1.pl k).since) (by omega)
        clear f2
        go_wp2_with fail
        go_quiet (fail)
        go_wp2_with fail
        have hf := FIN.out _ (below_drewN (Below.refl _ _) nq) HL.out
        go_roundw
        case rel => exact ⟨k + 1, by omega, by go_num, hf.1, hf.2.1, hf.2.2⟩
        case measure => simp [intOf]; omega
      · have HL := Lib.hid hl; clear hl
        have b1 : ((k : Int) != s1.self) = true := by simp [a1]
        rw [a2] at p2
        have b3 : decide ((s1.pl k).wait ≤ s1.now - (s1.pl k).since) = true := decide_eq_true a3
        have hw := IntWalk.i64_in (s1.now - (s1.pl k).since) (by omega)
        clear f2
        go_wp2_with fail
        go_quiet (fail)
        have hbq := below_drewN (Below.refl wr.heap.size wr) nq
        have HIq := Lib.hid (HIr.out.only (Only.of_below hbq w.heap.size) (by omega))
        have HWq := Lib.hid (HW.out.below hbq HW.out.lt)
        have HOq := Lib.hid (HOr.out.trans (Only.of_below hbq _))
        clear p0 p1 p2 r0 r1 r3 hbq b3 hw FIN HIr HW HOr
        generalize wr.drewN nq = w3 at HIq HWq HOq ⊢
        have g1 := HWq.out.p2 (p := k) (by omega)
        have g2 := HWq.out.fz (4 + k * 3 + 2)
        have HW4 := Lib.hid (HWq.out.setSusp (p := k) (by omega) true)
        have HO4 := Lib.hid (HOq.out.setCell (p := ⟨w.heap.size, 4 + k * 3 + 2, none⟩) (.inl rfl) (.bool true))
        have HI4 := Lib.hid (HIq.out.only ((Only.refl w.heap.size w3).setCell (p := ⟨w.heap.size, 4 + k * 3 + 2, none⟩) (.inl rfl) (.bool true)) (by omega))
        have hol := outs_len s1 k
        have hsz3 : w.heap.size + 2 ≤ w3.heap.size := by have := HOq.out.size; have := HZS.out; omega
        go_wp2_with (at_builtin; refine wpList_append_own _ rfl _ _ 40 rfl (w.heap.size + 2) 3 i0 (.int .i64 0) 1 8 Try.underlying40 hi hz0 hz1 hz2 rfl (by decide) _ _ _ rfl (World.ownsRow.alloc HI4.out _) ⟨w3.heap.size, 0, none⟩ 1 1 [.int .i64 k] rfl rfl ?c1 ?c2 ?c3 ?c4 ?c5 ?_)
        case c2 => simp [Value.oneCell']
        case c3 => unfold maxLen; omega
        case c4 => omega
        case c5 => omega
        intro v5 w5 hI5 hg5 _
        have hrow : ∀ r, u7.ownBlock = some r → w.heap.size + 2 ≤ r := fun r hr => (World.ownsRow.lt HI4.out r hr).1
        have HW5 := Lib.hid ((HW4.out.alloc (.cells #[.int .i64 k] 3)).grown hg5 (fun e => by have := hrow _ e.symm; omega))
        have HO5 := Lib.hid ((HO4.out.alloc (.cells #[.int .i64 k] 3)).grown hg5 (fun r e => by have := hrow _ e; have := HZS.out; omega))
        have hI6 : Ints w5 (w.heap.size + 2) v5 (s1.outs (k + 1)) := by
          rw [outs_yes HL.out]; unfold Ints
          rw [List.length_append, List.map_append]; exact hI5
        have HI6 := Lib.hid hI6
        clear hI5 hg5 hI6 g1 g2
        go_wp2_with fail
        go_roundw
        case rel => exact ⟨k + 1, by omega, by go_num, HI6.out, by rw [tickTo_yes HL.out]; exact HW5.out, HO5.out⟩
        case measure => simp [intOf]; omega
    · have hge : ¬ (k : Int) < s1.c := by omega
      obtain rfl : k = s1.c.toNat := by omega
      obtain ⟨cs', hb, hc⟩ := hWr
      have HC := Lib.hid hc; clear hc
      have HBl := Lib.hid hb; clear hb
      have HZr := Lib.hid (HOr.out.blk HZ.out (by omega))
      go_wp2_with (first | (refine wpl_load_blk rfl 35 _ rfl w.heap.size rfl 35 cs' _ HBl.out Try.underlying35 rfl HC.out.info ?_) | (refine wpl_store_blk rfl 35 _ _ rfl (w.heap.size + 1) 35 _ cs' rfl rfl HZr.out (by rw [HC.out.size]; rfl) HC.out.info HC.out.one ?_; intro w5 hB5 hO5 hz5))
      have hB0 := HB0.out.trans (HOr.out.below HB0.out.size (Nat.le_refl _))
      have hB : Below w.heap.size w w5 := hB0.trans (hO5.below hB0.size (by omega))
      refine bodyPost_ret (results_cell3 rfl _ _ (w.heap.size + 1) 35 _ _ rfl hB5 Try.underlying35 rfl HC.out.info) rfl ⟨⟨cs', u7, rfl, ?_, ?_⟩, hB⟩
      · rw [HE1.out]; exact HC.out
      · rw [HE2.out]; exact (HIr.out.only hO5 (by omega)).low (by omega)
end Go.Proofs.Ytgajbaipkhopkaa
