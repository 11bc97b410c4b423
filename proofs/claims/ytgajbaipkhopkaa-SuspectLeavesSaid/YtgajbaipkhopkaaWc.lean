/- Contracts: ticks go by. -/
import Derived.Test.YtgajbaipkhopkaaWb
namespace Go.Proofs.Ytgajbaipkhopkaa
open Go.RowKit

structure Sane (s : St) : Prop where
  c1 : 3 ≤ s.c
  c2 : s.c ≤ 9
  now0 : 0 ≤ s.now
  now1 : s.now ≤ 4611686018427387904
  since0 : ∀ p, 0 ≤ (s.pl p).since
  since1 : ∀ p, (s.pl p).since ≤ s.now

def St.tickTo (s : St) (k : Nat) : St := { s with pl := fun p => if p < k ∧ lateB s p = true then { s.pl p with susp := true } else s.pl p }
def St.outs (s : St) (k : Nat) : List Int := ((List.range k).filter (lateB s)).map Int.ofNat

theorem tickTo_zero (s : St) : s.tickTo 0 = s := by simp [St.tickTo]
theorem tickTo_pl {s : St} {k p : Nat} (h : k ≤ p) : (s.tickTo k).pl p = s.pl p := by simp only [St.tickTo]; rw [if_neg (by omega)]
theorem late_tickTo {s : St} {k p : Nat} (h : k ≤ p) : lateB (s.tickTo k) p = lateB s p := by
  unfold lateB; rw [tickTo_pl h]; rfl
theorem tickTo_no {s : St} {k : Nat} (h : lateB s k = false) : s.tickTo (k + 1) = s.tickTo k := by
  simp only [St.tickTo, St.mk.injEq, true_and]
  funext p
  by_cases hp : p = k
  · subst hp; simp [h]
  · by_cases h1 : p < k
    · simp [h1, show p < k + 1 from by omega]
    · simp [h1, show ¬ p < k + 1 from by omega]
theorem tickTo_yes {s : St} {k : Nat} (h : lateB s k = true) : s.tickTo (k + 1) = (s.tickTo k).put k { (s.tickTo k).pl k with susp := true } := by
  rw [tickTo_pl (Nat.le_refl k)]
  simp only [St.tickTo, St.put, St.mk.injEq, true_and]
  funext p
  by_cases hp : p = k
  · subst hp; simp [h]
  · by_cases h1 : p < k
    · simp [h1, hp, show p < k + 1 from by omega]
    · simp [h1, hp, show ¬ p < k + 1 from by omega]
theorem outs_no {s : St} {k : Nat} (h : lateB s k = false) : s.outs (k + 1) = s.outs k := by
  simp [St.outs, List.range_succ, List.filter_append, h]
theorem outs_yes {s : St} {k : Nat} (h : lateB s k = true) : s.outs (k + 1) = s.outs k ++ [(k : Int)] := by
  simp [St.outs, List.range_succ, List.filter_append, h]
theorem outs_len (s : St) (k : Nat) : (s.outs k).length ≤ k := by
  simp only [St.outs, List.length_map]
  exact Nat.le_trans (List.length_filter_le _ _) (by simp)
theorem setNow_sane {s : St} (h : Sane s) {n : Int} (h0 : 0 ≤ n) (h1 : s.now + n ≤ 4611686018427387904) : Sane (s.setNow (s.now + n)) :=
  ⟨h.c1, h.c2, by have := h.now0; simp [St.setNow]; omega, h1, h.since0, fun p => by have := h.since1 p; simp only [St.setNow]; omega⟩

theorem one_new (W : World) (n : Nat) (hn : n = W.heap.size) (v : Value) (t : TypeId) : ∀ (j : Nat) (u : Value), [v][j]? = some u → (W.alloc (.cells #[v] t)).cell? ((⟨n, 0, none⟩ : Addr).add j) = some u := by
  subst hn
  exact cell_one_new _ _ _
theorem info3 : (Try.prog.info? 3).map (fun i => (i.zero, i.size, i.bytes)) = some (some (.int .i64 0), 1, 8) := by kernel_rfl

set_option maxHeartbeats 1000000 in
theorem tick_ok (b : Nat) (s : St) (n : Int) (w : World) (hW : IsW w b s) (hs : Sane s) (n0 : 0 ≤ n) (n1 : n ≤ 2147483647) (n2 : s.now + n ≤ 4611686018427387904) :
    Calls Try.prog 15 #[.pointer (some ⟨b, 0, none⟩), .int .i64 n] w fun e w' => ∃ v, e = .returned (.tuple #[v, .int .i64 0]) ∧
      Ints w' w.heap.size v ((s.setNow (s.now + n)).outs s.c.toNat) ∧ IsW w' b ((s.setNow (s.now + n)).tickTo s.c.toNat) ∧ Only b w w' := by
  obtain ⟨i0, hi, hz0, hz1, hz2⟩ := info_parts info3
  have hs' := setNow_sane hs n0 n2
  have c1 := hs.c1
  have c2 := hs.c2
  have now0 := hs.now0
  have now1 := hs.now1
  have h0 := hW.c0
  have h1 := hW.c1
  have hf0 := hW.fz 0
  have hlt := hW.lt
  have hc0 : (s.c == 0) = false := by rw [beq_eq_false_iff_ne]; omega
  have hi1 : inB n 0 2147483647 = true := by simp [inB]; omega
  have Hc0 := Lib.hid hc0; clear hc0
  have Hi1 := Lib.hid hi1; clear hi1
  have HW1 := Lib.hid (hW.setNow (s.now + n))
  have HO1 := Lib.hid ((Only.refl b w).setCell (p := ⟨b, 0, none⟩) (.inl rfl) (.int .i64 (s.now + n)))
  go_enter Try.func15, Try.ntmps15
  go_wp2_with fail
  refine (none_no _ _ _ h1).mono ?_; rintro e w' ⟨rfl, rfl⟩
  rw [Hc0.out]
  go_wp2_with fail
  refine (in64 _ _ _ _).mono ?_; rintro e w' ⟨rfl, rfl⟩
  rw [Hi1.out]
  go_wp2_with fail
  refine (late_mk _ _).mono ?_; rintro e w' ⟨rfl, rfl⟩
  go_wp2_with fail
  have hW2 := HW1.out.alloc (.cells #[.pointer (some ⟨b, 0, none⟩)] 26)
  have hO2 := HO1.out.alloc (.cells #[.pointer (some ⟨b, 0, none⟩)] 26)
  have hx2 : ((w.setCell ⟨b, 0, none⟩ (.int .i64 (s.now + n))).alloc (.cells #[.pointer (some ⟨b, 0, none⟩)] 26)).cell? ⟨w.heap.size, 0, none⟩ = some (.pointer (some ⟨b, 0, none⟩)) := by
    have := blk0 (w := w.setCell ⟨b, 0, none⟩ (.int .i64 (s.now + n))) (t := 26) (c := #[.pointer (some ⟨b, 0, none⟩)]) (i := 0) (v := .pointer (some ⟨b, 0, none⟩)) rfl
    rwa [World.size_setCell] at this
  generalize (w.setCell ⟨b, 0, none⟩ (.int .i64 (s.now + n))).alloc (.cells #[.pointer (some ⟨b, 0, none⟩)] 26) = w2 at hW2 hO2 hx2 ⊢
  clear HW1 HO1 h0 h1 hf0 Hi1 Hc0
  have hc' : (s.setNow (s.now + n)).c = s.c := rfl
  obtain ⟨s1, hs1⟩ : ∃ s1, s1 = s.setNow (s.now + n) := ⟨_, rfl⟩
  rw [← hs1] at hs' hW2 hc'
  have Hs1 := Lib.hid hs1; clear hs1
  rw [← hc']
  rw [← hc'] at c1 c2
  have Hc' := Lib.hid hc'
  clear hc' hs hW
  go_loopw [4, 40] (fun v i wr => ∃ k : Nat, k ≤ s1.c.toNat ∧ i = .int .i64 k ∧ Ints wr (w.heap.size + 1) v (s1.outs k) ∧ IsW wr b (s1.tickTo k) ∧ Only b w wr ∧ wr.cell? ⟨w.heap.size, 0, none⟩ = some (.pointer (some ⟨b, 0, none⟩))) (fun _ i _ => s1.c.toNat - (intOf i).toNat)
  case atStart => exact ⟨0, Nat.zero_le _, rfl, World.ownsRow_nil _ _ _ _, by rw [tickTo_zero]; exact hW2, hO2, hx2⟩
  case round =>
    obtain ⟨k, hk, rfl, hI, hWr, hOr, hxr⟩ := hrel
    have hszr : w.heap.size < wr.heap.size := cell_lt hxr
    clear hW2 hO2 hx2
    by_cases hlt : k < s1.c.toNat
    · have hlt' : (k : Int) < s1.c := by omega
      cases hl : lateB s1 k
      · have Hl := Lib.hid hl; clear hl
        go_wp2_with fail
        refine (late_any b w.heap.size k _ _ (by omega) hxr hWr (by rw [tickTo_pl (Nat.le_refl k)]; exact hs'.since0 k) (by rw [tickTo_pl (Nat.le_refl k)]; exact hs'.since1 k) (by have := hs'.now1; show s1.now ≤ _; omega)).mono ?_
        rintro e w3 ⟨rfl, hb3⟩
        rw [late_tickTo (Nat.le_refl k), Hl.out]
        have hI3 := hI.only (Only.of_below hb3 b) (by omega)
        have hW3 := hWr.below hb3 (by omega)
        have hO3 := hOr.trans (Only.of_below hb3 b)
        have hx3 := (hb3.cell (p := ⟨w.heap.size, 0, none⟩) hszr).trans hxr
        rw [← tickTo_no Hl.out] at hW3
        rw [← outs_no Hl.out] at hI3
        clear hI hWr hOr hxr
        go_wp2_with fail
        go_roundw
        case rel => exact ⟨k + 1, by omega, by go_num, hI3, hW3, hO3, hx3⟩
        case measure => simp [intOf]; omega
      · have Hl := Lib.hid hl; clear hl
        go_wp2_with fail
        refine (late_any b w.heap.size k _ _ (by omega) hxr hWr (by rw [tickTo_pl (Nat.le_refl k)]; exact hs'.since0 k) (by rw [tickTo_pl (Nat.le_refl k)]; exact hs'.since1 k) (by have := hs'.now1; show s1.now ≤ _; omega)).mono ?_
        rintro e w3 ⟨rfl, hb3⟩
        rw [late_tickTo (Nat.le_refl k), Hl.out]
        have hI3 := hI.only (Only.of_below hb3 b) (by omega)
        have hW3 := hWr.below hb3 (by omega)
        have hO3 := hOr.trans (Only.of_below hb3 b)
        have hx3 := (hb3.cell (p := ⟨w.heap.size, 0, none⟩) hszr).trans hxr
        have g1 := hW3.p2 (p := k) (by omega)
        have g2 := hW3.fz (4 + k * 3 + 2)
        have hW4 := Lib.hid (hW3.setSusp (p := k) (by omega) true)
        have hO4 := Lib.hid (hO3.setCell (p := ⟨b, 4 + k * 3 + 2, none⟩) (.inl rfl) (.bool true))
        have hI4 := Lib.hid (hI3.only ((Only.refl b w3).setCell (p := ⟨b, 4 + k * 3 + 2, none⟩) (.inl rfl) (.bool true)) (by omega))
        clear hI hWr hOr hxr hI3 hW3 hO3
        have hol := outs_len s1 k
        have hsz3 := hb3.size
        go_wp2_with (at_builtin; refine wpList_append_own _ rfl _ _ 40 rfl (w.heap.size + 1) 3 i0 (.int .i64 0) 1 8 Try.underlying40 hi hz0 hz1 hz2 rfl (by decide) _ _ _ rfl (World.ownsRow.alloc hI4.out _) ⟨w3.heap.size, 0, none⟩ 1 1 [.int .i64 k] rfl rfl ?c1 ?c2 ?c3 ?c4 ?c5 ?_)
        case c1 => exact one_new _ _ (by simp) _ _
        case c2 => simp [Value.oneCell']
        case c3 => unfold maxLen; omega
        case c4 => omega
        case c5 => simp; omega
        intro v5 w5 hI5 hg5 _
        have hrow : ∀ r, u4.ownBlock = some r → w.heap.size + 1 ≤ r := fun r hr => (World.ownsRow.lt hI4.out r hr).1
        have hW5 := Lib.hid ((hW4.out.alloc (.cells #[.int .i64 k] 3)).grown hg5 (fun e => by have := hrow _ e.symm; omega))
        have hO5 := Lib.hid ((hO4.out.alloc (.cells #[.int .i64 k] 3)).grown hg5 (fun r e => by have := hrow _ e; omega))
        have hx4 : ((w3.setCell ⟨b, 4 + k * 3 + 2, none⟩ (.bool true)).alloc (.cells #[.int .i64 k] 3)).cell? ⟨w.heap.size, 0, none⟩ = some (.pointer (some ⟨b, 0, none⟩)) :=
          cell_al ((World.cell?_setCell_other _ _ _ _ (by intro e; injection e; omega)).trans hx3) _
        have hx5 := Lib.hid (hg5.cell hx4 (fun e => by have := hrow _ e.symm; simp at this; omega))
        have hI6 : Ints w5 (w.heap.size + 1) v5 (s1.outs (k + 1)) := by
          rw [outs_yes Hl.out]; unfold Ints
          rw [List.length_append, List.map_append]; exact hI5
        have hI6 := Lib.hid hI6
        clear hI5 hg5 hx4 hx3 g1 g2
        go_wp2
        go_roundw
        case rel => exact ⟨k + 1, by omega, by go_num, hI6.out, by rw [tickTo_yes Hl.out]; exact hW5.out, hO5.out, hx5.out⟩
        case measure => simp [intOf]; omega
    · have hge : ¬ (k : Int) < s1.c := by omega
      obtain rfl : k = s1.c.toNat := by omega
      have hI' := hI.low (Nat.le_succ w.heap.size)
      go_wp2
      go_ret2
      rw [← Hs1.out, ← Hc'.out]
      exact ⟨u4, rfl, hI', hWr, hOr⟩
end Go.Proofs.Ytgajbaipkhopkaa
