/- Contract: the document's frames of bytes. -/
import Derived.Test.YtnecoapbpicloaaXm
namespace Go.Proofs.Ytnecoapbpicloaa
open Go.RowKit
set_option linter.unusedSimpArgs false
set_option linter.unusedVariables false
set_option maxRecDepth 100000

structure FSt (w0 W : World) (u : Value) (fs : List (Nat × Value)) (ps : List (Nat × List By)) : Prop where
  row : OwnF W w0.heap.size u fs
  bod : Bodies W u fs ps
  bel : Below w0.heap.size w0 W
theorem OwnF.below {w w' : World} {base : Nat} {v : Value} {fs : List (Nat × Value)} (h : OwnF w base v fs) (hb : Below w.heap.size w w') : OwnF w' base v fs := by
  obtain ⟨h1, h2⟩ := h
  refine ⟨h1, ?_⟩
  rcases h2 with h2 | ⟨g, cap, cur, hv, hg, hh, r⟩
  · exact .inl h2
  · exact .inr ⟨g, cap, cur, hv, hg, (hb.block g (Array.getElem?_eq_some_iff.1 hh).1).trans hh, r⟩
theorem ownF_lt {w : World} {base : Nat} {v : Value} {fs : List (Nat × Value)} (h : OwnF w base v fs) : ∀ i, v.ownBlock = some i → base ≤ i ∧ i < w.heap.size := fun i e => World.ownsRow.lt h i e
theorem FSt.below {w0 W W' : World} {u : Value} {fs : List (Nat × Value)} {ps : List (Nat × List By)} (h : FSt w0 W u fs ps) (hb : Below W.heap.size W W') : FSt w0 W' u fs ps :=
  ⟨h.row.below hb, h.bod.below hb, h.bel.trans (hb.mono h.bel.size)⟩
theorem FSt.more {w0 W W' : World} {u u' : Value} {fs : List (Nat × Value)} {ps : List (Nat × List By)} (h : FSt w0 W u fs ps) {a : Option Addr} {c : Nat} {q : Nat × List By} (hy : Bys W a q.2.length q.2)
    (hu : ∀ g off, a = some ⟨g, off, none⟩ → 0 < q.2.length → u.ownBlock ≠ some g) (hr : OwnF W' w0.heap.size u' (fs ++ [(q.1, .slice a q.2.length c)])) (ht : Tch (fun i => u.ownBlock = some i) W W') (hm : Mv W u u') : FSt w0 W' u' (fs ++ [(q.1, .slice a q.2.length c)]) (ps ++ [q]) :=
  ⟨hr, (h.bod.snoc hy hu).grown ht hm, h.bel.trans (ht.below h.bel.size fun i e => (ownF_lt h.row i e).1)⟩
def PartsRes (w : World) (l : List By) (e : Ending) (w' : World) : Prop := ∃ u fs, e = .returned u ∧ FSt w w' u fs (partsB l)
set_option maxHeartbeats 4000000 in
theorem rframes_c (a : Option Addr) (n c : Nat) (l : List By) (w : World) (h : Bys w a n l) (hn : n ≤ 1000000) (hc : n ≤ c) :
    Calls Try.prog 29 #[.slice a n c] w (PartsRes w l) := by
  have H := Lib.hid h
  have hnil : a = none → n = 0 := by
    intro e
    rcases Nat.eq_zero_or_pos n with h0 | h0
    · exact h0
    · obtain ⟨g, off, e', _⟩ := h.cells h0
      rw [e] at e'; cases e'
  clear h
  go_enter Try.func29, Try.ntmps29
  go_wp2_with fail
  go_loopw [3, 4] (fun uv iv wr => ∃ (k : Nat) (u : Value) (fs : List (Nat × Value)) (ps : List (Nat × List By)), k ≤ n ∧ iv = .int .i64 (k : Int) ∧ u = uv ∧ FSt w wr u fs ps ∧ partsB l = ps ++ partsFrom k (l.drop k) ∧ ps.length ≤ k) (fun _ iv _ => n - (intOf iv).toNat)
  case atStart => exact ⟨0, _, [], [], Nat.zero_le _, rfl, rfl, ⟨OwnF.nil _ _, Bodies.nil _ _, Below.refl _ _⟩, rfl, Nat.le_refl _⟩
  case round =>
  obtain ⟨k, u, fs, ps, hk, rfl, rfl, hst, hps, hpl⟩ := hrel
  have HST := Lib.hid hst; have HPS := Lib.hid hps
  clear hst hps
  by_cases hlt : k < n
  · obtain ⟨A, C, hrun, hAC, hA⟩ := slice_low a n c k hk hc hnil
    have hrun2 : ∀ W, (Instr.sliceAt 22 (.slice a n c) (some (.int .i64 (k : Int))) none none).run Try.prog W = .ok (.slice A (n - k) C) W := hrun
    have HY := Lib.hid (hA wr l (H.out.below (HST.out.bel)))
    clear hrun hA
    go_wp2_with fail
    refine (rsplit_c A (n - k) C (l.drop k) _ HY.out (by omega) hAC).mono ?_
    rintro e w2 ⟨⟨ax, cx, rfl, hox⟩, hb⟩
    have HD : Hid ((l.drop k).length = n - k) := Lib.hid (by rw [List.length_drop, H.out.1])
    have hbd := splitB_bound (l.drop k)
    rw [HD.out] at hbd
    obtain ⟨lx, hlx⟩ : ∃ lx, lx = (splitB (l.drop k)).1 := ⟨_, rfl⟩
    obtain ⟨d, hd⟩ : ∃ d, d = (splitB (l.drop k)).2.1 := ⟨_, rfl⟩
    obtain ⟨no, hno⟩ : ∃ no, no = (splitB (l.drop k)).2.2 := ⟨_, rfl⟩
    obtain ⟨mx, hmx⟩ : ∃ mx, mx = lx.length := ⟨_, rfl⟩
    rw [← hlx] at hox hbd ⊢
    rw [← hmx] at hox ⊢
    rw [← hd, ← hno] at hbd
    rw [← hd, ← hno]
    obtain ⟨hb1, hb2, -⟩ := hbd
    have HLX := Lib.hid hlx; have HK := Lib.hid hd; have HNO := Lib.hid hno; have HMX := Lib.hid hmx
    have HOX := Lib.hid hox
    have hz := HST.out.bel.size
    have HFR : Hid (∀ i, u.ownBlock = some i → i < wr.heap.size) := Lib.hid fun i e => (ownF_lt HST.out.row i e).2
    have HST2 := Lib.hid (HST.out.below hb)
    have hz2 := hb.size
    clear hox hb hlx hd hno hmx HST hb2
    by_cases hstop : no ≠ 0 ∨ d = 0
    · have HE : Hid (partsFrom k (l.drop k) = []) := Lib.hid (partsFrom_stop (by rw [← HNO.out, ← HK.out]; exact hstop))
      rcases Classical.em (no = 0) with h0 | h0
      · have h1 : d = 0 := by rcases hstop with h | h <;> first | contradiction | exact h
        have q0 : (no != 0) = false := by simp [h0]
        have q1 : ((d : Int) == 0) = true := by simp [h1]
        have q2 : ((no : Int) == 0) = true := by simp [h0]
        clear hstop h0 h1 hb1
        go_wp2_with fail
        go_ret
        exact ⟨u, fs, rfl, by rw [HPS.out, HE.out, List.append_nil]; exact HST2.out⟩
      · have q0 : (no != 0) = true := by simpa using h0
        clear hstop h0 hb1
        go_wp2_with fail
        go_ret
        exact ⟨u, fs, rfl, by rw [HPS.out, HE.out, List.append_nil]; exact HST2.out⟩
    have hn0 : no = 0 := by
      rcases Classical.em (no = 0) with h | h
      · exact h
      · exact absurd (.inl h) hstop
    have hd0 : d ≠ 0 := fun e => hstop (.inr e)
    have q0 : (no != 0) = false := by simp [hn0]
    have q1 : ((d : Int) == 0) = false := by simp; omega
    have HE : Hid (partsFrom k (l.drop k) = (k + d, lx) :: partsFrom (k + d) (l.drop (k + d))) := Lib.hid (by
      rw [partsFrom_more (by rw [← HNO.out]; exact hn0) (by rw [← HK.out]; exact hd0) (by intro e; have := HD.out; rw [e] at this; simp at this; omega), ← HK.out, ← HLX.out, List.drop_drop])
    have hYX : Bys w2 ax mx lx := by
      obtain ⟨a9, c9, e9, _, hy9⟩ := HOX.out.bys
      cases e9
      rw [HMX.out]
      exact hy9
    have HYX := Lib.hid hYX
    have hfl : fs.length ≤ 1000000 := by rw [HST2.out.bod.1]; omega
    have hw1 : IntKind.i64.wrap ((k : Int) + (d : Int)) = (k : Int) + (d : Int) := by rw [IntKind.wrap_i64]; omega
    clear hstop hn0 hYX
    go_wp2_with (at_builtin; go_loud (refine wpl_append_part rfl _ _ rfl w.heap.size u fs rfl ?e1 _ (k + d, .slice ax mx cx) rfl ?e2 ?e3 rfl ?e4 ?e5 ?_))
    case e1 => exact HST2.out.row.below ((Below.refl _ _).alloc (Nat.le_refl _) _)
    case e4 => omega
    case e5 => simp; omega
    intro u4 w4 ho4 ht4 hm4
    have hal := (Below.refl w2.heap.size w2).alloc (Nat.le_refl _) (.cells #[.int .i64 ((k : Int) + (d : Int)), .slice ax mx cx] 73)
    have hyy := HYX.out.below hal
    rw [HMX.out] at ho4 hyy
    have HST3 := Lib.hid ((HST2.out.below hal).more (q := (k + d, lx)) (by rw [HMX.out]; exact hyy) (fun g off e hp eu => by
      have h1 := HFR.out g eu
      have h2 := (own_lt HOX.out g (by rw [e]; rfl)).1
      omega) ho4 (by rw [HMX.out] at ht4 ⊢; exact ht4) (by rw [HMX.out] at hm4 ⊢; exact hm4))
    clear hal hyy ho4 ht4 hm4
    go_wp2_with fail
    go_roundw
    case rel => exact ⟨k + d, u4, _, ps ++ [(k + d, lx)], by omega, by go_num, rfl, HST3.out, by rw [HPS.out, HE.out]; simp, by simp; omega⟩
    case measure => simp [intOf]; omega
  obtain rfl : k = n := by omega
  have HE : Hid (partsFrom k (l.drop k) = []) := Lib.hid (by rw [← H.out.1, List.drop_length]; rfl)
  go_wp2_with fail
  go_ret
  exact ⟨u, fs, rfl, by rw [HPS.out, HE.out, List.append_nil]; exact HST.out⟩
end Go.Proofs.Ytnecoapbpicloaa
