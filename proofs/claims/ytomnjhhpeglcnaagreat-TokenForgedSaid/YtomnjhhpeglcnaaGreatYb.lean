/- Contracts: the document's opening of tokens. -/
import Derived.Test.YtomnjhhpeglcnaaGreatYa
namespace Go.Proofs.YtomnjhhpeglcnaaGreat
open Go.RowKit
set_option linter.unusedSimpArgs false
set_option linter.unusedVariables false
set_option maxRecDepth 100000

theorem info78 : (Tryz.prog.info? 78).map (·.size) = some 2 := by kernel_rfl
/-- What the document's opening holds. -/
structure RO (w : World) (k : KS) (a : Option Addr) (n c : Nat) (W : World) : Prop where
  kb : Blk W w.heap.size 27 (kval k.first a n c)
  tb : Blk W (w.heap.size + 1) 31 (tcells 0 0 0)
  st : Strs W a n k.ms
  bel : Below w.heap.size w W
theorem RO.below {w W W' : World} {k : KS} {a : Option Addr} {n c : Nat} (h : RO w k a n c W) (hb : Below W.heap.size W W') : RO w k a n c W' :=
  ⟨h.kb.below hb h.kb.lt, h.tb.below hb h.tb.lt, h.st.below (Nat.le_refl _) hb, h.bel.trans (hb.mono h.bel.size)⟩
theorem RO.only {w W W' : World} {k : KS} {a : Option Addr} {n c g : Nat} (h : RO w k a n c W) (ho : Only g W W') (hg : w.heap.size + 2 ≤ g) (hs : ∀ g' off, a = some ⟨g', off, none⟩ → 0 < n → g' ≠ g) : RO w k a n c W' :=
  ⟨ho.blk h.kb (by omega), ho.blk h.tb (by omega), h.st.only ho hs, h.bel.trans (ho.below h.bel.size (by omega))⟩
theorem cur_no (a : Option Addr) (n c : Nat) (e : Int) : ∀ (i : Nat) (y : Int), (#[.slice a n c, .int .i64 e] : Array Value)[i]? ≠ some (.int .u8 y) := by
  intro i y h
  match i with
  | 0 => simp at h
  | 1 => simp at h
  | j + 2 => simp at h
/-- What the document's opening holds as it reads. -/
structure ROR (w : World) (k : KS) (a : Option Addr) (n c : Nat) (A : Option Addr) (nn : Nat) (l : List By) (G : Nat) (cur : Array Value) (s : RS) (W : World) : Prop where
  o : RO w k a n c W
  gb : Blk W G 78 cur
  rv : RV W (.agg cur) s
  by_ : Bys W A nn l
theorem ROR.below {w W W' : World} {k : KS} {a : Option Addr} {n c : Nat} {A : Option Addr} {nn : Nat} {l : List By} {G : Nat} {cur : Array Value} {s : RS} (h : ROR w k a n c A nn l G cur s W) (hb : Below W.heap.size W W') : ROR w k a n c A nn l G cur s W' :=
  ⟨h.o.below hb, h.gb.below hb h.gb.lt, h.rv.below hb, h.by_.below hb⟩
theorem ROR.put {w W W' : World} {k : KS} {a : Option Addr} {n c : Nat} {A : Option Addr} {nn : Nat} {l : List By} {G : Nat} {cur : Array Value} {s : RS} {A' : Option Addr} {c' : Nat} {s' : RS} (h : ROR w k a n c A nn l G cur s W) (hG : w.heap.size + 2 ≤ G) (hs : ∀ g' off, a = some ⟨g', off, none⟩ → 0 < n → g' ≠ G)
    (hy : Bys W A' s'.l.length s'.l) (hc : s'.l.length ≤ c') (hB : Blk W' G 78 #[.slice A' s'.l.length c', .int .i64 s'.e]) (ho : Only G W W') : ROR w k a n c A nn l G #[.slice A' s'.l.length c', .int .i64 s'.e] s' W' := by
  obtain ⟨a0, c0, e0, _, _⟩ := h.rv
  have hgb := h.gb
  injection e0 with e0
  rw [e0] at hgb
  exact ⟨h.o.only ho hG hs, hB, ⟨A', c', rfl, ho.tch.bys hy (fun g off e hn hg => far_cells hgb (cur_no _ _ _ _) hy g off e hn hg), hc⟩, ho.tch.bys h.by_ (fun g off e hn hg => far_cells hgb (cur_no _ _ _ _) h.by_ g off e hn hg)⟩
/-- What the document's opening holds ahead of its last comparison. -/
structure ROT (w : World) (k : KS) (a : Option Addr) (n c : Nat) (A : Option Addr) (nn : Nat) (l : List By) (G : Nat) (cs : Array Value) (W : World) : Prop where
  o : RO w k a n c W
  by_ : Bys W A nn l
  t : Blk W G 31 cs
  far : w.heap.size + 2 ≤ G
theorem ROT.below {w W W' : World} {k : KS} {a : Option Addr} {n c : Nat} {A : Option Addr} {nn : Nat} {l : List By} {G : Nat} {cs : Array Value} (h : ROT w k a n c A nn l G cs W) (hb : Below W.heap.size W W') : ROT w k a n c A nn l G cs W' :=
  ⟨h.o.below hb, h.by_.below hb, h.t.below hb h.t.lt, h.far⟩
set_option maxHeartbeats 8000000 in
theorem ropen_c (k : KS) (a : Option Addr) (n c : Nat) (s : ByteArray) (w : World) (h : RK w a n c k) (h1 : 0 < n) (h3 : n ≤ 3) (hf : k.first ≤ 1000000000) (hmay : ∀ x ∈ k.ms, mayM x = true) (hs : s.size ≤ 10000) :
    Calls Tryz.prog 11 #[.agg (kval k.first a n c), .string s] w fun e w' => e = .returned (.tuple #[(k.open_ (strB s)).1.val, .int .i64 (k.open_ (strB s)).2]) ∧ Below w.heap.size w w' := by
  obtain ⟨RES, hRES⟩ : ∃ RES, RES = k.open_ (strB s) := ⟨_, rfl⟩
  have HRES := Lib.hid hRES
  rw [← hRES]
  have hl := ((Below.refl w.heap.size w).alloc (Nat.le_refl _) (.cells (kval k.first a n c) 27)).alloc (by simp) (.cells (tcells 0 0 0) 31)
  have HR : Hid (RO w k a n c ((w.alloc (.cells (kval k.first a n c) 27)).alloc (.cells (tcells 0 0 0) 31))) := Lib.hid ⟨(Blk.new _ _ _).alloc _, Blk.new2 _ _ _ _, h.1.below (Nat.le_refl _) hl, hl⟩
  have HNL : Hid (k.ms.length = n) := Lib.hid h.1.1
  have HSZ : Hid ((strB s).length = s.size) := Lib.hid (strB_len s)
  have HLT : Hid (∀ g' off, a = some ⟨g', off, none⟩ → 0 < n → g' < w.heap.size) := Lib.hid (by
    intro g' off e hn
    obtain ⟨g, off2, e2, hg, _⟩ := h.1.cells hn
    rw [e] at e2; injection e2 with e2; injection e2 with e2; rw [e2]; exact hg)
  clear hRES h hl
  unfold kval
  by_cases hlong : 200 < s.size
  · have q : (200 : Int) < (s.size : Int) := by omega
    have HRE2 : Hid (RES = (Tok.zero, 3)) := Lib.hid (by rw [HRES.out]; unfold KS.open_; rw [HSZ.out, if_pos hlong])
    go_enter Tryz.func11, Tryz.ntmps11
    go_wp2_with (refine wpl_store_blk rfl 31 _ _ rfl (w.heap.size + 1) 31 _ (tcells 0 0 0) rfl rfl HR.out.tb rfl info31 (by kernel_rfl) ?_; intro w5 hB5 hO5 hz5)
    refine bodyPost_ret (results_cell2 rfl _ _ (w.heap.size + 1) 31 _ _ rfl hB5 Tryz.underlying31 rfl info31) rfl ⟨by rw [HRE2.out]; rfl, HR.out.bel.trans (hO5.below (B := w.heap.size) HR.out.bel.size (by omega))⟩
  have q : ¬ (200 : Int) < (s.size : Int) := by omega
  have HRU : Hid ((∀ b, unspellB (strB s) = some b → RES = openTB k b) ∧ (unspellB (strB s) = none → RES = (Tok.zero, 160))) := Lib.hid ⟨fun b e => by rw [HRES.out]; unfold KS.open_; rw [HSZ.out, if_neg hlong, e], fun e => by rw [HRES.out]; unfold KS.open_; rw [HSZ.out, if_neg hlong, e]⟩
  clear HRES
  go_enter Tryz.func11, Tryz.ntmps11
  go_wp2_with fail
  change Calls Tryz.prog 38 _ ((w.alloc (.cells (kval k.first a n c) 27)).alloc (.cells (tcells 0 0 0) 31)) _
  generalize ((w.alloc (.cells (kval k.first a n c) 27)).alloc (.cells (tcells 0 0 0) 31)) = w1 at HR ⊢
  refine (runspell_c s w1 hs).mono ?_
  rintro r w2 ⟨hb2, (⟨v2, l, hun, rfl, ho2⟩ | ⟨hun, rfl⟩)⟩
  rotate_left
  · have HR2 := Lib.hid (HR.out.below hb2)
    have HRE2 : Hid (RES = (Tok.zero, 160)) := Lib.hid (HRU.out.2 hun)
    clear hb2 hun
    go_wp2_with (refine wpl_store_blk rfl 31 _ _ rfl (w.heap.size + 1) 31 _ (tcells 0 0 0) rfl rfl HR2.out.tb rfl info31 (by kernel_rfl) ?_; intro w5 hB5 hO5 hz5)
    refine bodyPost_ret (results_cell2 rfl _ _ (w.heap.size + 1) 31 _ _ rfl hB5 Tryz.underlying31 rfl info31) rfl ⟨by rw [HRE2.out]; rfl, HR2.out.bel.trans (hO5.below (B := w.heap.size) HR2.out.bel.size (by omega))⟩
  have HV2 : Hid (RES = openTB k l) := Lib.hid (HRU.out.1 l hun)
  have hll : l.length ≤ 200 := by have := unspellB_len hun; have := HSZ.out; omega
  obtain ⟨A, c0, hv2, hc0, hy2⟩ := ho2.bys
  obtain ⟨nn, hn⟩ : ∃ nn, nn = l.length := ⟨_, rfl⟩
  have hn200 : nn ≤ 200 := by omega
  rw [← hn] at hv2
  have HNN := Lib.hid hn
  rw [← hn] at hy2
  subst hv2
  have HR2 := Lib.hid (HR.out.below hb2)
  have hal := (Below.refl w2.heap.size w2).alloc (Nat.le_refl _) (.cells #[.slice A nn c0, .int .i64 0] 78)
  obtain ⟨G, hG⟩ : ∃ G, G = w2.heap.size := ⟨_, rfl⟩
  have HGB : Hid (Blk (w2.alloc (.cells #[.slice A nn c0, .int .i64 0] 78)) G 78 #[.slice A nn c0, .int .i64 0]) := Lib.hid (by rw [hG]; exact Blk.new _ _ _)
  have HRV0 : Hid (RV (w2.alloc (.cells #[.slice A nn c0, .int .i64 0] 78)) (.agg #[.slice A nn c0, .int .i64 0]) ⟨l, 0⟩) := Lib.hid ⟨A, c0, by rw [hn], (by have := hy2.below hal; rw [hn] at this; exact (hn ▸ hy2.below hal)), hc0⟩
  have HBY : Hid (Bys (w2.alloc (.cells #[.slice A nn c0, .int .i64 0] 78)) A nn l) := Lib.hid (hy2.below hal)
  have HR3 := Lib.hid (HR2.out.below hal)
  have hGw : w.heap.size + 2 ≤ G := by rw [hG]; have := HR2.out.tb.lt; omega
  have HGS := Lib.hid hG
  clear hb2 hun ho2 hy2 hn hal hG HRU hll
  go_wp2_with fail
  rw [← HGS.out]
  clear HGS
  generalize w2.alloc (.cells #[.slice A nn c0, .int .i64 0] 78) = w3 at HGB HRV0 HBY HR3 ⊢
  have HQ0 : Hid (ROR w k a n c A nn l G #[.slice A nn c0, .int .i64 0] ⟨l, 0⟩ w3) := Lib.hid ⟨HR3.out, HGB.out, HRV0.out, HBY.out⟩
  clear HR3 HGB HRV0 HBY
  have hl0 : l.length ≤ 1000000000 := by have := HNN.out; omega
  have hsG : ∀ g' off, a = some ⟨g', off, none⟩ → 0 < n → g' ≠ G := by
    intro g' off e hn
    have := HLT.out g' off e hn
    omega
  refine (rr_number _ ⟨l, 0⟩ 2147483647 w3 HQ0.out.rv hl0).mono ?_
  rintro e z1 ⟨⟨y1, rfl, hrv1⟩, hb1⟩
  obtain ⟨r1, hr1⟩ : ∃ r, r = rnum ⟨l, 0⟩ 2147483647 := ⟨_, rfl⟩
  obtain ⟨x1, hx1⟩ : ∃ x, x = r1.2.1 := ⟨_, rfl⟩
  obtain ⟨e1, he1⟩ : ∃ x, x = r1.2.2 := ⟨_, rfl⟩
  have hl1 : r1.1.l.length ≤ 1000000000 := by have := rnum_len ⟨l, 0⟩ 2147483647; rw [← hr1] at this; exact Nat.le_trans this hl0
  have ht1 : (x1 : Int) ≤ 2147483647 := by have := rnum_top ⟨l, 0⟩ 2147483647 (by decide); rw [← hr1, ← hx1] at this; exact this
  rw [← hr1] at hrv1 ⊢
  rw [← hx1, ← he1]
  have HR1 := Lib.hid hr1; have HX1 := Lib.hid hx1; have HE1 := Lib.hid he1
  obtain ⟨A1, c1, rfl, hy1, hc1⟩ := hrv1
  have HY1 := Lib.hid hy1; have HC1 := Lib.hid hc1
  have HP1 := Lib.hid (HQ0.out.below hb1)
  clear hb1 hy1 hc1 hr1 hx1 he1
  go_wp2_with (first | (refine wpl_store_blk rfl 78 _ _ rfl G 78 _ #[.slice A1 r1.1.l.length c1, .int .i64 r1.1.e] rfl rfl HP1.out.gb rfl info78 (by kernel_rfl) ?_; intro v1 hB1 hO1 hz1; have HQ1 := Lib.hid (HP1.out.put hGw hsG HY1.out HC1.out hB1 hO1); clear hB1 hO1 hz1 HP1 HQ0 HY1 HC1) | (refine wpl_load_blk rfl 78 _ rfl G rfl 78 _ _ HQ1.out.gb Tryz.underlying78 rfl info78 ?_))
  change Calls Tryz.prog 39 _ v1 _
  refine (rr_number _ r1.1 15 v1 HQ1.out.rv hl1).mono ?_
  rintro e z2 ⟨⟨y2, rfl, hrv2⟩, hb2⟩
  obtain ⟨r2, hr2⟩ : ∃ r, r = rnum r1.1 15 := ⟨_, rfl⟩
  obtain ⟨x2, hx2⟩ : ∃ x, x = r2.2.1 := ⟨_, rfl⟩
  obtain ⟨e2, he2⟩ : ∃ x, x = r2.2.2 := ⟨_, rfl⟩
  have hl2 : r2.1.l.length ≤ 1000000000 := by have := rnum_len r1.1 15; rw [← hr2] at this; exact Nat.le_trans this hl1
  have ht2 : (x2 : Int) ≤ 15 := by have := rnum_top r1.1 15 (by decide); rw [← hr2, ← hx2] at this; exact this
  rw [← hr2] at hrv2 ⊢
  rw [← hx2, ← he2]
  have HR2 := Lib.hid hr2; have HX2 := Lib.hid hx2; have HE2 := Lib.hid he2
  obtain ⟨A2, c2, rfl, hy2, hc2⟩ := hrv2
  have HY2 := Lib.hid hy2; have HC2 := Lib.hid hc2
  have HP2 := Lib.hid (HQ1.out.below hb2)
  clear hb2 hy2 hc2 hr2 hx2 he2
  go_wp2_with (first | (refine wpl_store_blk rfl 78 _ _ rfl G 78 _ #[.slice A2 r2.1.l.length c2, .int .i64 r2.1.e] rfl rfl HP2.out.gb rfl info78 (by kernel_rfl) ?_; intro v2 hB2 hO2 hz2; have HQ2 := Lib.hid (HP2.out.put hGw hsG HY2.out HC2.out hB2 hO2); clear hB2 hO2 hz2 HP2 HQ1 HY2 HC2) | (refine wpl_load_blk rfl 78 _ rfl G rfl 78 _ _ HQ2.out.gb Tryz.underlying78 rfl info78 ?_))
  change Calls Tryz.prog 39 _ v2 _
  refine (rr_number _ r2.1 2147483647 v2 HQ2.out.rv hl2).mono ?_
  rintro e z3 ⟨⟨y3, rfl, hrv3⟩, hb3⟩
  obtain ⟨r3, hr3⟩ : ∃ r, r = rnum r2.1 2147483647 := ⟨_, rfl⟩
  obtain ⟨x3, hx3⟩ : ∃ x, x = r3.2.1 := ⟨_, rfl⟩
  obtain ⟨e3, he3⟩ : ∃ x, x = r3.2.2 := ⟨_, rfl⟩
  have hl3 : r3.1.l.length ≤ 1000000000 := by have := rnum_len r2.1 2147483647; rw [← hr3] at this; exact Nat.le_trans this hl2
  have ht3 : (x3 : Int) ≤ 2147483647 := by have := rnum_top r2.1 2147483647 (by decide); rw [← hr3, ← hx3] at this; exact this
  rw [← hr3] at hrv3 ⊢
  rw [← hx3, ← he3]
  have HR3 := Lib.hid hr3; have HX3 := Lib.hid hx3; have HE3 := Lib.hid he3
  obtain ⟨A3, c3, rfl, hy3, hc3⟩ := hrv3
  have HY3 := Lib.hid hy3; have HC3 := Lib.hid hc3
  have HP3 := Lib.hid (HQ2.out.below hb3)
  clear hb3 hy3 hc3 hr3 hx3 he3
  go_wp2_with (first | (refine wpl_store_blk rfl 78 _ _ rfl G 78 _ #[.slice A3 r3.1.l.length c3, .int .i64 r3.1.e] rfl rfl HP3.out.gb rfl info78 (by kernel_rfl) ?_; intro v3 hB3 hO3 hz3; have HQ3 := Lib.hid (HP3.out.put hGw hsG HY3.out HC3.out hB3 hO3); clear hB3 hO3 hz3 HP3 HQ2 HY3 HC3) | (refine wpl_load_blk rfl 78 _ rfl G rfl 78 _ _ HQ3.out.gb Tryz.underlying78 rfl info78 ?_))
  change Calls Tryz.prog 39 _ v3 _
  refine (rr_number _ r3.1 2147483647 v3 HQ3.out.rv hl3).mono ?_
  rintro e z4 ⟨⟨y4, rfl, hrv4⟩, hb4⟩
  obtain ⟨r4, hr4⟩ : ∃ r, r = rnum r3.1 2147483647 := ⟨_, rfl⟩
  obtain ⟨x4, hx4⟩ : ∃ x, x = r4.2.1 := ⟨_, rfl⟩
  obtain ⟨e4, he4⟩ : ∃ x, x = r4.2.2 := ⟨_, rfl⟩
  have hl4 : r4.1.l.length ≤ 1000000000 := by have := rnum_len r3.1 2147483647; rw [← hr4] at this; exact Nat.le_trans this hl3
  have ht4 : (x4 : Int) ≤ 2147483647 := by have := rnum_top r3.1 2147483647 (by decide); rw [← hr4, ← hx4] at this; exact this
  rw [← hr4] at hrv4 ⊢
  rw [← hx4, ← he4]
  have HR4 := Lib.hid hr4; have HX4 := Lib.hid hx4; have HE4 := Lib.hid he4
  obtain ⟨A4, c4, rfl, hy4, hc4⟩ := hrv4
  have HY4 := Lib.hid hy4; have HC4 := Lib.hid hc4
  have HP4 := Lib.hid (HQ3.out.below hb4)
  clear hb4 hy4 hc4 hr4 hx4 he4
  have HDEF : Hid (RES = if e1 ≠ 0 then (Tok.zero, 161) else if e2 ≠ 0 then (Tok.zero, 161) else if e3 ≠ 0 then (Tok.zero, 161) else if e4 ≠ 0 then (Tok.zero, 161) else if r4.1.l.length ≠ 16 then (Tok.zero, 161) else if ¬ (k.first ≤ x1 ∧ x1 ≤ k.newest) then (Tok.zero, 162) else if taggedB (k.at_ (x1 - k.first)) (laidN [(x1 : Int), (x2 : Int), (x3 : Int), (x4 : Int)]) = l then (⟨(x2 : Int), (x3 : Int), (x4 : Int)⟩, 0) else (Tok.zero, 161)) := Lib.hid (by rw [HV2.out, HE1.out, HE2.out, HE3.out, HE4.out, HX1.out, HX2.out, HX3.out, HX4.out, HR4.out, HR3.out, HR2.out, HR1.out]; rfl)
  clear HV2
  by_cases E1 : e1 = 0
  rotate_left
  · have HRE2 : Hid (RES = (Tok.zero, 161)) := Lib.hid (by rw [HDEF.out, if_pos E1])
    clear HDEF
    go_wp2_with (first | (refine wpl_store_blk rfl 78 _ _ rfl G 78 _ #[.slice A4 r4.1.l.length c4, .int .i64 r4.1.e] rfl rfl HP4.out.gb rfl info78 (by kernel_rfl) ?_; intro v4 hB4 hO4 hz4; have HQ4 := Lib.hid (HP4.out.put hGw hsG HY4.out HC4.out hB4 hO4); clear hB4 hO4 hz4 HP4 HQ3 HY4 HC4; have gc := HQ4.out.gb.cell (i := 0) rfl; have kc : _ = some (Value.int .i64 (k.first : Int)) := HQ4.out.o.kb.cell (i := 0) rfl) | (refine wpl_load_blk rfl 78 _ rfl G rfl 78 _ _ HQ4.out.gb Tryz.underlying78 rfl info78 ?_) | (refine wpl_store_blk rfl 31 _ _ rfl (w.heap.size + 1) 31 _ (tcells 0 0 0) rfl rfl HQ4.out.o.tb rfl info31 (by kernel_rfl) ?_; intro w5 hB5 hO5 hz5))
    refine bodyPost_ret (results_cell2 rfl _ _ (w.heap.size + 1) 31 _ _ rfl hB5 Tryz.underlying31 rfl info31) rfl ⟨by rw [HRE2.out]; rfl, HQ4.out.o.bel.trans (hO5.below (B := w.heap.size) HQ4.out.o.bel.size (by omega))⟩
  subst E1
  by_cases E2 : e2 = 0
  rotate_left
  · have HRE2 : Hid (RES = (Tok.zero, 161)) := Lib.hid (by rw [HDEF.out, if_neg (fun h => h rfl), if_pos E2])
    clear HDEF
    go_wp2_with (first | (refine wpl_store_blk rfl 78 _ _ rfl G 78 _ #[.slice A4 r4.1.l.length c4, .int .i64 r4.1.e] rfl rfl HP4.out.gb rfl info78 (by kernel_rfl) ?_; intro v4 hB4 hO4 hz4; have HQ4 := Lib.hid (HP4.out.put hGw hsG HY4.out HC4.out hB4 hO4); clear hB4 hO4 hz4 HP4 HQ3 HY4 HC4; have gc := HQ4.out.gb.cell (i := 0) rfl; have kc : _ = some (Value.int .i64 (k.first : Int)) := HQ4.out.o.kb.cell (i := 0) rfl) | (refine wpl_load_blk rfl 78 _ rfl G rfl 78 _ _ HQ4.out.gb Tryz.underlying78 rfl info78 ?_) | (refine wpl_store_blk rfl 31 _ _ rfl (w.heap.size + 1) 31 _ (tcells 0 0 0) rfl rfl HQ4.out.o.tb rfl info31 (by kernel_rfl) ?_; intro w5 hB5 hO5 hz5))
    refine bodyPost_ret (results_cell2 rfl _ _ (w.heap.size + 1) 31 _ _ rfl hB5 Tryz.underlying31 rfl info31) rfl ⟨by rw [HRE2.out]; rfl, HQ4.out.o.bel.trans (hO5.below (B := w.heap.size) HQ4.out.o.bel.size (by omega))⟩
  subst E2
  by_cases E3 : e3 = 0
  rotate_left
  · have HRE2 : Hid (RES = (Tok.zero, 161)) := Lib.hid (by rw [HDEF.out, if_neg (fun h => h rfl), if_neg (fun h => h rfl), if_pos E3])
    clear HDEF
    go_wp2_with (first | (refine wpl_store_blk rfl 78 _ _ rfl G 78 _ #[.slice A4 r4.1.l.length c4, .int .i64 r4.1.e] rfl rfl HP4.out.gb rfl info78 (by kernel_rfl) ?_; intro v4 hB4 hO4 hz4; have HQ4 := Lib.hid (HP4.out.put hGw hsG HY4.out HC4.out hB4 hO4); clear hB4 hO4 hz4 HP4 HQ3 HY4 HC4; have gc := HQ4.out.gb.cell (i := 0) rfl; have kc : _ = some (Value.int .i64 (k.first : Int)) := HQ4.out.o.kb.cell (i := 0) rfl) | (refine wpl_load_blk rfl 78 _ rfl G rfl 78 _ _ HQ4.out.gb Tryz.underlying78 rfl info78 ?_) | (refine wpl_store_blk rfl 31 _ _ rfl (w.heap.size + 1) 31 _ (tcells 0 0 0) rfl rfl HQ4.out.o.tb rfl info31 (by kernel_rfl) ?_; intro w5 hB5 hO5 hz5))
    refine bodyPost_ret (results_cell2 rfl _ _ (w.heap.size + 1) 31 _ _ rfl hB5 Tryz.underlying31 rfl info31) rfl ⟨by rw [HRE2.out]; rfl, HQ4.out.o.bel.trans (hO5.below (B := w.heap.size) HQ4.out.o.bel.size (by omega))⟩
  subst E3
  by_cases E4 : e4 = 0
  rotate_left
  · have HRE2 : Hid (RES = (Tok.zero, 161)) := Lib.hid (by rw [HDEF.out, if_neg (fun h => h rfl), if_neg (fun h => h rfl), if_neg (fun h => h rfl), if_pos E4])
    clear HDEF
    go_wp2_with (first | (refine wpl_store_blk rfl 78 _ _ rfl G 78 _ #[.slice A4 r4.1.l.length c4, .int .i64 r4.1.e] rfl rfl HP4.out.gb rfl info78 (by kernel_rfl) ?_; intro v4 hB4 hO4 hz4; have HQ4 := Lib.hid (HP4.out.put hGw hsG HY4.out HC4.out hB4 hO4); clear hB4 hO4 hz4 HP4 HQ3 HY4 HC4; have gc := HQ4.out.gb.cell (i := 0) rfl; have kc : _ = some (Value.int .i64 (k.first : Int)) := HQ4.out.o.kb.cell (i := 0) rfl) | (refine wpl_load_blk rfl 78 _ rfl G rfl 78 _ _ HQ4.out.gb Tryz.underlying78 rfl info78 ?_) | (refine wpl_store_blk rfl 31 _ _ rfl (w.heap.size + 1) 31 _ (tcells 0 0 0) rfl rfl HQ4.out.o.tb rfl info31 (by kernel_rfl) ?_; intro w5 hB5 hO5 hz5))
    refine bodyPost_ret (results_cell2 rfl _ _ (w.heap.size + 1) 31 _ _ rfl hB5 Tryz.underlying31 rfl info31) rfl ⟨by rw [HRE2.out]; rfl, HQ4.out.o.bel.trans (hO5.below (B := w.heap.size) HQ4.out.o.bel.size (by omega))⟩
  subst E4
  obtain ⟨m4, hm4⟩ : ∃ m, m = r4.1.l.length := ⟨_, rfl⟩
  by_cases E5 : m4 = 16
  rotate_left
  · have HRE2 : Hid (RES = (Tok.zero, 161)) := Lib.hid (by rw [HDEF.out, if_neg (fun h => h rfl), if_neg (fun h => h rfl), if_neg (fun h => h rfl), if_neg (fun h => h rfl), if_pos (by rw [← hm4]; exact E5)])
    clear HDEF
    have E6 : ¬ ((r4.1.l.length : Nat) : Int) = 16 := by omega
    go_wp2_with (first | (refine wpl_store_blk rfl 78 _ _ rfl G 78 _ #[.slice A4 r4.1.l.length c4, .int .i64 r4.1.e] rfl rfl HP4.out.gb rfl info78 (by kernel_rfl) ?_; intro v4 hB4 hO4 hz4; have HQ4 := Lib.hid (HP4.out.put hGw hsG HY4.out HC4.out hB4 hO4); clear hB4 hO4 hz4 HP4 HQ3 HY4 HC4; have gc := HQ4.out.gb.cell (i := 0) rfl; have kc : _ = some (Value.int .i64 (k.first : Int)) := HQ4.out.o.kb.cell (i := 0) rfl) | (refine wpl_load_blk rfl 78 _ rfl G rfl 78 _ _ HQ4.out.gb Tryz.underlying78 rfl info78 ?_) | (refine wpl_store_blk rfl 31 _ _ rfl (w.heap.size + 1) 31 _ (tcells 0 0 0) rfl rfl HQ4.out.o.tb rfl info31 (by kernel_rfl) ?_; intro w5 hB5 hO5 hz5))
    refine bodyPost_ret (results_cell2 rfl _ _ (w.heap.size + 1) 31 _ _ rfl hB5 Tryz.underlying31 rfl info31) rfl ⟨by rw [HRE2.out]; rfl, HQ4.out.o.bel.trans (hO5.below (B := w.heap.size) HQ4.out.o.bel.size (by omega))⟩
  have E6 : ((r4.1.l.length : Nat) : Int) = 16 := by omega
  have HDE2 : Hid (RES = if ¬ (k.first ≤ x1 ∧ x1 ≤ k.newest) then (Tok.zero, 162) else if taggedB (k.at_ (x1 - k.first)) (laidN [(x1 : Int), (x2 : Int), (x3 : Int), (x4 : Int)]) = l then (⟨(x2 : Int), (x3 : Int), (x4 : Int)⟩, 0) else (Tok.zero, 161)) := Lib.hid (by rw [HDEF.out, if_neg (fun h => h rfl), if_neg (fun h => h rfl), if_neg (fun h => h rfl), if_neg (fun h => h rfl), if_neg (by rw [← hm4]; exact fun h => h E5)])
  clear HDEF
  by_cases E7 : (x1 : Int) < (k.first : Int)
  · have HRE2 : Hid (RES = (Tok.zero, 162)) := Lib.hid (by rw [HDE2.out, if_pos (fun h => by omega)])
    clear HDE2
    go_wp2_with (first | (refine wpl_store_blk rfl 78 _ _ rfl G 78 _ #[.slice A4 r4.1.l.length c4, .int .i64 r4.1.e] rfl rfl HP4.out.gb rfl info78 (by kernel_rfl) ?_; intro v4 hB4 hO4 hz4; have HQ4 := Lib.hid (HP4.out.put hGw hsG HY4.out HC4.out hB4 hO4); clear hB4 hO4 hz4 HP4 HQ3 HY4 HC4; have gc := HQ4.out.gb.cell (i := 0) rfl; have kc : _ = some (Value.int .i64 (k.first : Int)) := HQ4.out.o.kb.cell (i := 0) rfl) | (refine wpl_load_blk rfl 78 _ rfl G rfl 78 _ _ HQ4.out.gb Tryz.underlying78 rfl info78 ?_) | (refine wpl_store_blk rfl 31 _ _ rfl (w.heap.size + 1) 31 _ (tcells 0 0 0) rfl rfl HQ4.out.o.tb rfl info31 (by kernel_rfl) ?_; intro w5 hB5 hO5 hz5))
    refine bodyPost_ret (results_cell2 rfl _ _ (w.heap.size + 1) 31 _ _ rfl hB5 Tryz.underlying31 rfl info31) rfl ⟨by rw [HRE2.out]; rfl, HQ4.out.o.bel.trans (hO5.below (B := w.heap.size) HQ4.out.o.bel.size (by omega))⟩
  go_wp2_with (first | (refine wpl_store_blk rfl 78 _ _ rfl G 78 _ #[.slice A4 r4.1.l.length c4, .int .i64 r4.1.e] rfl rfl HP4.out.gb rfl info78 (by kernel_rfl) ?_; intro v4 hB4 hO4 hz4; have HQ4 := Lib.hid (HP4.out.put hGw hsG HY4.out HC4.out hB4 hO4); clear hB4 hO4 hz4 HP4 HQ3 HY4 HC4; have gc := HQ4.out.gb.cell (i := 0) rfl; have kc : _ = some (Value.int .i64 (k.first : Int)) := HQ4.out.o.kb.cell (i := 0) rfl) | (refine wpl_load_blk rfl 78 _ rfl G rfl 78 _ _ HQ4.out.gb Tryz.underlying78 rfl info78 ?_) | (refine wpl_load_blk_g 27 _ rfl w.heap.size (by simp [Region.wanted, yielded]; omega) rfl 27 _ _ HQ4.out.o.kb Tryz.underlying27 rfl infoKR ?_))
  refine (rnewest_c k.first a n c v4 hf h1 (by omega)).mono ?_
  rintro e w6 ⟨rfl, hb6⟩
  have HQ6 := Lib.hid (HQ4.out.below hb6)
  clear hb6 gc kc
  have HNW : Hid (k.newest = k.first + n - 1) := Lib.hid (by unfold KS.newest; rw [HNL.out])
  by_cases E8 : ((x1 : Nat) : Int) > ((k.first + n - 1 : Nat) : Int)
  · have HRE2 : Hid (RES = (Tok.zero, 162)) := Lib.hid (by rw [HDE2.out, if_pos (fun h => by have := HNW.out; omega)])
    clear HDE2
    go_wp2_with (refine wpl_store_blk rfl 31 _ _ rfl (w.heap.size + 1) 31 _ (tcells 0 0 0) rfl rfl HQ6.out.o.tb rfl info31 (by kernel_rfl) ?_; intro w7 hB7 hO7 hz7)
    refine bodyPost_ret (results_cell2 rfl _ _ (w.heap.size + 1) 31 _ _ rfl hB7 Tryz.underlying31 rfl info31) rfl ⟨by rw [HRE2.out]; rfl, HQ6.out.o.bel.trans (hO7.below (B := w.heap.size) HQ6.out.o.bel.size (by omega))⟩
  have HDE3 : Hid (RES = if taggedB (k.at_ (x1 - k.first)) (laidN [(x1 : Int), (x2 : Int), (x3 : Int), (x4 : Int)]) = l then (⟨(x2 : Int), (x3 : Int), (x4 : Int)⟩, 0) else (Tok.zero, 161)) := Lib.hid (by rw [HDE2.out, if_neg (fun h => h ⟨by omega, by have := HNW.out; omega⟩)])
  clear HDE2 HNW
  go_wp2_with fail
  obtain ⟨g, off, hae, hg, _⟩ := HQ6.out.o.st.cells h1
  subst hae
  obtain ⟨d, hd⟩ : ∃ d, d = x1 - k.first := ⟨_, rfl⟩
  have hdn : d < n := by omega
  have hda : (x1 : Int) - (k.first : Int) = (d : Int) := by omega
  obtain ⟨x, hx⟩ : ∃ x, k.ms[d]? = some x := ⟨k.ms[d]'(by rw [HNL.out]; exact hdn), List.getElem?_eq_getElem _⟩
  have hxs : x.size ≤ 64 := by have := hmay x (List.mem_of_getElem? hx); unfold mayM at this; rw [decide_eq_true_eq] at this; exact this.2
  have HXA : Hid (k.at_ (x1 - k.first) = x) := Lib.hid (by unfold KS.at_; rw [← hd, List.getD_eq_getElem?_getD, hx]; rfl)
  have hcell : ∀ W, ROT w k (some ⟨g, off, none⟩) n c A nn l w6.heap.size #[.int .i64 (x2 : Int), .int .i64 (x3 : Int), .int .i64 (x4 : Int)] W → W.cell? ⟨g, off + d, none⟩ = some (.string x) := fun W hW => by
    obtain ⟨g', off', e', _, hc⟩ := hW.o.st.2 d x hx
    injection e' with e'; injection e' with e1 e2; subst e1; subst e2; exact hc
  have HC := Lib.hid hcell
  have hwr : IntKind.i64.wrap ((x1 : Int) - (k.first : Int)) = (d : Int) := by rw [hda]; exact IntWalk.i64_in _ (by omega)
  have hw2 : IntKind.i64.wrap (d : Int) = (d : Int) := IntWalk.i64_in _ (by omega)
  have hj2 : ¬ ((n : Int) ≤ (d : Int)) := by omega
  have hj3 : (d : Int) < (n : Int) := by omega
  have hS0 : ROT w k (some ⟨g, off, none⟩) n c A nn l w6.heap.size #[.int .i64 (x2 : Int), .int .i64 (x3 : Int), .int .i64 (x4 : Int)] (World.drew (w6.alloc (.cells #[.int .i64 (x2 : Int), .int .i64 (x3 : Int), .int .i64 (x4 : Int)] 31))) := by
    have hal := (Below.refl w6.heap.size w6).alloc (Nat.le_refl _) (.cells #[.int .i64 (x2 : Int), .int .i64 (x3 : Int), .int .i64 (x4 : Int)] 31)
    exact ROT.below ⟨HQ6.out.o.below hal, HQ6.out.by_.below hal, Blk.new _ _ _, by have := HQ6.out.o.tb.lt; omega⟩ (Below.refl _ _).drew
  clear HQ6 hcell hx hd hda
  refine wp_region_held_drew (S := (ROT w k (some ⟨g, off, none⟩) n c A nn l w6.heap.size #[.int .i64 (x2 : Int), .int .i64 (x3 : Int), .int .i64 (x4 : Int)])) (by kernel_rfl) hS0 ?_
  intro hS0'
  refine wpAnyH_take (i := 0) (v := .pointer (some ⟨w.heap.size, 1, none⟩)) rfl (by kernel_rfl) (by kernel_rfl) (by kernel_rfl) (fun _ _ _ h => h) (Or.inl ⟨by kernel_rfl, fun w hSw => ?_⟩) hS0' ?_
  · go_simp
  try simp only [Act.put, List.getElem_toArray, List.getElem_cons_succ, List.getElem_cons_zero, List.setIfInBounds_toArray, List.set_cons_zero, List.set_cons_succ]
  refine wpAnyH_take (i := 1) (v := .slice (some ⟨g, off, none⟩) n c) rfl (by kernel_rfl) (by kernel_rfl) (by kernel_rfl) (fun _ _ _ h => h) (Or.inl ⟨by kernel_rfl, fun w hSw => ?_⟩) hS0' ?_
  · have cc : _ = some (Value.slice (some ⟨g, off, none⟩) n c) := hSw.o.kb.cell (i := 1) rfl
    go_simp
  try simp only [Act.put, List.getElem_toArray, List.getElem_cons_succ, List.getElem_cons_zero, List.setIfInBounds_toArray, List.set_cons_zero, List.set_cons_succ]
  refine wpAnyH_take (i := 2) (v := .int .i64 (x1 : Int)) rfl (by kernel_rfl) (by kernel_rfl) (by kernel_rfl) (fun _ _ _ h => h) (Or.inl ⟨by kernel_rfl, fun w hSw => ?_⟩) hS0' ?_
  · go_simp
  try simp only [Act.put, List.getElem_toArray, List.getElem_cons_succ, List.getElem_cons_zero, List.setIfInBounds_toArray, List.set_cons_zero, List.set_cons_succ]
  refine wpAnyH_take (i := 3) (v := .pointer (some ⟨w.heap.size, 0, none⟩)) rfl (by kernel_rfl) (by kernel_rfl) (by kernel_rfl) (fun _ _ _ h => h) (Or.inl ⟨by kernel_rfl, fun w hSw => ?_⟩) hS0' ?_
  · go_simp
  try simp only [Act.put, List.getElem_toArray, List.getElem_cons_succ, List.getElem_cons_zero, List.setIfInBounds_toArray, List.set_cons_zero, List.set_cons_succ]
  refine wpAnyH_take (i := 4) (v := .int .i64 (k.first : Int)) rfl (by kernel_rfl) (by kernel_rfl) (by kernel_rfl) (fun _ _ _ h => h) (Or.inl ⟨by kernel_rfl, fun w hSw => ?_⟩) hS0' ?_
  · have cc : _ = some (Value.int .i64 (k.first : Int)) := hSw.o.kb.cell (i := 0) rfl
    go_simp
  try simp only [Act.put, List.getElem_toArray, List.getElem_cons_succ, List.getElem_cons_zero, List.setIfInBounds_toArray, List.set_cons_zero, List.set_cons_succ]
  refine wpAnyH_take (i := 5) (v := .int .i64 (d : Int)) rfl (by kernel_rfl) (by kernel_rfl) (by kernel_rfl) (fun _ _ _ h => h) (Or.inl ⟨by kernel_rfl, fun w hSw => ?_⟩) hS0' ?_
  · go_simp
  try simp only [Act.put, List.getElem_toArray, List.getElem_cons_succ, List.getElem_cons_zero, List.setIfInBounds_toArray, List.set_cons_zero, List.set_cons_succ]
  refine wpAnyH_take (i := 6) (v := .pointer (some ⟨g, off + d, none⟩)) rfl (by kernel_rfl) (by kernel_rfl) (by kernel_rfl) (fun _ _ _ h => h) (Or.inl ⟨by kernel_rfl, fun w hSw => ?_⟩) hS0' ?_
  · go_simp
  try simp only [Act.put, List.getElem_toArray, List.getElem_cons_succ, List.getElem_cons_zero, List.setIfInBounds_toArray, List.set_cons_zero, List.set_cons_succ]
  refine wpAnyH_take (i := 7) (v := .string x) rfl (by kernel_rfl) (by kernel_rfl) (by kernel_rfl) (fun _ _ _ h => h) (Or.inl ⟨by kernel_rfl, fun w hSw => ?_⟩) hS0' ?_
  · have cc := HC.out _ hSw
    go_simp
  try simp only [Act.put, List.getElem_toArray, List.getElem_cons_succ, List.getElem_cons_zero, List.setIfInBounds_toArray, List.set_cons_zero, List.set_cons_succ]
  refine wpAnyH_take (i := 8) (v := .int .i64 (x1 : Int)) rfl (by kernel_rfl) (by kernel_rfl) (by kernel_rfl) (fun _ _ _ h => h) (Or.inl ⟨by kernel_rfl, fun w hSw => ?_⟩) hS0' ?_
  · go_simp
  try simp only [Act.put, List.getElem_toArray, List.getElem_cons_succ, List.getElem_cons_zero, List.setIfInBounds_toArray, List.set_cons_zero, List.set_cons_succ]
  refine wpAnyH_take (i := 9) (v := .agg #[.int .i64 (x2 : Int), .int .i64 (x3 : Int), .int .i64 (x4 : Int)]) rfl (by kernel_rfl) (by kernel_rfl) (by kernel_rfl) (fun _ _ _ h => h) ?_ hS0' ?_
  · exact yieldsIf_load_blk (by kernel_rfl) 31 (.tmp 17) (by kernel_rfl) w6.heap.size (by kernel_rfl) 31 #[.int .i64 (x2 : Int), .int .i64 (x3 : Int), .int .i64 (x4 : Int)] _ (fun _ h => h.t) Tryz.underlying31 rfl info31
  try simp only [Act.put, List.getElem_toArray, List.getElem_cons_succ, List.getElem_cons_zero, List.setIfInBounds_toArray, List.set_cons_zero, List.set_cons_succ]
  refine wpAnyH_take (i := 12) (v := .slice A nn c0) rfl (by kernel_rfl) (by kernel_rfl) (by kernel_rfl) (fun _ _ _ h => h) (Or.inl ⟨by kernel_rfl, fun w hSw => ?_⟩) hS0' ?_
  · go_simp
  try simp only [Act.put, List.getElem_toArray, List.getElem_cons_succ, List.getElem_cons_zero, List.setIfInBounds_toArray, List.set_cons_zero, List.set_cons_succ]
  refine wpAnyH_take (i := 13) (v := .string (strOf l)) rfl (by kernel_rfl) (by kernel_rfl) (by kernel_rfl) (fun _ _ _ h => h) (Or.inl ⟨by kernel_rfl, fun w hSw => ?_⟩) hS0' ?_
  · have hrs := run_str w A nn c0 l hSw.by_
    go_simp
  try simp only [Act.put, List.getElem_toArray, List.getElem_cons_succ, List.getElem_cons_zero, List.setIfInBounds_toArray, List.set_cons_zero, List.set_cons_succ]
  refine wpAnyH_ready (rs := [10]) (by kernel_rfl) (by simp) ?_
  refine AllReadyH.cons (by rfl) ?_ AllReadyH.nil
  intro K hK
  go_simp
  refine (rwith_c x x1 x2 x3 x4 _ (by omega) (by omega) (by omega) (by omega) (by omega)).mono ?_
  rintro e w8 ⟨v5, rfl, ho5, hb5⟩
  obtain ⟨L, hL⟩ : ∃ L, L = taggedB x (laidN [(x1 : Int), (x2 : Int), (x3 : Int), (x4 : Int)]) := ⟨_, rfl⟩
  have HL := Lib.hid hL
  rw [← hL] at ho5
  obtain ⟨a5, c5, hv5, -, hy5⟩ := ho5.bys
  obtain ⟨n5, hn5⟩ : ∃ n5, n5 = L.length := ⟨_, rfl⟩
  rw [← hn5] at hv5 hy5
  subst hv5
  have hrs5 := run_str _ a5 n5 c5 L hy5
  obtain ⟨bb, hbb⟩ : ∃ bb : Bool, bb = ((strOf L).toList == (strOf l).toList) := ⟨_, rfl⟩
  have HBB := Lib.hid hbb
  have hbb2 := hbb.symm
  clear hL hn5 hy5 ho5 hbb
  refine hK.out _ _ (hS0'.below hb5) (fun hS1 => ?_)
  clear hK K
  refine wpAnyH_ready (rs := [11]) (by kernel_rfl) (by simp) ?_
  refine AllReadyH.cons (by rfl) ?_ AllReadyH.nil
  intro K hK
  go_simp
  refine hK.out _ _ hS1 (fun hS2 => ?_)
  clear hK K
  refine wpAnyH_take (i := 14) (v := .bool (!bb)) rfl (by kernel_rfl) (by kernel_rfl) (by kernel_rfl) (fun _ _ _ h => h) (Or.inl ⟨by kernel_rfl, fun w hSw => ?_⟩) hS2 ?_
  · go_simp
  try simp only [Act.put, List.getElem_toArray, List.getElem_cons_succ, List.getElem_cons_zero, List.setIfInBounds_toArray, List.set_cons_zero, List.set_cons_succ]
  refine wpAnyH_done (by kernel_rfl) ?_ _
  have HOF := Lib.hid hS2
  clear hbb2 hrs5 hS0'
  by_cases hb1 : bb = true
  · subst hb1
    have HRR : Hid (RES = (⟨(x2 : Int), (x3 : Int), (x4 : Int)⟩, 0)) := Lib.hid (by
      have e1 := HBB.out
      rw [str_eq] at e1
      rw [HDE3.out, if_pos (by rw [HXA.out, ← HL.out]; exact of_decide_eq_true e1.symm)])
    go_wp2_with (first | (refine wpl_load_blk rfl 31 _ rfl w6.heap.size rfl 31 _ _ HOF.out.t Tryz.underlying31 rfl info31 ?_) | (refine wpl_store_blk rfl 31 _ _ rfl (w.heap.size + 1) 31 _ (tcells (x2 : Int) (x3 : Int) (x4 : Int)) rfl rfl HOF.out.o.tb rfl info31 (by kernel_rfl) ?_; intro w9 hB9 hO9 hz9))
    refine bodyPost_ret (results_cell2 rfl _ _ (w.heap.size + 1) 31 _ _ rfl hB9 Tryz.underlying31 rfl info31) rfl ⟨by rw [HRR.out]; rfl, HOF.out.o.bel.trans (hO9.below (B := w.heap.size) HOF.out.o.bel.size (by omega))⟩
  have hb0 : bb = false := by simpa using hb1
  subst hb0
  have HRR : Hid (RES = (Tok.zero, 161)) := Lib.hid (by
    have e1 := HBB.out
    rw [str_eq] at e1
    rw [HDE3.out, if_neg (fun h => (of_decide_eq_false e1.symm) (by rw [HL.out, ← HXA.out]; exact h))])
  go_wp2_with (refine wpl_store_blk rfl 31 _ _ rfl (w.heap.size + 1) 31 _ (tcells 0 0 0) rfl rfl HOF.out.o.tb rfl info31 (by kernel_rfl) ?_; intro w9 hB9 hO9 hz9)
  refine bodyPost_ret (results_cell2 rfl _ _ (w.heap.size + 1) 31 _ _ rfl hB9 Tryz.underlying31 rfl info31) rfl ⟨by rw [HRR.out]; rfl, HOF.out.o.bel.trans (hO9.below (B := w.heap.size) HOF.out.o.bel.size (by omega))⟩
end Go.Proofs.YtomnjhhpeglcnaaGreat
