/- Contracts: what was written; what is left of it is a row of its own. -/
import Derived.Test.YticgknjjhkgggaaWp
namespace Go.Proofs.Yticgknjjhkgggaa
open Go.RowKit Go.Shelf
attribute [local go_sem] Oper.semAt_some
set_option linter.unusedSimpArgs false
set_option linter.unusedVariables false

/-- A hash whose left bytes lie in no block below F. -/
def IsHashF (w : World) (b : Nat) (h0 : List Wo) (d : List By) (wide len F : Nat) : Prop :=
  h0.length = 8 ∧ 1 ≤ wide ∧ wide ≤ 32 ∧ d.length ≤ 100000000000 ∧ ∃ a c, Blk w b 0057 (scells (pressN h0 0 d (full d)) (64 * full d) [.slice a (leftOf d).length c, .int .i64 (wide : Int), .int .i64 (len : Int)]) ∧
    Bys w a (leftOf d).length (leftOf d) ∧ ∀ x off, a = some ⟨x, off, none⟩ → 0 < (leftOf d).length → x ≠ b ∧ F ≤ x
theorem IsHashF.hash {w : World} {b : Nat} {h0 : List Wo} {d : List By} {wide len F : Nat} (h : IsHashF w b h0 d wide len F) : IsHash w b h0 d wide len := by
  obtain ⟨h1, h2, h3, h4, a, c, h5, h6, h7⟩ := h
  exact ⟨h1, h2, h3, h4, a, c, h5, h6, fun x off e h0 => (h7 x off e h0).1⟩
theorem IsHashF.only {w w' : World} {b g : Nat} {h0 : List Wo} {d : List By} {wide len F : Nat} (h : IsHashF w b h0 d wide len F) (hO : Only g w w') (hg : g ≠ b) (hF : g < F) : IsHashF w' b h0 d wide len F := by
  obtain ⟨h1, h2, h3, h4, a, c, h5, h6, h7⟩ := h
  exact ⟨h1, h2, h3, h4, a, c, hO.blk h5 (by omega), h6.only hO (fun x off e h0 => by have := (h7 x off e h0).2; omega), h7⟩
theorem IsHash.fresh {w w' w2 : World} {b g : Nat} {h0 : List Wo} {d : List By} {wide len : Nat} (h : IsHash w b h0 d wide len) (hb : Below w.heap.size w w') (hg : w.heap.size ≤ g) (hO : Only g w' w2) : IsHash w2 b h0 d wide len := by
  have hl := h.lt
  obtain ⟨h1, h2, h3, h4, a, c, h5, h6, h7⟩ := h
  exact ⟨h1, h2, h3, h4, a, c, hO.blk (h5.below hb h5.lt) (by omega), (h6.below hb).only hO (fun x off e h0 => by obtain ⟨x', off', e', hx, _⟩ := h6.cells h0; rw [e] at e'; injection e' with e'; injection e' with e1 e2; omega), h7⟩
/-- The last block was met. -/
def WXF (w0 : World) (b s : Nat) (P : List Wo) (n0 : Nat) (D : List By) (m : Nat) (wide len : Nat) (c : Code) (pre : List Nat) (W : World) : Prop :=
  c = .ret ∧ ∃ pre' x, pre = pre' ++ [x] ∧ m - 64 * x ≤ 64 ∧ (∀ y ∈ pre', 64 < m - 64 * y) ∧ ∃ a c, Blk W b 0057 (scells (pressL P n0 D pre').1 (n0 + 64 * pre'.length) [.slice a (blockAt D x).length c, .int .i64 (wide : Int), .int .i64 (len : Int)]) ∧
    Bys W a (blockAt D x).length (blockAt D x) ∧ (∀ g off, a = some ⟨g, off, none⟩ → 0 < (blockAt D x).length → g ≠ b ∧ w0.heap.size ≤ g) ∧ Only b w0 W ∧ Blk W (s + 1) 0040 #[.int .i64 0]
theorem WXF.own {w0 W4 : World} {b s n0 m wide len : Nat} {P : List Wo} {D : List By} (c : Code) (hB : w0.heap.size ≤ W4.heap.size) : OwnFrom W4.heap.size (WXF w0 b s P n0 D m wide len c) := by
  intro pre W W' row h hg hr
  obtain ⟨hc, pre', x, h1, h2, h3, a, cc, h4, h5, h6, h7, h8⟩ := h
  exact ⟨hc, pre', x, h1, h2, h3, a, cc, h4.keep hg hr, h5.keep hg hr, h6, h7.grown hg (fun k e => .inr (Nat.le_trans hB (hr k e).1)), h8.keep hg hr⟩
set_option maxRecDepth 100000 in
set_option maxHeartbeats 4000000 in
theorem write_inF (b : Nat) (h0 : List Wo) (d : List By) (wide len : Nat) (a : Option Addr) (n c : Nat) (l : List By) (w : World) (hH : IsHash w b h0 d wide len) (hl : Bys w a n l) (hn : n ≤ 100000000) (hd : d.length + n ≤ 100000000000) (hlen : len ≤ 1000000000000) :
    CallsIn Fence.wide 5 Try.prog 22 #[.pointer (some ⟨b, 0, none⟩), .slice a n c] w fun e w' => e = .returned (.int .i64 0) ∧ IsHashF w' b h0 (d ++ l) wide (len + n) w.heap.size ∧ Only b w w' := by
  have HH := Lib.hid hH
  have HL := Lib.hid hl
  clear hH hl
  refine callsIn_of_wp_marks Try.func22 rfl trivial ?_ rfl
  simp only [Try.ntmps22, List.size_toArray, List.length_cons, List.length_nil, Nat.reduceAdd, Nat.reduceSub, Array.replicate_succ, Array.replicate_zero, List.push_toArray, List.append_toArray, List.nil_append, List.cons_append]
  gi_wp2_with fail
  refine ⟨trivial, ?_⟩
  have HH2 := Lib.hid (HH.out.below (((Below.refl w.heap.size w).alloc (Nat.le_refl _) (.cells #[.pointer (some ⟨b, 0, none⟩)] 46)).alloc (by simp) (.cells #[.int .i64 0] 40)))
  refine (callsIn_wide.2 (none_no b _ _ _ _ _ HH2.out)).mono ?_
  rintro e w' ⟨rfl, rfl⟩
  obtain ⟨hh0, hw1, hw2, hdl, la, lc, hblk, hlb, hsep⟩ := HH2.out
  have hO2 := ((Only.refl b w).alloc (.cells #[.pointer (some ⟨b, 0, none⟩)] 46)).alloc (.cells #[.int .i64 0] 40)
  have hbx := (Blk.new w 46 #[.pointer (some ⟨b, 0, none⟩)]).alloc (.cells #[.int .i64 0] 40)
  have hrc := Blk.new2 w (.cells #[.pointer (some ⟨b, 0, none⟩)] 46) 40 #[.int .i64 0]
  have hL2 := HL.out.below (((Below.refl w.heap.size w).alloc (Nat.le_refl _) (.cells #[.pointer (some ⟨b, 0, none⟩)] 46)).alloc (by simp) (.cells #[.int .i64 0] 40))
  have hbs : b < w.heap.size := HH.out.lt
  obtain ⟨P, hP⟩ : ∃ P, P = pressN h0 0 d (full d) := ⟨_, rfl⟩
  have hPl : P.length = 8 := by rw [hP, pressN_len]; exact hh0
  rw [← hP] at hblk
  obtain ⟨s, hs⟩ : ∃ s, s = w.heap.size := ⟨_, rfl⟩
  rw [← hs] at hbx hrc hbs ⊢
  have Hs := Lib.hid hs
  obtain ⟨q, hq⟩ : ∃ q, q = (leftOf d).length := ⟨_, rfl⟩
  have hq64 : q ≤ 64 := by rw [hq]; exact left_le d
  rw [← hq] at hblk hlb hsep
  have Hq := Lib.hid hq; have HP := Lib.hid hP; have HPL := Lib.hid hPl
  clear hs hq hP hPl HH2
  generalize (World.alloc _ _) = W1 at hblk hlb hO2 hbx hrc hL2 ⊢
  have c11 := cell11 hblk HPL.out
  have c9 := cell9 hblk HPL.out
  have f11 := hblk.frozen 11
  have cbx : W1.cell? ⟨s, 0, none⟩ = some (.pointer (some ⟨b, 0, none⟩)) := hbx.cell rfl
  have hlw : IntKind.i64.wrap ((len : Int) + (n : Int)) = (len : Int) + (n : Int) := IntWalk.i64_in _ (by omega)
  have Hblk := Lib.hid (set11 hblk HPL.out (.int .i64 ((len : Int) + (n : Int))))
  have Hlb := Lib.hid (hlb.only ((Only.refl b W1).setCell (p := ⟨b, 11, none⟩) (.inl rfl) (.int .i64 ((len : Int) + (n : Int)))) hsep)
  have HO := Lib.hid (hO2.setCell (p := ⟨b, 11, none⟩) (.inl rfl) (.int .i64 ((len : Int) + (n : Int))))
  have Hbx := Lib.hid (hbx.far (p := ⟨b, 11, none⟩) (Nat.ne_of_gt hbs) (.int .i64 ((len : Int) + (n : Int))))
  have Hrc := Lib.hid (hrc.far (p := ⟨b, 11, none⟩) (show s + 1 ≠ b by omega) (.int .i64 ((len : Int) + (n : Int))))
  have HLn := Lib.hid (hL2.only ((Only.refl b W1).setCell (p := ⟨b, 11, none⟩) (.inl rfl) (.int .i64 ((len : Int) + (n : Int)))) (bys_apart hblk HPL.out (fun c e => by cases e) hL2))
  have hz : (W1.setCell ⟨b, 11, none⟩ (.int .i64 ((len : Int) + (n : Int)))).heap.size = W1.heap.size := by simp
  have HZ := Lib.hid hz
  clear hblk hlb hO2 hbx hrc hL2 hz
  gi_wp2_with fail
  refine ⟨trivial, ?_⟩
  clear c9 c11 f11 cbx hlw
  rw [← HZ.out]
  clear HZ
  generalize (World.setCell _ _ _) = W2 at Hblk Hlb HO Hbx Hrc HLn ⊢
  have hp := Prs.two lc c 33 Hlb.out HLn.out (by omega) (by omega)
  have HP2 := Lib.hid hp
  have HWI := Lib.hid (show WI w b s (s + 1) _ _ a n l (W2.alloc (.cells #[.slice la q lc, .slice a n c] 33)) from ⟨Hblk.out.alloc _, Hbx.out.alloc _, Hrc.out.alloc _, HLn.out.below ((Below.refl _ _).alloc (Nat.le_refl _) _), HO.out.alloc _⟩)
  have HLa := Lib.hid (Hlb.out.below ((Below.refl _ _).alloc (Nat.le_refl _) (.cells #[.slice la q lc, .slice a n c] 33)))
  clear hp Hblk Hlb HO Hbx Hrc HLn
  refine (callsIn_wide.2 (concat_c _ 2 2 _ _ HP2.out (by decide) (by have := HL.out.1; have := Hq.out; simp; omega))).mono ?_
  rintro e W3 ⟨v, rfl, hv, hb3⟩
  obtain ⟨D, hD⟩ : ∃ D, D = leftOf d ++ l := ⟨_, rfl⟩
  have hDl : D.length = q + n := by rw [hD, List.length_append, ← Hq.out, HL.out.1]
  have hv2 : OwnB W3 (W2.alloc (.cells #[.slice la q lc, .slice a n c] 33)).heap.size v D := by
    have e : [leftOf d, l].flatten = D := by simp [hD]
    rw [e] at hv; exact hv
  clear hv
  have HWI := Lib.hid (HWI.out.below hb3)
  have HLa := Lib.hid (HLa.out.below hb3)
  clear hb3
  have HD := Lib.hid hD
  have HDL := Lib.hid hDl
  clear hD
  generalize (World.alloc _ _).heap.size = base at hv2 ⊢
  obtain ⟨ad, vc, rfl, hvc, hnil, hbase, hvb⟩ := own_form hv2
  have HVB := Lib.hid hvb
  have Hnil := Lib.hid hnil
  clear hv2 hvb hnil hbase base
  obtain ⟨m, hm⟩ : ∃ m, m = D.length := ⟨_, rfl⟩
  rw [← hm] at HDL HVB hvc ⊢
  have Hm := Lib.hid hm
  clear hm
  obtain ⟨va, hva⟩ : ∃ va, va = Option.map (fun g => (⟨g, 0, none⟩ : Addr)) ad := ⟨_, rfl⟩
  rw [← hva] at HVB ⊢
  have Hva := Lib.hid hva
  clear hva
  gi_wp2_with fail
  refine ⟨trivial, ?_⟩
  refine (callsIn_wide.2 (blocks_c _ _ _ _)).mono ?_
  rintro e W4 ⟨rfl, rfl⟩
  have HWI := Lib.hid (HWI.out.below ((Below.refl W3.heap.size W3).alloc (Nat.le_refl _) (.cells #[.slice va m vc] 33)))
  have HVB := Lib.hid (HVB.out.below ((Below.refl W3.heap.size W3).alloc (Nat.le_refl _) (.cells #[.slice va m vc] 33)))
  have HBs : Hid ((W3.alloc (.cells #[.slice va m vc] 33)).cell? ⟨W3.heap.size, 0, none⟩ = some (.slice va m vc)) := Lib.hid (blk0 rfl)
  have HBl : Hid (W3.heap.size < (W3.alloc (.cells #[.slice va m vc] 33)).heap.size) := Lib.hid (by simp)
  generalize W3.heap.size = Bs at HBs HBl ⊢
  generalize (World.alloc _ _) = W4 at HWI HVB HBs HBl ⊢
  gi_wp2_with fail
  have HB4b : Hid (b < W4.heap.size) := Lib.hid HWI.out.blk.lt
  have hB4 : w.heap.size ≤ W4.heap.size := HWI.out.only.size
  have hrest : Hid (((len : Int) + (n : Int)) = ((len + n : Nat) : Int)) := Lib.hid (by omega)
  rw [hrest.out] at HWI
  obtain ⟨n0, hn0⟩ : ∃ n0, n0 = 64 * full d := ⟨_, rfl⟩
  rw [← hn0] at HWI
  have hn0b : n0 ≤ 100000000000 := by have := full_le d; omega
  have Hn0 := Lib.hid hn0
  clear hn0
  refine wpIn_rangeFunc_ownG rfl (by omega) (gf := 42) (lb := #[.pointer (some ⟨Bs, 0, none⟩)]) rfl trivial (enters_of Try.func42 (by kernel_rfl) rfl)
    (blocks_stops 4 Bs ad m vc W4 HBl.out (by rw [← Hva.out]; exact HBs.out) hvc Hnil.out) (fun _ _ => trivial) (fun _ _ _ _ _ _ _ _ => trivial) (Below.refl _ _) (fun _ => rfl)
    (WJ w b s P n0 D m va [.slice la q lc, .int .i64 (wide : Int), .int .i64 ((len + n : Nat) : Int)])
    (WXF w b s P n0 D m wide (len + n))
    (WJ.own hB4) (fun c => WXF.own c hB4) ⟨fun x hx => by simp at hx, ⟨HWI.out.blk, HWI.out.box, HWI.out.res, HVB.out, HWI.out.only⟩⟩
    (fun x => { tmps := #[.pointer (some ⟨b, 0, none⟩), .slice a n c, .pointer (some ⟨s, 0, none⟩), undef, .pointer (some ⟨s + 1, 0, none⟩), .slice (Option.map (fun g => (⟨g, 64 * x, none⟩ : Addr)) ad) (min 64 (m - 64 * x)) (vc - 64 * x), .bool (decide (m - 64 * x ≤ 64)), .pointer (some ⟨b, 0, none⟩), .bool false, .pointer (some ⟨b, 0, none⟩), .pointer (some ⟨b, 0, none⟩), .pointer (some ⟨b, 11, none⟩), .int .i64 (len : Int), .slice a n c, .int .i64 (n : Int), .int .i64 ((len : Int) + (n : Int)), .pointer (some ⟨b, 0, none⟩), .pointer (some ⟨b, 11, none⟩), .pointer (some ⟨b, 0, none⟩), .pointer (some ⟨b, 0, none⟩), .pointer (some ⟨b, 9, none⟩), .slice la q lc, .slice a n c, .slice (some ⟨W2.heap.size, 0, none⟩) 2 2, .slice va m vc, .func (.func 42) #[] #[.pointer (some ⟨Bs, 0, none⟩)], .slice (Option.map (fun g => (⟨g, 64 * x, none⟩ : Addr)) ad) (min 64 (m - 64 * x)) (vc - 64 * x), .bool (decide (m - 64 * x ≤ 64)), undef, undef, undef, undef, undef, undef, undef, undef, undef, undef, undef], defers := [] }) ?assign ?body ?done ?stop
  case assign =>
    intro l x W K hK
    simp only [blkEnc]
    generalize (decide (m - 64 * x ≤ 64)) = bb at hK ⊢
    gi_wp2
    exact hK
  case body =>
    rintro l' pre x W ⟨hpre, hI⟩ hlt
    have HI := Lib.hid hI
    obtain ⟨hbl, hbb⟩ := bys_block (by rw [← Hva.out]; exact hI.dat) x
    have HBB := Lib.hid hbb
    have HBl2 := Lib.hid hbl
    have Hpre := Lib.hid hpre
    have cbox : W.cell? ⟨s, 0, none⟩ = some (.pointer (some ⟨b, 0, none⟩)) := hI.box.cell rfl
    clear hI hbb hbl hpre
    obtain ⟨xa, hxa⟩ : ∃ xa, xa = Option.map (fun g => (⟨g, 64 * x, none⟩ : Addr)) ad := ⟨_, rfl⟩
    obtain ⟨xl, hxl⟩ : ∃ xl, xl = min 64 (m - 64 * x) := ⟨_, rfl⟩
    rw [← hxa, ← hxl] at HBB
    rw [← hxl] at HBl2
    rw [← hxa, ← hxl]
    have hxl64 : xl ≤ 64 := by rw [hxl]; omega
    have Hxl := Lib.hid hxl
    clear hxa hxl
    by_cases hr : m - 64 * x ≤ 64
    · rw [decide_eq_true hr]
      have Hr := Lib.hid hr
      clear hr
      gi_wp2_with fail
      refine wpIn_region_any (by kernel_rfl) ?_
      change wpAnyIn _ _ _ _ _ _ _ _ _ (World.drew _)
      have HI := Lib.hid (show WI w b s (s + 1) _ _ va m D W.drew from ⟨HI.out.blk, HI.out.box, HI.out.res, HI.out.dat, HI.out.only.drew⟩)
      have HBB := Lib.hid (HBB.out.below (Below.refl W.heap.size W).drew)
      have HKF := Lib.hid ((KeepsOthers.drew W).from W4.heap.size)
      have cbox : W.drew.cell? ⟨s, 0, none⟩ = some (.pointer (some ⟨b, 0, none⟩)) := HI.out.box.cell rfl
      generalize W.drew = Wd at HI HBB HKF cbox ⊢
      refine wpAnyIn_ready (rs := [0, 1]) (by kernel_rfl) (by simp) ?_
      refine AllReadyIn.cons (by rfl) ?_ ?_
      · intro K hK
        go_simp
        refine hK _ _ ?_
        clear hK K
        refine wpAnyIn_ready (rs := [1]) (by kernel_rfl) (by simp) ?_
        refine AllReadyIn.cons (by rfl) ?_ AllReadyIn.nil
        intro K hK
        go_simp
        refine hK _ _ ?_
        clear hK K
        refine wpAnyIn_ready (rs := [2]) (by kernel_rfl) (by simp) ?_
        refine AllReadyIn.cons (by rfl) ?_ AllReadyIn.nil
        intro K hK
        go_simp
        refine ⟨trivial, ?_⟩
        refine (CallsIn.inRound l' (callsIn_wide.2 (clone_c xa xl _ (blockAt D x) _ HBB.out (by omega)))).mono ?_
        rintro e We ⟨v, rfl, hv, hbe⟩
        obtain ⟨ad', cv, rfl, hcv, -, hbase, hvb⟩ := own_form hv
        have hsep' : ∀ g off, Option.map (fun g => (⟨g, 0, none⟩ : Addr)) ad' = some ⟨g, off, none⟩ → 0 < (blockAt D x).length → g ≠ b ∧ w.heap.size ≤ g := fun g off e _ => by
          cases ad' with
          | none => cases e
          | some g' =>
            injection e with e
            injection e with e1 e2
            have := hbase g' rfl
            have := HI.out.blk.lt
            have := HI.out.res.lt
            have := Hs.out
            exact ⟨by omega, by omega⟩
        have HSEP2 : Hid (∀ g', ad' = some g' → s + 1 < g') := Lib.hid (fun g' e => by have := hbase g' e; have := HI.out.res.lt; omega)
        have HSEP := Lib.hid hsep'
        have HVN := Lib.hid hvb
        have HI := Lib.hid (HI.out.below hbe)
        have HKF := Lib.hid (HKF.out.trans (keepsFrom_below W4.heap.size hbe))
        have cbox : We.cell? ⟨s, 0, none⟩ = some (.pointer (some ⟨b, 0, none⟩)) := HI.out.box.cell rfl
        clear hv hbe hbase hvb hsep'
        refine hK _ _ ?_
        clear hK K
        refine wpAnyIn_ready (rs := [3]) (by kernel_rfl) (by simp) ?_
        refine AllReadyIn.cons (by rfl) ?_ AllReadyIn.nil
        intro K hK
        go_simp
        refine hK _ _ ?_
        clear hK K
        refine wpAnyIn_ready (rs := [4]) (by kernel_rfl) (by simp) ?_
        refine AllReadyIn.cons (by rfl) ?_ AllReadyIn.nil
        intro K hK
        go_simp
        refine hK _ _ ?_
        clear hK K
        refine wpAnyIn_ready (rs := [5]) (by kernel_rfl) (by simp) ?_
        refine AllReadyIn.cons (by rfl) ?_ AllReadyIn.nil
        intro K hK
        have c9 := cell9 HI.out.blk (by rw [pressL_len]; exact HPL.out)
        have f9 := HI.out.blk.frozen 9
        go_simp
        have hs9 := set9 HI.out.blk (by rw [pressL_len]; exact HPL.out) (.slice (Option.map (fun g => (⟨g, 0, none⟩ : Addr)) ad') (blockAt D x).length cv)
        have hOs := (Only.refl b We).setCell (p := ⟨b, 9, none⟩) (.inl rfl) (.slice (Option.map (fun g => (⟨g, 0, none⟩ : Addr)) ad') (blockAt D x).length cv)
        have HS9 := Lib.hid hs9
        have HRS := Lib.hid (hOs.blk HI.out.res (by omega))
        have HVN2 := Lib.hid (HVN.out.only hOs (fun g off e h0 => (HSEP.out g off e h0).1))
        have HON := Lib.hid (HI.out.only.trans hOs)
        have HKG := Lib.hid (HKF.out.trans (KeepsFrom.of_grownBy hOs (fun j e => by injection e with e; have := HB4b.out; omega)))
        generalize (World.setCell _ _ _) = Ws at HS9 HRS HVN2 HON HKG ⊢
        clear hs9 hOs c9 f9
        refine hK _ _ ?_
        clear hK K
        refine wpAnyIn_done (by kernel_rfl) ?_ _
        have hfr := HRS.out.frozen 0
        have hcr : Ws.cell? ⟨s + 1, 0, none⟩ = some (.int .i64 0) := HRS.out.cell rfl
        gi_wp2
        have hOt := (Only.refl (s + 1) Ws).setCell (p := ⟨s + 1, 0, none⟩) (.inl rfl) (.int .i64 0)
        refine ⟨HKG.out.trans ((KeepsOthers.setCell _ _ _).from _), rfl, pre, x, rfl, Hr.out, Hpre.out, _, cv, hOt.blk HS9.out (by omega), HVN2.out.only hOt ?_, HSEP.out, HON.out.grown hOt (fun k e => .inr (by injection e with e; have := Hs.out; omega)), ?_⟩
        · intro g off e h0
          cases ad' with
          | none => cases e
          | some g' =>
            injection e with e
            injection e with e1 e2
            have := HSEP2.out g' rfl
            omega
        · have := HRS.out.set 0 (.int .i64 0)
          exact this
      refine AllReadyIn.cons (by rfl) ?_ AllReadyIn.nil
      intro K hK
      go_simp
      refine hK _ _ ?_
      clear hK K
      refine wpAnyIn_ready (rs := [0, 2]) (by kernel_rfl) (by simp) ?_
      refine AllReadyIn.cons (by rfl) ?_ ?_
      · intro K hK
        go_simp
        refine hK _ _ ?_
        clear hK K
        refine wpAnyIn_ready (rs := [2]) (by kernel_rfl) (by simp) ?_
        refine AllReadyIn.cons (by rfl) ?_ AllReadyIn.nil
        intro K hK
        go_simp
        refine ⟨trivial, ?_⟩
        refine (CallsIn.inRound l' (callsIn_wide.2 (clone_c xa xl _ (blockAt D x) _ HBB.out (by omega)))).mono ?_
        rintro e We ⟨v, rfl, hv, hbe⟩
        obtain ⟨ad', cv, rfl, hcv, -, hbase, hvb⟩ := own_form hv
        have hsep' : ∀ g off, Option.map (fun g => (⟨g, 0, none⟩ : Addr)) ad' = some ⟨g, off, none⟩ → 0 < (blockAt D x).length → g ≠ b ∧ w.heap.size ≤ g := fun g off e _ => by
          cases ad' with
          | none => cases e
          | some g' =>
            injection e with e
            injection e with e1 e2
            have := hbase g' rfl
            have := HI.out.blk.lt
            have := HI.out.res.lt
            have := Hs.out
            exact ⟨by omega, by omega⟩
        have HSEP2 : Hid (∀ g', ad' = some g' → s + 1 < g') := Lib.hid (fun g' e => by have := hbase g' e; have := HI.out.res.lt; omega)
        have HSEP := Lib.hid hsep'
        have HVN := Lib.hid hvb
        have HI := Lib.hid (HI.out.below hbe)
        have HKF := Lib.hid (HKF.out.trans (keepsFrom_below W4.heap.size hbe))
        have cbox : We.cell? ⟨s, 0, none⟩ = some (.pointer (some ⟨b, 0, none⟩)) := HI.out.box.cell rfl
        clear hv hbe hbase hvb hsep'
        refine hK _ _ ?_
        clear hK K
        refine wpAnyIn_ready (rs := [3]) (by kernel_rfl) (by simp) ?_
        refine AllReadyIn.cons (by rfl) ?_ AllReadyIn.nil
        intro K hK
        go_simp
        refine hK _ _ ?_
        clear hK K
        refine wpAnyIn_ready (rs := [4]) (by kernel_rfl) (by simp) ?_
        refine AllReadyIn.cons (by rfl) ?_ AllReadyIn.nil
        intro K hK
        go_simp
        refine hK _ _ ?_
        clear hK K
        refine wpAnyIn_ready (rs := [5]) (by kernel_rfl) (by simp) ?_
        refine AllReadyIn.cons (by rfl) ?_ AllReadyIn.nil
        intro K hK
        have c9 := cell9 HI.out.blk (by rw [pressL_len]; exact HPL.out)
        have f9 := HI.out.blk.frozen 9
        go_simp
        have hs9 := set9 HI.out.blk (by rw [pressL_len]; exact HPL.out) (.slice (Option.map (fun g => (⟨g, 0, none⟩ : Addr)) ad') (blockAt D x).length cv)
        have hOs := (Only.refl b We).setCell (p := ⟨b, 9, none⟩) (.inl rfl) (.slice (Option.map (fun g => (⟨g, 0, none⟩ : Addr)) ad') (blockAt D x).length cv)
        have HS9 := Lib.hid hs9
        have HRS := Lib.hid (hOs.blk HI.out.res (by omega))
        have HVN2 := Lib.hid (HVN.out.only hOs (fun g off e h0 => (HSEP.out g off e h0).1))
        have HON := Lib.hid (HI.out.only.trans hOs)
        have HKG := Lib.hid (HKF.out.trans (KeepsFrom.of_grownBy hOs (fun j e => by injection e with e; have := HB4b.out; omega)))
        generalize (World.setCell _ _ _) = Ws at HS9 HRS HVN2 HON HKG ⊢
        clear hs9 hOs c9 f9
        refine hK _ _ ?_
        clear hK K
        refine wpAnyIn_done (by kernel_rfl) ?_ _
        have hfr := HRS.out.frozen 0
        have hcr : Ws.cell? ⟨s + 1, 0, none⟩ = some (.int .i64 0) := HRS.out.cell rfl
        gi_wp2
        have hOt := (Only.refl (s + 1) Ws).setCell (p := ⟨s + 1, 0, none⟩) (.inl rfl) (.int .i64 0)
        refine ⟨HKG.out.trans ((KeepsOthers.setCell _ _ _).from _), rfl, pre, x, rfl, Hr.out, Hpre.out, _, cv, hOt.blk HS9.out (by omega), HVN2.out.only hOt ?_, HSEP.out, HON.out.grown hOt (fun k e => .inr (by injection e with e; have := Hs.out; omega)), ?_⟩
        · intro g off e h0
          cases ad' with
          | none => cases e
          | some g' =>
            injection e with e
            injection e with e1 e2
            have := HSEP2.out g' rfl
            omega
        · have := HRS.out.set 0 (.int .i64 0)
          exact this
      refine AllReadyIn.cons (by rfl) ?_ AllReadyIn.nil
      intro K hK
      go_simp
      refine ⟨trivial, ?_⟩
      refine (CallsIn.inRound l' (callsIn_wide.2 (clone_c xa xl _ (blockAt D x) _ HBB.out (by omega)))).mono ?_
      rintro e We ⟨v, rfl, hv, hbe⟩
      obtain ⟨ad', cv, rfl, hcv, -, hbase, hvb⟩ := own_form hv
      have hsep' : ∀ g off, Option.map (fun g => (⟨g, 0, none⟩ : Addr)) ad' = some ⟨g, off, none⟩ → 0 < (blockAt D x).length → g ≠ b ∧ w.heap.size ≤ g := fun g off e _ => by
        cases ad' with
        | none => cases e
        | some g' =>
          injection e with e
          injection e with e1 e2
          have := hbase g' rfl
          have := HI.out.blk.lt
          have := HI.out.res.lt
          have := Hs.out
          exact ⟨by omega, by omega⟩
      have HSEP2 : Hid (∀ g', ad' = some g' → s + 1 < g') := Lib.hid (fun g' e => by have := hbase g' e; have := HI.out.res.lt; omega)
      have HSEP := Lib.hid hsep'
      have HVN := Lib.hid hvb
      have HI := Lib.hid (HI.out.below hbe)
      have HKF := Lib.hid (HKF.out.trans (keepsFrom_below W4.heap.size hbe))
      have cbox : We.cell? ⟨s, 0, none⟩ = some (.pointer (some ⟨b, 0, none⟩)) := HI.out.box.cell rfl
      clear hv hbe hbase hvb hsep'
      refine hK _ _ ?_
      clear hK K
      refine wpAnyIn_ready (rs := [0]) (by kernel_rfl) (by simp) ?_
      refine AllReadyIn.cons (by rfl) ?_ AllReadyIn.nil
      intro K hK
      go_simp
      refine hK _ _ ?_
      clear hK K
      refine wpAnyIn_ready (rs := [3]) (by kernel_rfl) (by simp) ?_
      refine AllReadyIn.cons (by rfl) ?_ AllReadyIn.nil
      intro K hK
      go_simp
      refine hK _ _ ?_
      clear hK K
      refine wpAnyIn_ready (rs := [4]) (by kernel_rfl) (by simp) ?_
      refine AllReadyIn.cons (by rfl) ?_ AllReadyIn.nil
      intro K hK
      go_simp
      refine hK _ _ ?_
      clear hK K
      refine wpAnyIn_ready (rs := [5]) (by kernel_rfl) (by simp) ?_
      refine AllReadyIn.cons (by rfl) ?_ AllReadyIn.nil
      intro K hK
      have c9 := cell9 HI.out.blk (by rw [pressL_len]; exact HPL.out)
      have f9 := HI.out.blk.frozen 9
      go_simp
      have hs9 := set9 HI.out.blk (by rw [pressL_len]; exact HPL.out) (.slice (Option.map (fun g => (⟨g, 0, none⟩ : Addr)) ad') (blockAt D x).length cv)
      have hOs := (Only.refl b We).setCell (p := ⟨b, 9, none⟩) (.inl rfl) (.slice (Option.map (fun g => (⟨g, 0, none⟩ : Addr)) ad') (blockAt D x).length cv)
      have HS9 := Lib.hid hs9
      have HRS := Lib.hid (hOs.blk HI.out.res (by omega))
      have HVN2 := Lib.hid (HVN.out.only hOs (fun g off e h0 => (HSEP.out g off e h0).1))
      have HON := Lib.hid (HI.out.only.trans hOs)
      have HKG := Lib.hid (HKF.out.trans (KeepsFrom.of_grownBy hOs (fun j e => by injection e with e; have := HB4b.out; omega)))
      generalize (World.setCell _ _ _) = Ws at HS9 HRS HVN2 HON HKG ⊢
      clear hs9 hOs c9 f9
      refine hK _ _ ?_
      clear hK K
      refine wpAnyIn_done (by kernel_rfl) ?_ _
      have hfr := HRS.out.frozen 0
      have hcr : Ws.cell? ⟨s + 1, 0, none⟩ = some (.int .i64 0) := HRS.out.cell rfl
      gi_wp2
      have hOt := (Only.refl (s + 1) Ws).setCell (p := ⟨s + 1, 0, none⟩) (.inl rfl) (.int .i64 0)
      refine ⟨HKG.out.trans ((KeepsOthers.setCell _ _ _).from _), rfl, pre, x, rfl, Hr.out, Hpre.out, _, cv, hOt.blk HS9.out (by omega), HVN2.out.only hOt ?_, HSEP.out, HON.out.grown hOt (fun k e => .inr (by injection e with e; have := Hs.out; omega)), ?_⟩
      · intro g off e h0
        cases ad' with
        | none => cases e
        | some g' =>
          injection e with e
          injection e with e1 e2
          have := HSEP2.out g' rfl
          omega
      · have := HRS.out.set 0 (.int .i64 0)
        exact this
    · rw [decide_eq_false hr]
      have Hr := Lib.hid hr
      have hx64 : xl = 64 := by rw [Hxl.out]; omega
      subst hx64
      clear hr
      have hlt2 := hlt
      have hfl : fl m ≤ 17000000 := by have := HDL.out; unfold fl; omega
      gi_wp2_with fail
      refine ⟨trivial, ?_⟩
      refine (CallsIn.inRound l' (callsIn_wide.2 (spress_c b 57 _ _ _ xa 64 (vc - 64 * x) (blockAt D x) false W (by rw [pressL_len]; exact HPL.out) HI.out.blk HBB.out (by decide) (by omega)))).mono ?_
      rintro e W' ⟨rfl, hb, hO⟩
      have Hb := Lib.hid hb
      have HO' := Lib.hid hO
      clear hb hO
      gi_wp2
      refine ⟨KeepsFrom.of_grownBy HO'.out (fun j e => by injection e with e; have := HB4b.out; omega), trivial, fun y hy => ?_, ?_⟩
      · rcases List.mem_append.1 hy with hy | hy
        · exact Hpre.out y hy
        · have : y = x := by simpa using hy
          subst this
          have := Hr.out
          omega
      · refine ⟨?_, HO'.out.blk HI.out.box (by omega), HO'.out.blk HI.out.res (by omega), HI.out.dat.only HO'.out (bys_apart HI.out.blk (by rw [pressL_len]; exact HPL.out) (fun c e => by cases e) HI.out.dat), HI.out.only.trans HO'.out⟩
        have := Hb.out
        rw [pressL_snoc, stepL, List.length_append, List.length_singleton]
        have e := pressL_n P n0 D pre
        rw [e, show n0 + 64 * (pre.length + 1) = n0 + 64 * pre.length + 64 by omega]
        exact this
  case done =>
    rintro Dd ys W hD rfl ⟨hpre, hI⟩ hK
    have := hpre (fl m) (by simp)
    have : m - 64 * fl m ≤ 64 := by unfold fl; omega
    omega
  case stop =>
    rintro Dd c pre W hD ⟨k, hk, rfl⟩ ⟨rfl, pre', x, he, hx, hpre, xa, xc, hx1, hx2, hx3, hx4, hx5⟩ hK
    rw [List.range_succ] at he
    obtain ⟨rfl, he2⟩ := List.append_inj' he rfl
    obtain rfl : k = x := by simpa using he2
    have hkf : k = fl m := by
      rcases Nat.lt_or_ge k (fl m) with h | h
      · unfold fl at h; omega
      · omega
    subst hkf
    gi_wp2
    have hnc : NoCells W4.heap.size W (some Dd) := fun r e => by injection e with e; subst e; exact ⟨hD, _, hK, rfl⟩
    have hgr := grownBy_putObj' W Dd (.deferred none)
    have hx1 := hx1.keep hgr hnc
    have hx2 := hx2.keep hgr hnc
    have hx5 := hx5.keep hgr hnc
    have hx4 := hx4.grown hgr (fun k e => .inr (by injection e with e; omega))
    refine ⟨by simp, .inl ⟨_, _, rfl, run_takeDeferred hK, ?_⟩⟩
    generalize World.putObj W Dd (.deferred none) = Wf at hx1 hx2 hx4 hx5 ⊢
    have hc0 : Wf.cell? ⟨s + 1, 0, none⟩ = some (.int .i64 0) := hx5.cell rfl
    refine ⟨.int .i64 0, by simp [results, Try.results22, go_sem, hc0], rfl, ?_, hx4⟩
    have eD : leftOf d ++ l = D := HD.out.symm
    have ef : full (leftOf d ++ l) = fl m := by rw [eD, full_fl, Hm.out]
    have el : leftOf (d ++ l) = blockAt D (fl m) := by
      rw [left_append, eD, leftOf, full_fl, ← Hm.out, blockAt]
      exact (List.take_of_length_le (by rw [List.length_drop, ← Hm.out]; omega)).symm
    have ep : pressN h0 0 (d ++ l) (full (d ++ l)) = pressN P n0 D (fl m) := by rw [pressN_more, ← HP.out, ← Hn0.out, eD, ← ef, eD]
    have en : 64 * full (d ++ l) = n0 + 64 * fl m := by rw [full_append, ef, Hn0.out]; omega
    refine ⟨hh0, hw1, hw2, by rw [List.length_append, HL.out.1]; omega, xa, xc, ?_, ?_, ?_⟩
    · rw [ep, en, el]
      rw [pressL_range, List.length_range] at hx1
      exact hx1
    · rw [el]; exact hx2
    · rw [el]; exact hx3
theorem write_cF (b : Nat) (h0 : List Wo) (d : List By) (wide len : Nat) (a : Option Addr) (n c : Nat) (l : List By) (w : World) (hH : IsHash w b h0 d wide len) (hl : Bys w a n l) (hn : n ≤ 100000000) (hd : d.length + n ≤ 100000000000) (hlen : len ≤ 1000000000000) :
    Calls Try.prog 22 #[.pointer (some ⟨b, 0, none⟩), .slice a n c] w fun e w' => e = .returned (.int .i64 0) ∧ IsHashF w' b h0 (d ++ l) wide (len + n) w.heap.size ∧ Only b w w' :=
  callsIn_wide.1 (write_inF b h0 d wide len a n c l w hH hl hn hd hlen)
end Go.Proofs.Yticgknjjhkgggaa
