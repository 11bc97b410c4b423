/- Contracts: the bytes of a set. -/
import Derived.Test.YtlgpoaapmgcloaaSb
import Derived.Test.YtlgpoaapmgcloaaWk
import Derived.Deep.RegionHeld3
namespace Go.Proofs.Ytlgpoaapmgcloaa
open Go.RowKit
set_option linter.unusedSimpArgs false
set_option linter.unusedVariables false
set_option maxRecDepth 100000

def lastT : Int → List Sp → Int
  | d, [] => d
  | _, x :: r => lastT x.t r
theorem lastT_snoc (d : Int) (l : List Sp) (x : Sp) : lastT d (l ++ [x]) = x.t := by
  induction l generalizing d with
  | nil => rfl
  | cons a r ih => exact ih a.t
theorem encFrom_snoc (d : Int) (l : List Sp) (x : Sp) : encFrom d (l ++ [x]) = encFrom d l ++ laidN [x.f - lastT d l, x.len] := by
  induction l generalizing d with
  | nil => simp [encFrom, lastT]
  | cons a r ih =>
    show laidN [a.f - d, a.len] ++ encFrom a.t (r ++ [x]) = laidN [a.f - d, a.len] ++ encFrom a.t r ++ _
    rw [ih, List.append_assoc]; rfl
theorem lastT_le {b d : Int} {p q : List Sp} {x : Sp} (h : Can b (p ++ x :: q)) (hd : d ≤ b + 1) (h0 : 0 ≤ d) : 0 ≤ lastT d p ∧ lastT d p ≤ x.f := by
  induction p generalizing b d with
  | nil => have := h.1; exact ⟨h0, by show d ≤ x.f; omega⟩
  | cons a r ih =>
    obtain ⟨h1, h2, h3, h4⟩ := h
    exact ih (d := a.t) h4 (by omega) (by omega)
theorem encFrom_len (d : Int) (l : List Sp) (h : Smalls l) (hd : 0 ≤ d ∧ d ≤ 4096) : (encFrom d l).length ≤ 18 * l.length ∨ True := .inr trivial
/-- What the laying of a set holds. -/
structure RawS (w : World) (p : Nat) (l : List Sp) (a : Option Addr) (c q : Nat) (v : Value) (bs : List By) (W : World) : Prop where
  wr : IsWr W q v bs
  bel : Below w.heap.size w W
theorem RawS.below {w W W' : World} {p : Nat} {l : List Sp} {a : Option Addr} {c q : Nat} {v : Value} {bs : List By} (h : RawS w p l a c q v bs W) (hb : Below W.heap.size W W') : RawS w p l a c q v bs W' :=
  ⟨h.wr.below hb, h.bel.trans (hb.mono h.bel.size)⟩
theorem num2_ok {x y : Int} (hx : 0 ≤ x ∧ x ≤ 5000) (hy : 0 ≤ y ∧ y ≤ 5000) : okN [x, y] = true := by
  simp [okN, numOk]; omega
theorem laidN_short (zs : List Int) (h : okN zs = true) : (laidN zs).length ≤ 9 * zs.length := laidN_len h
theorem IsWr.vb {w : World} {q i : Nat} {v : Value} {l : List By} (h : IsWr w q v l) (e : v.ownBlock = some i) : q + 1 ≤ i ∧ i < w.heap.size := World.ownsRow.lt (h.2 : w.ownsRow _ _ _ _ _ _) i e
theorem OwnB.rebase {w : World} {base B : Nat} {v : Value} {l : List By} (h : OwnB w base v l) (hB : B ≤ base) : OwnB w B v l := by
  obtain ⟨h1, h2⟩ := h
  refine ⟨h1, ?_⟩
  rcases h2 with h2 | ⟨g, cap, cur, hv, hg, r⟩
  · exact .inl h2
  · exact .inr ⟨g, cap, cur, hv, Nat.le_trans hB hg, r⟩
set_option maxHeartbeats 8000000 in
theorem raw_c (p : Nat) (l : List Sp) (a : Option Addr) (c : Nat) (w : World) (h : IsSet w p l a c) (hcan : Can (-1) l) (hn : l.length ≤ 5000) :
    Calls Try.prog 7 #[.pointer (some ⟨p, 0, none⟩)] w fun e w' => ∃ r, e = .returned r ∧ OwnB w' w.heap.size r (rawB l) ∧ Below w.heap.size w w' := by
  have H := Lib.hid h
  have HCAN := Lib.hid hcan
  obtain ⟨n, hnn⟩ : ∃ n, n = l.length := ⟨_, rfl⟩
  have HN := Lib.hid hnn
  have hn5 : n ≤ 5000 := by omega
  have hbk := h.blk
  rw [← hnn] at hbk
  have HBK := Lib.hid hbk
  have HRW : Hid (Sps w a n l) := Lib.hid (by rw [hnn]; exact h.row)
  clear h hcan hnn hbk hn
  go_enter Try.func7, Try.ntmps7
  go_wp2_with fail
  refine (none_c p a n c w HBK.out).mono ?_
  rintro e w' ⟨rfl, rfl⟩
  go_wp2_with fail
  refine (wnew_c w).mono ?_
  rintro e w1 ⟨rfl, hw1, hb1⟩
  obtain ⟨q, hq⟩ : ∃ q, q = w.heap.size := ⟨_, rfl⟩
  have hqw : w.heap.size ≤ q := by omega
  rw [← hq] at hw1 ⊢
  have hk1 := HBK.out.below hb1 HBK.out.lt
  have c0 : w1.cell? ⟨p, 0, none⟩ = some (.slice a n c) := hk1.cell (i := 0) rfl
  have HK1 := Lib.hid hk1
  have hal := (Below.refl w1.heap.size w1).alloc (Nat.le_refl _) (.cells #[.int .i64 (n : Int)] 2)
  have hI := I64s.lit (W := w1) (cs := #[.int .i64 (n : Int)]) (zs := [(n : Int)]) (n := 1) 2 rfl rfl
  have HI := Lib.hid hI
  have HW1 := Lib.hid (hw1.below hal)
  have hql := hw1.lt
  have HB1 := Lib.hid (hb1.trans (hal.mono hb1.size))
  have hK2 := hk1.below hal hk1.lt
  have HK2 := Lib.hid hK2
  have hok1 : okN [(n : Int)] = true := by simp [okN, numOk]; omega
  have HOK := Lib.hid hok1
  obtain ⟨G, hG⟩ : ∃ G, G = w1.heap.size := ⟨_, rfl⟩
  have hqG : q < G := by omega
  rw [← hG] at HI
  have HGS := Lib.hid hG
  clear hq hw1 hk1 hal hI hb1 hK2 hok1 hG
  go_wp2_with fail
  rw [← HGS.out]
  clear c0 HGS
  generalize w1.alloc (.cells #[.int .i64 (n : Int)] 2) = w2 at *
  refine (wnumber_c q (.slice none 0 0) [] _ 1 1 [(n : Int)] w2 HW1.out HI.out (by decide) (by decide) (fun g off e h0 hw => by injection e with e; injection e with e1; rcases hw with hw | hw; omega; cases hw) HOK.out).mono ?_
  rintro e w3 ⟨rfl, v3, hwr3, ht3, hm3⟩
  have hb3 := ht3.below (B := w.heap.size) HB1.out.size (fun i hi => by rcases hi with hi | hi; omega; cases hi)
  have HRS : Hid (RawS w p l a c q v3 (laidN [(n : Int)]) w3) := Lib.hid ⟨by simpa using hwr3, HB1.out.trans hb3⟩
  have hk3 := HBK.out.below HRS.out.bel HBK.out.lt
  have c0 : w3.cell? ⟨p, 0, none⟩ = some (.slice a n c) := hk3.cell (i := 0) rfl
  have hl1 := laidN_short [(n : Int)] HOK.out
  have HL1 := Lib.hid hl1
  clear hwr3 ht3 hm3 hb3 hk3 hl1
  go_wp2_with fail
  clear c0
  go_loopw [23, 4] (fun iv lv wr => ∃ (i : Nat) (v : Value) (bs : List By), i ≤ n ∧ iv = .int .i64 (i : Int) ∧ lv = .int .i64 (lastT 0 (l.take i)) ∧ bs = laidN [(n : Int)] ++ encFrom 0 (l.take i) ∧ bs.length ≤ 9 + 18 * i ∧ w.heap.size ≤ q ∧ RawS w p l a c q v bs wr) (fun iv _ _ => n - (intOf iv).toNat)
  case atStart => exact ⟨0, v3, _, Nat.zero_le _, rfl, rfl, by simp [encFrom], by have := HL1.out; simp at this; omega, hqw, HRS.out⟩
  case round =>
  obtain ⟨i, v, bs, hi, rfl, rfl, hbs, hbl, _, hrs⟩ := hrel
  have HS := Lib.hid hrs
  have HBS := Lib.hid hbs
  by_cases hlt : i < n
  · obtain ⟨x, hx⟩ : ∃ x, l[i]? = some x := ⟨l[i]'(by have := HN.out; omega), List.getElem?_eq_getElem _⟩
    have HX := Lib.hid hx
    obtain ⟨g, off, rfl, hg, c0, c1⟩ := (HRW.out.below hrs.bel).2 i x hx
    obtain ⟨X, hX⟩ : ∃ X, X = wr.heap.size := ⟨_, rfl⟩
    have hal := (Below.refl wr.heap.size wr).alloc (Nat.le_refl _) (.cells #[.int .i64 x.f, .int .i64 x.t] 33)
    have HX3 : Hid (Blk (wr.alloc (.cells #[.int .i64 x.f, .int .i64 x.t] 33)) X 33 #[.int .i64 x.f, .int .i64 x.t]) := Lib.hid (by rw [hX]; exact Blk.new _ _ _)
    have HS3 := Lib.hid (hrs.below hal)
    have hqX : q < X := by rw [hX]; exact hrs.wr.lt
    have hvX : ∀ j, v.ownBlock = some j → j < X := fun j e => by rw [hX]; exact (World.ownsRow.lt (hrs.wr.2 : wr.ownsRow _ _ _ _ _ _) j e).2
    have hsm := (HCAN.out.forall x (List.mem_of_getElem? hx))
    have HXS : Hid x.small := Lib.hid (by unfold Sp.small; omega)
    have hlast := lastT_le (d := 0) (p := l.take i) (q := l.drop (i + 1)) (x := x) (b := -1) (by
      have hlt2 := (List.getElem?_eq_some_iff.1 hx).1
      have e := (List.take_append_drop i l).symm
      rw [List.drop_eq_getElem_cons hlt2, (List.getElem?_eq_some_iff.1 hx).2] at e
      rw [← e]; exact HCAN.out) (by decide) (by decide)
    obtain ⟨la, hla⟩ : ∃ la, la = lastT 0 (l.take i) := ⟨_, rfl⟩
    have HLA := Lib.hid hla
    rw [← hla] at hlast ⊢
    obtain ⟨L, hL⟩ : ∃ L, L = x.len := ⟨_, rfl⟩
    have HL := Lib.hid hL
    have hLb := Sp.len_le HXS.out
    rw [← hL] at hLb
    have hok : okN [x.f - la, L] = true := num2_ok (by omega) (by omega)
    have hTK : l.take (i + 1) = l.take i ++ [x] := by rw [List.take_add_one, hx]; rfl
    have hw64 : wrap64 (x.f - la) = x.f - la := IntWalk.wrap64_in _ (by omega)
    have hwi64 : IntKind.i64.wrap (x.f - la) = x.f - la := IntWalk.i64_in _ (by omega)
    have HXX := Lib.hid hX
    have HTK := Lib.hid hTK; have HOK2 := Lib.hid hok
    clear hx hal hrs hbs hsm hla hL hX hTK hok
    go_wp2_with fail
    rw [← HXX.out]
    clear c0 c1 HXX
    generalize wr.alloc (.cells #[.int .i64 x.f, .int .i64 x.t] 33) = w3 at *
    have HSD := Lib.hid (HS3.out.below (Below.refl _ _).drew)
    have hok := HOK2.out
    have hTK := HTK.out
    have hbl : bs.length ≤ 100000000 := by omega
    have hS0 : (fun W => Blk W X 33 #[.int .i64 x.f, .int .i64 x.t]) (World.drew w3) := HX3.out.drew
    refine wp_region_held_drew (S := (fun W => Blk W X 33 #[.int .i64 x.f, .int .i64 x.t])) (by kernel_rfl) hS0 ?_
    intro hS0'
    refine wpAnyH_take (i := 0) (v := .pointer (some ⟨q, 0, none⟩)) rfl (by kernel_rfl) (by kernel_rfl) (by kernel_rfl) (fun _ _ _ h => h) (Or.inl ⟨by kernel_rfl, fun w0 hSw => ?_⟩) hS0' ?_
    · go_simp
    try simp only [Act.put, List.getElem_toArray, List.getElem_cons_succ, List.getElem_cons_zero, List.setIfInBounds_toArray, List.set_cons_zero, List.set_cons_succ]
    refine wpAnyH_take (i := 1) (v := .pointer (some ⟨X, 0, none⟩)) rfl (by kernel_rfl) (by kernel_rfl) (by kernel_rfl) (fun _ _ _ h => h) (Or.inl ⟨by kernel_rfl, fun w0 hSw => ?_⟩) hS0' ?_
    · go_simp
    try simp only [Act.put, List.getElem_toArray, List.getElem_cons_succ, List.getElem_cons_zero, List.setIfInBounds_toArray, List.set_cons_zero, List.set_cons_succ]
    refine wpAnyH_take (i := 2) (v := .int .i64 x.f) rfl (by kernel_rfl) (by kernel_rfl) (by kernel_rfl) (fun _ _ _ h => h) (Or.inl ⟨by kernel_rfl, fun w0 hSw => ?_⟩) hS0' ?_
    · have cc : _ = some (Value.int .i64 x.f) := Blk.cell hSw (i := 0) rfl
      go_simp
    try simp only [Act.put, List.getElem_toArray, List.getElem_cons_succ, List.getElem_cons_zero, List.setIfInBounds_toArray, List.set_cons_zero, List.set_cons_succ]
    refine wpAnyH_take (i := 3) (v := .int .i64 la) rfl (by kernel_rfl) (by kernel_rfl) (by kernel_rfl) (fun _ _ _ h => h) (Or.inl ⟨by kernel_rfl, fun w0 hSw => ?_⟩) hS0' ?_
    · go_simp
    try simp only [Act.put, List.getElem_toArray, List.getElem_cons_succ, List.getElem_cons_zero, List.setIfInBounds_toArray, List.set_cons_zero, List.set_cons_succ]
    refine wpAnyH_take (i := 4) (v := .int .i64 (x.f - la)) rfl (by kernel_rfl) (by kernel_rfl) (by kernel_rfl) (fun _ _ _ h => h) (Or.inl ⟨by kernel_rfl, fun w0 hSw => ?_⟩) hS0' ?_
    · go_simp
    try simp only [Act.put, List.getElem_toArray, List.getElem_cons_succ, List.getElem_cons_zero, List.setIfInBounds_toArray, List.set_cons_zero, List.set_cons_succ]
    refine wpAnyH_take (i := 5) (v := .agg #[.int .i64 x.f, .int .i64 x.t]) rfl (by kernel_rfl) (by kernel_rfl) (by kernel_rfl) (fun _ _ _ h => h) ?_ hS0' ?_
    · exact yieldsIf_load_blk (by kernel_rfl) 33 (.tmp 6) (by kernel_rfl) X (by kernel_rfl) 33 #[.int .i64 x.f, .int .i64 x.t] _ (fun _ h => h) Try.underlying33 rfl info33
    try simp only [Act.put, List.getElem_toArray, List.getElem_cons_succ, List.getElem_cons_zero, List.setIfInBounds_toArray, List.set_cons_zero, List.set_cons_succ]
    refine wpAnyH_ready (rs := [6]) (by kernel_rfl) (by simp) ?_
    refine AllReadyH.cons (by rfl) ?_ AllReadyH.nil
    intro K hK
    go_simp
    change Calls Try.prog 24 #[x.val] _ _
    refine (long_c x _ HXS.out).mono ?_
    rintro e w5 ⟨rfl, hb5⟩
    rw [← HL.out]
    have hs5 := HSD.out.below hb5
    refine hK.out _ _ (hS0'.below hb5 hS0'.lt) (fun hS1 => ?_)
    clear hK K
    refine wpAnyH_ready (rs := [7]) (by kernel_rfl) (by simp) ?_
    refine AllReadyH.cons (by rfl) ?_ AllReadyH.nil
    intro K hK
    go_simp
    have hal := (Below.refl w5.heap.size w5).alloc (Nat.le_refl _) (.cells #[.int .i64 (x.f - la), .int .i64 L] 2)
    have hI := I64s.lit (W := w5) (cs := #[.int .i64 (x.f - la), .int .i64 L]) (zs := [x.f - la, L]) (n := 2) 2 rfl rfl
    have hqs := hs5.wr.lt
    have hvs : ∀ i, v.ownBlock = some i → i < w5.heap.size := fun i e => (World.ownsRow.lt (hs5.wr.2 : w5.ownsRow _ _ _ _ _ _) i e).2
    have hs6 := hs5.below hal
    refine hK.out _ _ (hS1.below hal hS1.lt) (fun hS2 => ?_)
    clear hK K
    refine wpAnyH_ready (rs := [8]) (by kernel_rfl) (by simp) ?_
    refine AllReadyH.cons (by rfl) ?_ AllReadyH.nil
    intro K hK
    go_simp
    refine (wnumber_c q v bs _ 2 2 [x.f - la, L] _ hs6.wr hI (by decide) hbl (fun g off e h0 hw => by injection e with e; injection e with e1; rcases hw with hw | hw; omega; have := hvs g hw; omega) hok).mono ?_
    rintro e w7 ⟨rfl, v7, hwr7, ht7, hm7⟩
    have hbq := ht7.below (B := w.heap.size) hs6.bel.size (fun i hi => by rcases hi with hi | hi; omega; have := (hs6.wr.vb hi).1; omega)
    refine hK.out _ _ (ht7.blk hS2 (fun h => by rcases h with h | h; omega; have := hvX X h; omega)) (fun hS3 => ?_)
    clear hK K
    refine wpAnyH_done (by kernel_rfl) ?_ _
    have HSE : Hid (RawS w p l (some ⟨g, off, none⟩) c q v7 (bs ++ laidN [x.f - la, L]) w7) := Lib.hid ⟨hwr7, hs6.bel.trans hbq⟩
    have x1 : w7.cell? ⟨X, 1, none⟩ = some (.int .i64 x.t) := Blk.cell hS3 (i := 1) rfl
    clear hS0'
    go_wp2_with fail
    go_roundw
    case rel =>
      refine ⟨i + 1, v7, bs ++ laidN [x.f - la, L], by omega, by go_num, by rw [hTK, lastT_snoc], ?_, ?_, hqw, HSE.out⟩
      · rw [HBS.out, HLA.out, HL.out, List.append_assoc, ← encFrom_snoc, hTK]
      · have := laidN_short [x.f - la, L] hok; rw [List.length_append]; simp only [List.length_cons, List.length_nil] at this; omega
    case measure => simp [intOf]; omega
  · obtain rfl : i = n := by omega
    rw [List.take_of_length_le (by have := HN.out; omega)] at hbs
    have HBB := Lib.hid hbs
    have hji : ¬ ((i : Int) < (i : Int)) := by omega
    clear hbs hrs
    go_wp2_with fail
    refine (wall_c q v bs wr HS.out.wr (by omega)).mono ?_
    rintro e w5 ⟨r, rfl, ho5, hb5⟩
    have HO5 := Lib.hid (ho5.rebase HS.out.bel.size)
    have HB5 := Lib.hid (HS.out.bel.trans (hb5.mono HS.out.bel.size))
    clear ho5 hb5
    go_wp2_with fail
    go_ret
    have e : bs = rawB l := by rw [HBB.out]; unfold rawB; rw [← HN.out]
    rw [← e]
    exact ⟨r, rfl, HO5.out, HB5.out⟩
end Go.Proofs.Ytlgpoaapmgcloaa
