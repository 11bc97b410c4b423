/- The law's walk. -/
import Derived.Test.YtlgpoaapmgcloaaCf
namespace Go.Proofs.Ytlgpoaapmgcloaa
open Go.RowKit
set_option linter.unusedSimpArgs false
set_option linter.unusedVariables false
set_option maxRecDepth 100000

theorem Sps.at_ {w : World} {g off n : Nat} {l : List Sp} {i : Nat} {x : Sp} (h : Sps w (some ⟨g, off, none⟩) n l) (hx : l[i]? = some x) : w.cell? ⟨g, off + i * 2, none⟩ = some (.int .i64 x.f) ∧ w.cell? ⟨g, off + i * 2 + 1, none⟩ = some (.int .i64 x.t) := by
  obtain ⟨g', off', e, _, c0, c1⟩ := h.2 i x hx
  injection e with e; injection e with e1 e2
  subst e1; subst e2
  exact ⟨c0, c1⟩
theorem enc_len : ∀ (l : List Sp) (d : Int), Can (d - 1) l → 0 ≤ d → (encFrom d l).length ≤ 18 * l.length := by
  intro l
  induction l with
  | nil => intro d _ _; simp [encFrom]
  | cons x r ih =>
    intro d hc hd
    obtain ⟨h1, h2, h3, h4⟩ := hc
    have i1 := ih x.t (h4.mono (by omega)) (by omega)
    have i2 := laidN_len (zs := [x.f - d, x.len]) (by simp [okN, numOk, Sp.len]; omega)
    unfold encFrom
    rw [List.length_append]
    simp only [List.length_cons, List.length_nil] at i2 ⊢
    omega
theorem rawB_len {l : List Sp} (h : Can (-1) l) : (rawB l).length ≤ 100000 := by
  have i1 := enc_len l 0 h (by omega)
  have i3 := h.short
  have i2 := laidN_len (zs := [(l.length : Int)]) (by simp [okN, numOk]; omega)
  unfold rawB
  rw [List.length_append]
  simp only [List.length_cons, List.length_nil] at i2
  omega
theorem rights_nil : Rights [] = true := rfl
theorem gap_whole : gapL [wholeS] 0 = 4096 := by decide
theorem smalls_whole : Smalls [wholeS] := by
  intro x hx; simp at hx; subst hx; exact ⟨by decide, by decide⟩
theorem among_whole : (among [wholeS] wholeS == wholeS.len) = true := by decide
set_option maxHeartbeats 8000000 in
theorem holds_walk (a0 : Option Addr) (n0 c0 : Nat) (l : List Sp) (z : Int) (ab : Option Addr) (nb cb : Nat) (bs : List By) (w : World) (h : Sps w a0 n0 l) (hb : Bys w ab nb bs) :
    Calls Try.prog 3 #[.slice a0 n0 c0, .int .i64 z, .slice ab nb cb] w fun e w' => e = .returned (.bool true) ∧ Below w.heap.size w w' := by
  have H := Lib.hid h; have HB := Lib.hid hb
  have hll := h.1; have hlb := hb.1
  clear h hb
  by_cases hn : n0 ≤ 12
  rotate_left
  · have q1 : decide ((12 : Int) < (n0 : Int)) = true := decide_eq_true (by omega)
    have q2 : (12 : Int) < (n0 : Int) := by omega
    go_enter Try.func3, Try.ntmps3
    go_wp2_with fail
    refine (sworks_c _).mono ?_
    rintro e wf ⟨rfl, hbf⟩
    have HF := Lib.hid ((Below.refl w.heap.size w).trans (hbf.mono (Below.refl w.heap.size w).size))
    clear hbf
    go_wp2_with fail
    go_ret
    exact ⟨rfl, HF.out⟩
  by_cases hnb : nb ≤ 300
  rotate_left
  · have q2 : ¬ (12 : Int) < (n0 : Int) := by omega
    have q3 : (300 : Int) < (nb : Int) := by omega
    go_enter Try.func3, Try.ntmps3
    go_wp2_with fail
    refine (sworks_c _).mono ?_
    rintro e wf ⟨rfl, hbf⟩
    have HF := Lib.hid ((Below.refl w.heap.size w).trans (hbf.mono (Below.refl w.heap.size w).size))
    clear hbf
    go_wp2_with fail
    go_ret
    exact ⟨rfl, HF.out⟩
  have q2 : ¬ (12 : Int) < (n0 : Int) := by omega
  have q3 : ¬ (300 : Int) < (nb : Int) := by omega
  go_enter Try.func3, Try.ntmps3
  go_wp2_with fail
  refine (sread_c ab nb cb bs w HB.out (by omega)).mono ?_
  rintro e w1 ⟨hb1, hcas0⟩
  have H1 := Lib.hid (H.out.below hb1); have HB1 := Lib.hid (HB.out.below hb1); have HL1 := Lib.hid hb1
  clear hb1 H HB q2 q3
  obtain ⟨v7, v8, hev, hcase⟩ : ∃ v7 v8, e = .returned (.tuple #[v7, v8]) ∧ ((∃ L q a1 c1, readL bs = some L ∧ v7 = .pointer (some ⟨q, 0, none⟩) ∧ v8 = .int .i64 0 ∧ IsSet w1 q L a1 c1) ∨ (v7 = .pointer none ∧ v8 = .int .i64 270)) := by
    rcases hcas0 with ⟨L, q, a1, c1, hrd, rfl, hq, hs⟩ | ⟨hrd, rfl⟩
    · exact ⟨_, _, rfl, .inl ⟨L, q, a1, c1, hrd, rfl, rfl, hs⟩⟩
    · exact ⟨_, _, rfl, .inr ⟨rfl, rfl⟩⟩
  clear hcas0
  subst hev
  go_upto_region 4 with fail
  go_cut [53] from 43 to 52 (fun cv wx => cv = .bool false ∧ Sps wx a0 n0 l ∧ Bys wx ab nb bs ∧ Below w.heap.size w wx)
  case first =>
    rcases hcase with ⟨L, q, a1, c1, hrd, rfl, rfl, hs⟩ | ⟨rfl, rfl⟩
    · have hS0 : (fun W => IsSet W q L a1 c1 ∧ Sps W a0 n0 l ∧ Bys W ab nb bs ∧ Below w.heap.size w W) w1.drew := ⟨hs.below (Below.refl w1.heap.size w1).drew, H1.out.below (Below.refl w1.heap.size w1).drew, HB1.out.below (Below.refl w1.heap.size w1).drew, HL1.out.drew⟩
      clear hs
      refine wp_region_held_drew (S := (fun W => IsSet W q L a1 c1 ∧ Sps W a0 n0 l ∧ Bys W ab nb bs ∧ Below w.heap.size w W)) (by kernel_rfl) hS0 ?_
      intro hS0'
      refine wpAnyH_take (i := 0) (v := .int .i64 0) rfl (by kernel_rfl) (by kernel_rfl) (by kernel_rfl) (fun _ _ _ h => h) (Or.inl ⟨by kernel_rfl, fun w hSw => ?_⟩) hS0' ?_
      · go_simp
      try simp only [Act.put, List.getElem_toArray, List.getElem_cons_succ, List.getElem_cons_zero, List.setIfInBounds_toArray, List.set_cons_zero, List.set_cons_succ]
      refine wpAnyH_ready (rs := [1]) (by kernel_rfl) (by simp) ?_
      refine AllReadyH.cons (by rfl) ?_ AllReadyH.nil
      intro K hK
      go_simp
      refine (num_c 0 _).mono ?_
      rintro e w4 ⟨rfl, hw4⟩
      subst hw4
      refine hK.out _ _ hS0' (fun hS1 => ?_)
      clear hK K
      refine wpAnyH_take (i := 2) (v := .bool true) rfl (by kernel_rfl) (by kernel_rfl) (by kernel_rfl) (fun _ _ _ h => h) (Or.inl ⟨by kernel_rfl, fun w hSw => ?_⟩) hS1 ?_
      · go_simp
      try simp only [Act.put, List.getElem_toArray, List.getElem_cons_succ, List.getElem_cons_zero, List.setIfInBounds_toArray, List.set_cons_zero, List.set_cons_succ]
      refine wpAnyH_take (i := 3) (v := .bool true) rfl (by kernel_rfl) (by kernel_rfl) (by kernel_rfl) (fun _ _ _ h => h) (Or.inl ⟨by kernel_rfl, fun w hSw => ?_⟩) hS1 ?_
      · go_simp
      try simp only [Act.put, List.getElem_toArray, List.getElem_cons_succ, List.getElem_cons_zero, List.setIfInBounds_toArray, List.set_cons_zero, List.set_cons_succ]
      refine wpAnyH_take (i := 4) (v := .pointer (some ⟨q, 0, none⟩)) rfl (by kernel_rfl) (by kernel_rfl) (by kernel_rfl) (fun _ _ _ h => h) (Or.inl ⟨by kernel_rfl, fun w hSw => ?_⟩) hS1 ?_
      · go_simp
      try simp only [Act.put, List.getElem_toArray, List.getElem_cons_succ, List.getElem_cons_zero, List.setIfInBounds_toArray, List.set_cons_zero, List.set_cons_succ]
      refine wpAnyH_take (i := 7) (v := .slice ab nb cb) rfl (by kernel_rfl) (by kernel_rfl) (by kernel_rfl) (fun _ _ _ h => h) (Or.inl ⟨by kernel_rfl, fun w hSw => ?_⟩) hS1 ?_
      · go_simp
      try simp only [Act.put, List.getElem_toArray, List.getElem_cons_succ, List.getElem_cons_zero, List.setIfInBounds_toArray, List.set_cons_zero, List.set_cons_succ]
      refine wpAnyH_take (i := 8) (v := .string (strOf bs)) rfl (by kernel_rfl) (by kernel_rfl) (by kernel_rfl) (fun _ _ _ h => h) (Or.inl ⟨by kernel_rfl, fun w hSw => ?_⟩) hS1 ?_
      · have hrs := run_str w ab nb cb bs hSw.2.2.1
        go_simp
      try simp only [Act.put, List.getElem_toArray, List.getElem_cons_succ, List.getElem_cons_zero, List.setIfInBounds_toArray, List.set_cons_zero, List.set_cons_succ]
      refine wpAnyH_ready (rs := [5]) (by kernel_rfl) (by simp) ?_
      refine AllReadyH.cons (by rfl) ?_ AllReadyH.nil
      intro K hK
      go_simp
      refine (raw_c q L a1 c1 _ hS1.1 (read_raw hrd).1 (by have := (read_raw hrd).1.short; omega)).mono ?_
      rintro e w5 ⟨r5, rfl, ho5, hb5⟩
      rw [(read_raw hrd).2] at ho5
      obtain ⟨ra, rc, hrv, -, hry⟩ := ho5.bys
      obtain ⟨n5, hn5, hn5b⟩ : ∃ n5, r5 = .slice ra n5 rc ∧ n5 = bs.length := ⟨_, hrv, rfl⟩
      rw [← hn5b] at hry
      have hrs6 := run_str _ ra n5 rc bs hry
      subst hn5
      clear ho5 hry hrv hn5b
      refine hK.out _ _ ⟨hS1.1.below hb5, hS1.2.1.below hb5, hS1.2.2.1.below hb5, hS1.2.2.2.trans (hb5.mono hS1.2.2.2.size)⟩ (fun hS2 => ?_)
      clear hK K
      refine wpAnyH_ready (rs := [6]) (by kernel_rfl) (by simp) ?_
      refine AllReadyH.cons (by rfl) ?_ AllReadyH.nil
      intro K hK
      go_simp
      refine hK.out _ _ hS2 (fun hS3 => ?_)
      clear hK K
      refine wpAnyH_take (i := 9) (v := .bool false) rfl (by kernel_rfl) (by kernel_rfl) (by kernel_rfl) (fun _ _ _ h => h) (Or.inl ⟨by kernel_rfl, fun w hSw => ?_⟩) hS3 ?_
      · go_simp
      try simp only [Act.put, List.getElem_toArray, List.getElem_cons_succ, List.getElem_cons_zero, List.setIfInBounds_toArray, List.set_cons_zero, List.set_cons_succ]
      refine wpAnyH_take (i := 10) (v := .bool false) rfl (by kernel_rfl) (by kernel_rfl) (by kernel_rfl) (fun _ _ _ h => h) (Or.inl ⟨by kernel_rfl, fun w hSw => ?_⟩) hS3 ?_
      · go_simp
      try simp only [Act.put, List.getElem_toArray, List.getElem_cons_succ, List.getElem_cons_zero, List.setIfInBounds_toArray, List.set_cons_zero, List.set_cons_succ]
      refine wpAnyH_done (by kernel_rfl) ?_ _
      clear hS0
      try clear hrs6
      go_wp2_with fail
      go_meet
      case rel => exact ⟨rfl, hS3.2⟩
    · have hS0 : (fun W => Sps W a0 n0 l ∧ Bys W ab nb bs ∧ Below w.heap.size w W) w1.drew := ⟨H1.out.below (Below.refl w1.heap.size w1).drew, HB1.out.below (Below.refl w1.heap.size w1).drew, HL1.out.drew⟩
      refine wp_region_held_drew (S := (fun W => Sps W a0 n0 l ∧ Bys W ab nb bs ∧ Below w.heap.size w W)) (by kernel_rfl) hS0 ?_
      intro hS0'
      refine wpAnyH_take (i := 0) (v := .int .i64 270) rfl (by kernel_rfl) (by kernel_rfl) (by kernel_rfl) (fun _ _ _ h => h) (Or.inl ⟨by kernel_rfl, fun w hSw => ?_⟩) hS0' ?_
      · go_simp
      try simp only [Act.put, List.getElem_toArray, List.getElem_cons_succ, List.getElem_cons_zero, List.setIfInBounds_toArray, List.set_cons_zero, List.set_cons_succ]
      refine wpAnyH_ready (rs := [1]) (by kernel_rfl) (by simp) ?_
      refine AllReadyH.cons (by rfl) ?_ AllReadyH.nil
      intro K hK
      go_simp
      refine (num_c 270 _).mono ?_
      rintro e w4 ⟨rfl, hw4⟩
      subst hw4
      refine hK.out _ _ hS0' (fun hS1 => ?_)
      clear hK K
      refine wpAnyH_take (i := 2) (v := .bool false) rfl (by kernel_rfl) (by kernel_rfl) (by kernel_rfl) (fun _ _ _ h => h) (Or.inl ⟨by kernel_rfl, fun w hSw => ?_⟩) hS1 ?_
      · go_simp
      try simp only [Act.put, List.getElem_toArray, List.getElem_cons_succ, List.getElem_cons_zero, List.setIfInBounds_toArray, List.set_cons_zero, List.set_cons_succ]
      refine wpAnyH_take (i := 3) (v := .bool false) rfl (by kernel_rfl) (by kernel_rfl) (by kernel_rfl) (fun _ _ _ h => h) (Or.inl ⟨by kernel_rfl, fun w hSw => ?_⟩) hS1 ?_
      · go_simp
      try simp only [Act.put, List.getElem_toArray, List.getElem_cons_succ, List.getElem_cons_zero, List.setIfInBounds_toArray, List.set_cons_zero, List.set_cons_succ]
      refine wpAnyH_take (i := 4) (v := undef) rfl (by kernel_rfl) (by kernel_rfl) (by kernel_rfl) (fun _ _ _ h => h) ?_ hS1 ?_
      · exact .inr ⟨by kernel_rfl, rfl⟩
      try simp only [Act.put, List.getElem_toArray, List.getElem_cons_succ, List.getElem_cons_zero, List.setIfInBounds_toArray, List.set_cons_zero, List.set_cons_succ]
      refine wpAnyH_take (i := 5) (v := undef) rfl (by kernel_rfl) (by kernel_rfl) (by kernel_rfl) (fun _ _ _ h => h) ?_ hS1 ?_
      · exact .inr ⟨by kernel_rfl, rfl⟩
      try simp only [Act.put, List.getElem_toArray, List.getElem_cons_succ, List.getElem_cons_zero, List.setIfInBounds_toArray, List.set_cons_zero, List.set_cons_succ]
      refine wpAnyH_take (i := 6) (v := undef) rfl (by kernel_rfl) (by kernel_rfl) (by kernel_rfl) (fun _ _ _ h => h) ?_ hS1 ?_
      · exact .inr ⟨by kernel_rfl, rfl⟩
      try simp only [Act.put, List.getElem_toArray, List.getElem_cons_succ, List.getElem_cons_zero, List.setIfInBounds_toArray, List.set_cons_zero, List.set_cons_succ]
      refine wpAnyH_take (i := 7) (v := undef) rfl (by kernel_rfl) (by kernel_rfl) (by kernel_rfl) (fun _ _ _ h => h) ?_ hS1 ?_
      · exact .inr ⟨by kernel_rfl, rfl⟩
      try simp only [Act.put, List.getElem_toArray, List.getElem_cons_succ, List.getElem_cons_zero, List.setIfInBounds_toArray, List.set_cons_zero, List.set_cons_succ]
      refine wpAnyH_take (i := 8) (v := undef) rfl (by kernel_rfl) (by kernel_rfl) (by kernel_rfl) (fun _ _ _ h => h) ?_ hS1 ?_
      · exact .inr ⟨by kernel_rfl, rfl⟩
      try simp only [Act.put, List.getElem_toArray, List.getElem_cons_succ, List.getElem_cons_zero, List.setIfInBounds_toArray, List.set_cons_zero, List.set_cons_succ]
      refine wpAnyH_take (i := 9) (v := undef) rfl (by kernel_rfl) (by kernel_rfl) (by kernel_rfl) (fun _ _ _ h => h) ?_ hS1 ?_
      · exact .inr ⟨by kernel_rfl, rfl⟩
      try simp only [Act.put, List.getElem_toArray, List.getElem_cons_succ, List.getElem_cons_zero, List.setIfInBounds_toArray, List.set_cons_zero, List.set_cons_succ]
      refine wpAnyH_take (i := 10) (v := .bool false) rfl (by kernel_rfl) (by kernel_rfl) (by kernel_rfl) (fun _ _ _ h => h) (Or.inl ⟨by kernel_rfl, fun w hSw => ?_⟩) hS1 ?_
      · go_simp
      try simp only [Act.put, List.getElem_toArray, List.getElem_cons_succ, List.getElem_cons_zero, List.setIfInBounds_toArray, List.set_cons_zero, List.set_cons_succ]
      refine wpAnyH_done (by kernel_rfl) ?_ _
      clear hS0
      try clear hrs6
      go_wp2_with fail
      go_meet
      case rel => exact ⟨rfl, hS1⟩

  case rest =>
  obtain ⟨rfl, hr, hby, hbl⟩ := hcut
  have H2 := Lib.hid hr; have HL2 := Lib.hid hbl
  clear hr hby hbl hcase H1 HB1 HL1
  go_wp2_with fail
  refine (new_c a0 n0 c0 l wc H2.out (by omega)).mono ?_
  rintro e w2 ⟨(⟨hrt, rfl, a1, c1, hs1⟩ | ⟨hrt, rfl⟩), hb2⟩
  rotate_left
  · have HL3 := Lib.hid (HL2.out.trans (hb2.mono HL2.out.size))
    clear hb2
    go_wp2_with fail
    refine (num_c 2 _).mono ?_
    rintro e w' ⟨rfl, rfl⟩
    go_wp2_with fail
    refine (sworks_c _).mono ?_
    rintro e wf ⟨rfl, hbf⟩
    have HF := Lib.hid ((HL3.out).trans (hbf.mono (HL3.out).size))
    clear hbf
    go_wp2_with fail
    go_ret
    exact ⟨rfl, HF.out⟩
  have HRT := Lib.hid hrt
  obtain ⟨p1, hp1⟩ : ∃ p1, p1 = wc.heap.size := ⟨_, rfl⟩
  rw [← hp1] at hs1 ⊢
  have hp1w : w.heap.size ≤ p1 := by rw [hp1]; exact HL2.out.size
  have HS1 := Lib.hid hs1; have HR2 := Lib.hid (H2.out.below hb2); have HL3 := Lib.hid (HL2.out.trans (hb2.mono HL2.out.size))
  clear hs1 hb2 H2 HL2 hp1 hrt
  go_wp2_with fail
  refine (num_c 0 _).mono ?_
  rintro e w' ⟨rfl, rfl⟩
  go_wp2_with fail
  refine (new_c none 0 0 [] w2 (Sps.nil _ _) (by omega)).mono ?_
  rintro e w3 ⟨(⟨-, rfl, a2, c2, hs2⟩ | ⟨hrt, -⟩), hb3⟩
  rotate_left
  · rw [rights_nil] at hrt; cases hrt
  obtain ⟨p2, hp2⟩ : ∃ p2, p2 = w2.heap.size := ⟨_, rfl⟩
  rw [← hp2] at hs2 ⊢
  have hp12 : p1 < p2 := by rw [hp2]; exact HS1.out.blk.lt
  have HO0 : Hid (HoSt w a0 n0 l p1 (setL l) a1 c1 p2 ((lastP z l 0).foldl addL []) a2 c2 w3) := Lib.hid ⟨HR2.out.below hb3, HS1.out.below hb3, hs2, HL3.out.trans (hb3.mono HL3.out.size), hp1w, hp12⟩
  clear hs2 hb3 HR2 HS1 HL3 hp2
  go_wp2_with fail
  go_loopw [13] (fun iv wr => ∃ (j : Nat) (a2 : Option Addr) (c2 : Nat), ((iv = .int .i64 (-1) ∧ j = n0) ∨ ∃ i : Nat, i + j + 1 = n0 ∧ iv = .int .i64 (i : Int)) ∧ HoSt w a0 n0 l p1 (setL l) a1 c1 p2 ((lastP z l j).foldl addL []) a2 c2 wr) (fun iv _ => (intOf iv + 1).toNat)
  case atStart =>
    refine ⟨0, a2, c2, ?_, HO0.out⟩
    rcases Nat.eq_zero_or_pos n0 with h0 | h0
    · exact .inl ⟨by rw [h0]; rfl, h0.symm⟩
    · exact .inr ⟨n0 - 1, by omega, by rw [show ((n0 - 1 : Nat) : Int) = (n0 : Int) - 1 from by omega]⟩
  case round =>
  clear HO0
  obtain ⟨j, a2, c2, hij, hst⟩ := hrel
  have HST := Lib.hid hst
  clear hst
  rcases hij with ⟨rfl, hjn⟩ | ⟨i, hij, rfl⟩
  · have HSE : Hid ((lastP z l j).foldl addL [] = setL l) := Lib.hid (by rw [hjn, ← hll, lastP_all, any_order l z (rights_all HRT.out)]; rfl)
    have hst := HST.out
    rw [HSE.out] at hst
    have HST2 := Lib.hid hst
    have HCA : Hid (Can (-1) (setL l)) := Lib.hid (setL_can HRT.out)
    clear hst HST HSE hjn
    go_wp2_with fail
    refine (same_c p1 p2 (setL l) (setL l) a1 c1 a2 c2 wr HST2.out.sa HST2.out.so (by have := HCA.out.short; omega) (by have := HCA.out.short; omega)).mono ?_
    rintro e v1 ⟨rfl, hb⟩
    rw [show decide (setL l = setL l) = true from decide_eq_true rfl]
    have HST3 := Lib.hid (HST2.out.below hb)
    clear hb HST2
    go_wp2_with fail
    refine (raw_c p1 (setL l) a1 c1 v1 HST3.out.sa HCA.out (by have := HCA.out.short; omega)).mono ?_
    rintro e v2 ⟨r, rfl, ho, hb⟩
    obtain ⟨ra, rc, hrv, -, hry⟩ := ho.bys
    obtain ⟨rn, hrn, hrn2⟩ : ∃ rn, r = .slice ra rn rc ∧ rn = (rawB (setL l)).length := ⟨_, hrv, rfl⟩
    rw [← hrn2] at hry
    subst hrn
    have HRY := Lib.hid hry; have HST4 := Lib.hid (HST3.out.below hb)
    have hrnl : rn ≤ 1000000 := by have := rawB_len HCA.out; omega
    clear hry hrv ho hb HST3 hrn2
    go_wp2_with fail
    refine (sread_c ra rn rc (rawB (setL l)) v2 HRY.out hrnl).mono ?_
    rintro e v3 ⟨hb, (⟨L3, p3, a3, c3, hrd, rfl, hp3, hs3⟩ | ⟨hrd, -⟩)⟩
    rotate_left
    · rw [raw_read HCA.out (by have := HCA.out.tight; omega)] at hrd; cases hrd
    rw [raw_read HCA.out (by have := HCA.out.tight; omega)] at hrd
    injection hrd with hrd
    subst hrd
    have hal := (Below.refl v3.heap.size v3).alloc (Nat.le_refl _) (.cells #[.int .i64 0, .int .i64 4096] 33)
    have hlt := HST4.out.so.blk.lt
    have hbz := hb.size
    have HST5 := Lib.hid ((HST4.out.below hb).below hal)
    have HS3 := Lib.hid (hs3.below hal)
    have HBW := Lib.hid (Blk.new v3 33 #[.int .i64 0, .int .i64 4096])
    obtain ⟨B, hB⟩ : ∃ B, B = v3.heap.size := ⟨_, rfl⟩
    have hpB : p2 < B := by omega
    have hp23 : p2 < p3 := by omega
    rw [← hB] at HBW
    have HBE := Lib.hid hB
    clear hal hlt hbz hb hs3 HST4 hp3 hB HRY
    go_wp2_with fail
    rw [← HBE.out]
    generalize v3.alloc (.cells #[.int .i64 0, .int .i64 4096] 33) = v4 at HST5 HS3 HBW ⊢
    refine (many_c p1 (setL l) a1 c1 v4 HST5.out.sa (by have := HCA.out.short; omega) (HCA.out.smalls (by decide))).mono ?_
    rintro e v5 ⟨rfl, hb⟩
    have HST6 := Lib.hid (HST5.out.below hb); have HS4 := Lib.hid (HS3.out.below hb); have HBW2 := Lib.hid (HBW.out.below hb HBW.out.lt)
    have b0 : v5.cell? ⟨B, 0, none⟩ = some (.int .i64 0) := HBW2.out.cell (i := 0) rfl
    have b1 : v5.cell? ⟨B, 1, none⟩ = some (.int .i64 4096) := HBW2.out.cell (i := 1) rfl
    clear hb HST5 HS3 HBW HBE
    go_wp2_with fail
    change Calls Try.prog 12 #[_, Sp.val wholeS] _ _
    refine (gaps_c p1 (setL l) a1 c1 wholeS v5 HST6.out.sa (by have := HCA.out.short; omega) (HCA.out.smalls (by decide)) ⟨by decide, by decide⟩ (by decide) (by decide)).mono ?_
    rintro e v6 ⟨ag, cg, rfl, hr, hb⟩
    rw [gaps_whole HCA.out] at hr ⊢
    obtain ⟨G, hG⟩ : ∃ G, G = gapsFrom 0 (setL l) := ⟨_, rfl⟩
    rw [← hG] at hr ⊢
    obtain ⟨ng, hng⟩ : ∃ ng, ng = G.length := ⟨_, rfl⟩
    rw [← hng] at hr ⊢
    have HGD := Lib.hid hG
    have HCG : Hid (Can (-1) G) := Lib.hid (by rw [hG]; exact gaps_can HCA.out ⟨by decide, by decide⟩ (by decide))
    have HGR : Hid (∀ u ∈ G, u.right = true) := Lib.hid (fun u hu => by have := HCG.out.forall u hu; unfold Sp.right; rw [decide_eq_true_eq]; omega)
    have HSU0 : Hid (HoSu w a0 n0 l p1 (setL l) a1 c1 p2 ((G.take 0).foldl addL (setL l)) a2 c2 p3 a3 c3 B ag ng G v6) := Lib.hid ⟨HST6.out.below hb, HS4.out.below hb, HBW2.out.below hb HBW2.out.lt, hr, hp23, hpB⟩
    obtain ⟨sA_, hsA⟩ : ∃ sA_, sA_ = sumG Sp.len (setL l) := ⟨_, rfl⟩
    rw [← hsA]
    have HSA := Lib.hid hsA
    have hngl : ng ≤ 4097 := by rw [hng]; exact HCG.out.short
    have hsb := sumG_bound Sp.len (setL l) (fun u hu => Sp.len_le (HCA.out.smalls (by decide) u hu))
    have hsl := HCA.out.short
    rw [← hsA] at hsb
    clear hb hr hG b0 b1 HST6 HS4 HBW2 hsA
    go_wp2_with fail
    go_loopw [26, 24] (fun iv nv wr => ∃ (i : Nat) (a2 : Option Addr) (c2 : Nat), i ≤ ng ∧ iv = .int .i64 (i : Int) ∧ nv = .int .i64 (sA_ + sumG Sp.len (G.take i)) ∧ HoSu w a0 n0 l p1 (setL l) a1 c1 p2 ((G.take i).foldl addL (setL l)) a2 c2 p3 a3 c3 B ag ng G wr) (fun iv _ _ => ng - (intOf iv).toNat)
    case atStart => exact ⟨0, a2, c2, Nat.zero_le _, rfl, by simp [sumG_nil], HSU0.out⟩
    case round =>
    clear HSU0
    obtain ⟨i, a2, c2, hi, rfl, rfl, hsu⟩ := hrel
    have HSU1 := Lib.hid hsu
    have hgb := sumG_bound Sp.len (G.take i) (fun u hu => Sp.len_le (HCG.out.smalls (by decide) u (List.mem_of_mem_take hu)))
    rw [List.length_take] at hgb
    obtain ⟨s, hsd⟩ : ∃ s, s = sA_ + sumG Sp.len (G.take i) := ⟨_, rfl⟩
    have hs1 : 0 ≤ s ∧ s ≤ 100000000 := by omega
    rw [← hsd]
    have HSD : Hid (s = sumG Sp.len (setL l) + sumG Sp.len (G.take i)) := Lib.hid (by rw [hsd, HSA.out])
    clear hsu hgb hsd
    by_cases hlt : i < ng
    rotate_left
    · obtain rfl : i = ng := by omega
      have HTK : Hid (G.take i = G) := Lib.hid (List.take_of_length_le (by omega))
      have HNS : Hid (s = 4096) := Lib.hid (by have := gaps_sum HCA.out (e := 0) ⟨by decide, by decide⟩ (by decide); rw [← HGD.out] at this; rw [HSD.out, HTK.out]; omega)
      have hsu := HSU1.out
      rw [HTK.out, HGD.out, gaps_full HCA.out] at hsu
      have HSU2 := Lib.hid hsu
      rw [HNS.out]
      clear hsu HSU1
      go_wp2_with fail
      refine (num_c 0 _).mono ?_
      rintro e w' ⟨rfl, rfl⟩
      go_wp2_with fail
      refine (num_c 0 _).mono ?_
      rintro e w' ⟨rfl, rfl⟩
      go_wp2_with fail
      refine (same_c p1 p3 (setL l) (setL l) a1 c1 a3 c3 _ HSU2.out.o.sa HSU2.out.sx (by have := HCA.out.short; omega) (by have := HCA.out.short; omega)).mono ?_
      rintro e v1 ⟨rfl, hb⟩
      rw [show decide (setL l = setL l) = true from decide_eq_true rfl]
      have HSU3 := Lib.hid (HSU2.out.below hb)
      clear hb HSU2
      have b0 : v1.cell? ⟨B, 0, none⟩ = some (.int .i64 0) := HSU3.out.bw.cell (i := 0) rfl
      have b1 : v1.cell? ⟨B, 1, none⟩ = some (.int .i64 4096) := HSU3.out.bw.cell (i := 1) rfl
      go_wp2_with fail
      change Calls Try.prog 13 #[_, Sp.val wholeS] _ _
      refine (covers_c p2 [wholeS] a2 c2 wholeS v1 HSU3.out.o.so (by decide) smalls_whole ⟨by decide, by decide⟩ (by decide)).mono ?_
      rintro e v2 ⟨rfl, hb⟩
      rw [among_whole]
      have HSU4 := Lib.hid (HSU3.out.below hb)
      clear hb HSU3 b0 b1
      go_wp2_with fail
      refine (gap_c p2 [wholeS] a2 c2 0 v2 HSU4.out.o.so (by decide)).mono ?_
      rintro e v3 ⟨rfl, hb⟩
      rw [gap_whole]
      have HSU5 := Lib.hid (HSU4.out.below hb)
      clear hb HSU4
      go_wp2_with fail
      refine (sworks_c _).mono ?_
      rintro e wf ⟨rfl, hbf⟩
      have HF := Lib.hid ((HSU5.out.o.bel).trans (hbf.mono (HSU5.out.o.bel).size))
      clear hbf
      go_wp2_with fail
      go_ret
      exact ⟨rfl, HF.out⟩
    obtain ⟨y, hy⟩ : ∃ y, G[i]? = some y := ⟨G[i]'(by omega), List.getElem?_eq_getElem _⟩
    have HY := Lib.hid hy
    have hym := HCG.out.forall y (List.mem_of_getElem? hy)
    have hy0 : 0 ≤ y.f ∧ y.f < y.t ∧ y.t ≤ 4096 := by omega
    have HYL : Hid (y.len = y.t - y.f) := Lib.hid (by unfold Sp.len; omega)
    obtain ⟨g, off, hag, hg, d0, d1⟩ := HSU1.out.gr.2 i y hy
    subst hag
    have q2 : (i : Int) < (ng : Int) := by omega
    clear hy hym hg
    go_wp2_with fail
    obtain ⟨s2, hs2⟩ : ∃ s2, s2 = s + y.t - y.f := ⟨_, rfl⟩
    have HS2 := Lib.hid hs2
    have hS0 : (fun W : World => W.cell? ⟨g, off + i * 2, none⟩ = some (.int .i64 y.f) ∧ W.cell? ⟨g, off + i * 2 + 1, none⟩ = some (.int .i64 y.t)) wr.drew := ⟨d0, d1⟩
    have HSU2 := Lib.hid (HSU1.out.below (Below.refl wr.heap.size wr).drew)
    clear HSU1 d0 d1 hs2
    refine wp_region_held_drew (S := (fun W : World => W.cell? ⟨g, off + i * 2, none⟩ = some (.int .i64 y.f) ∧ W.cell? ⟨g, off + i * 2 + 1, none⟩ = some (.int .i64 y.t))) (by kernel_rfl) hS0 ?_
    intro hS0'
    refine wpAnyH_take (i := 0) (v := .int .i64 s) rfl (by kernel_rfl) (by kernel_rfl) (by kernel_rfl) (fun _ _ _ h => h) (Or.inl ⟨by kernel_rfl, fun w hSw => ?_⟩) hS0' ?_
    · go_simp
    try simp only [Act.put, List.getElem_toArray, List.getElem_cons_succ, List.getElem_cons_zero, List.setIfInBounds_toArray, List.set_cons_zero, List.set_cons_succ]
    refine wpAnyH_take (i := 1) (v := .slice (some ⟨g, off, none⟩) ng cg) rfl (by kernel_rfl) (by kernel_rfl) (by kernel_rfl) (fun _ _ _ h => h) (Or.inl ⟨by kernel_rfl, fun w hSw => ?_⟩) hS0' ?_
    · go_simp
    try simp only [Act.put, List.getElem_toArray, List.getElem_cons_succ, List.getElem_cons_zero, List.setIfInBounds_toArray, List.set_cons_zero, List.set_cons_succ]
    refine wpAnyH_take (i := 2) (v := .int .i64 (i : Int)) rfl (by kernel_rfl) (by kernel_rfl) (by kernel_rfl) (fun _ _ _ h => h) (Or.inl ⟨by kernel_rfl, fun w hSw => ?_⟩) hS0' ?_
    · go_simp
    try simp only [Act.put, List.getElem_toArray, List.getElem_cons_succ, List.getElem_cons_zero, List.setIfInBounds_toArray, List.set_cons_zero, List.set_cons_succ]
    refine wpAnyH_take (i := 3) (v := .pointer (some ⟨g, off + i * 2, none⟩)) rfl (by kernel_rfl) (by kernel_rfl) (by kernel_rfl) (fun _ _ _ h => h) (Or.inl ⟨by kernel_rfl, fun w hSw => ?_⟩) hS0' ?_
    · go_simp
    try simp only [Act.put, List.getElem_toArray, List.getElem_cons_succ, List.getElem_cons_zero, List.setIfInBounds_toArray, List.set_cons_zero, List.set_cons_succ]
    refine wpAnyH_take (i := 4) (v := .pointer (some ⟨g, off + i * 2 + 1, none⟩)) rfl (by kernel_rfl) (by kernel_rfl) (by kernel_rfl) (fun _ _ _ h => h) (Or.inl ⟨by kernel_rfl, fun w hSw => ?_⟩) hS0' ?_
    · go_simp
    try simp only [Act.put, List.getElem_toArray, List.getElem_cons_succ, List.getElem_cons_zero, List.setIfInBounds_toArray, List.set_cons_zero, List.set_cons_succ]
    refine wpAnyH_take (i := 5) (v := .int .i64 y.t) rfl (by kernel_rfl) (by kernel_rfl) (by kernel_rfl) (fun _ _ _ h => h) (Or.inl ⟨by kernel_rfl, fun w hSw => ?_⟩) hS0' ?_
    · have d1 := hSw.2
      go_simp
    try simp only [Act.put, List.getElem_toArray, List.getElem_cons_succ, List.getElem_cons_zero, List.setIfInBounds_toArray, List.set_cons_zero, List.set_cons_succ]
    refine wpAnyH_take (i := 6) (v := .int .i64 (s + y.t)) rfl (by kernel_rfl) (by kernel_rfl) (by kernel_rfl) (fun _ _ _ h => h) ?_ hS0' ?_
    · refine Or.inl ⟨by kernel_rfl, fun w hSw => ?_⟩
      go_simp
      exact IntWalk.i64_in _ (by omega)
    try simp only [Act.put, List.getElem_toArray, List.getElem_cons_succ, List.getElem_cons_zero, List.setIfInBounds_toArray, List.set_cons_zero, List.set_cons_succ]
    refine wpAnyH_take (i := 7) (v := .slice (some ⟨g, off, none⟩) ng cg) rfl (by kernel_rfl) (by kernel_rfl) (by kernel_rfl) (fun _ _ _ h => h) (Or.inl ⟨by kernel_rfl, fun w hSw => ?_⟩) hS0' ?_
    · go_simp
    try simp only [Act.put, List.getElem_toArray, List.getElem_cons_succ, List.getElem_cons_zero, List.setIfInBounds_toArray, List.set_cons_zero, List.set_cons_succ]
    refine wpAnyH_take (i := 8) (v := .int .i64 (i : Int)) rfl (by kernel_rfl) (by kernel_rfl) (by kernel_rfl) (fun _ _ _ h => h) (Or.inl ⟨by kernel_rfl, fun w hSw => ?_⟩) hS0' ?_
    · go_simp
    try simp only [Act.put, List.getElem_toArray, List.getElem_cons_succ, List.getElem_cons_zero, List.setIfInBounds_toArray, List.set_cons_zero, List.set_cons_succ]
    refine wpAnyH_take (i := 9) (v := .pointer (some ⟨g, off + i * 2, none⟩)) rfl (by kernel_rfl) (by kernel_rfl) (by kernel_rfl) (fun _ _ _ h => h) (Or.inl ⟨by kernel_rfl, fun w hSw => ?_⟩) hS0' ?_
    · go_simp
    try simp only [Act.put, List.getElem_toArray, List.getElem_cons_succ, List.getElem_cons_zero, List.setIfInBounds_toArray, List.set_cons_zero, List.set_cons_succ]
    refine wpAnyH_take (i := 10) (v := .pointer (some ⟨g, off + i * 2, none⟩)) rfl (by kernel_rfl) (by kernel_rfl) (by kernel_rfl) (fun _ _ _ h => h) (Or.inl ⟨by kernel_rfl, fun w hSw => ?_⟩) hS0' ?_
    · go_simp
    try simp only [Act.put, List.getElem_toArray, List.getElem_cons_succ, List.getElem_cons_zero, List.setIfInBounds_toArray, List.set_cons_zero, List.set_cons_succ]
    refine wpAnyH_take (i := 11) (v := .int .i64 y.f) rfl (by kernel_rfl) (by kernel_rfl) (by kernel_rfl) (fun _ _ _ h => h) (Or.inl ⟨by kernel_rfl, fun w hSw => ?_⟩) hS0' ?_
    · have d0 := hSw.1
      go_simp
    try simp only [Act.put, List.getElem_toArray, List.getElem_cons_succ, List.getElem_cons_zero, List.setIfInBounds_toArray, List.set_cons_zero, List.set_cons_succ]
    refine wpAnyH_take (i := 12) (v := .int .i64 s2) rfl (by kernel_rfl) (by kernel_rfl) (by kernel_rfl) (fun _ _ _ h => h) ?_ hS0' ?_
    · refine Or.inl ⟨by kernel_rfl, fun w hSw => ?_⟩
      rw [HS2.out]
      go_simp
      exact IntWalk.i64_in _ (by omega)
    try simp only [Act.put, List.getElem_toArray, List.getElem_cons_succ, List.getElem_cons_zero, List.setIfInBounds_toArray, List.set_cons_zero, List.set_cons_succ]
    refine wpAnyH_take (i := 13) (v := .int .i64 s2) rfl (by kernel_rfl) (by kernel_rfl) (by kernel_rfl) (fun _ _ _ h => h) (Or.inl ⟨by kernel_rfl, fun w hSw => ?_⟩) hS0' ?_
    · go_simp
    try simp only [Act.put, List.getElem_toArray, List.getElem_cons_succ, List.getElem_cons_zero, List.setIfInBounds_toArray, List.set_cons_zero, List.set_cons_succ]
    refine wpAnyH_done (by kernel_rfl) ?_ _
    clear hS0
    generalize wr.drew = v0 at hS0' HSU2 ⊢
    have d0 := hS0'.1
    have d1 := hS0'.2
    obtain ⟨O, hO⟩ : ∃ O, O = (G.take i).foldl addL (setL l) := ⟨_, rfl⟩
    rw [← hO] at HSU2
    have HO := Lib.hid hO
    have HAG : Hid (y.right = true ∧ among O y = 0 ∧ 0 < y.len) := Lib.hid (by rw [hO, HGD.out]; exact adding_gaps HCA.out i y (by rw [← HGD.out]; exact HY.out))
    have HCO : Hid (Can (-1) O) := Lib.hid (by rw [hO]; exact (adds HCA.out (G.take i) (fun u hu => HGR.out u (List.mem_of_mem_take hu))).1)
    clear hO
    go_wp2_with fail
    change Calls Try.prog 9 #[_, Sp.val y] _ _
    refine (add_c p2 O a2 c2 y v0 HSU2.out.o.so (by have := HCO.out.short; omega) (HCO.out.smalls (by decide))).mono ?_
    rintro e v1 ⟨(⟨-, rfl, a5, c5, hs⟩ | ⟨hr, -, -⟩), ho⟩
    rotate_left
    · rw [HAG.out.1] at hr; cases hr
    have HSV := Lib.hid (HSU2.out.add hs ho)
    obtain ⟨D, hD⟩ : ∃ D, D = y.t - y.f := ⟨_, rfl⟩
    have HD := Lib.hid hD
    have hct : y.len - among O y = D := by rw [HAG.out.2.1, HYL.out, hD]; omega
    rw [hct]
    have HEQ : Hid ((G.take (i + 1)).foldl addL (setL l) = addL O y) := Lib.hid (by rw [List.take_add_one, HY.out, List.foldl_append, ← HO.out]; rfl)
    clear hs ho HSU2 d0 d1 hD hct hS0'
    obtain ⟨d0, d1⟩ := HSV.out.gr.at_ HY.out
    go_wp2_with fail
    have hS1 : (fun W : World => W.cell? ⟨g, off + i * 2, none⟩ = some (.int .i64 y.f) ∧ W.cell? ⟨g, off + i * 2 + 1, none⟩ = some (.int .i64 y.t)) v1.drew := ⟨d0, d1⟩
    have HSW := Lib.hid (HSV.out.below (Below.refl v1.heap.size v1).drew)
    clear HSV d0 d1
    refine wp_region_held_drew (S := (fun W : World => W.cell? ⟨g, off + i * 2, none⟩ = some (.int .i64 y.f) ∧ W.cell? ⟨g, off + i * 2 + 1, none⟩ = some (.int .i64 y.t))) (by kernel_rfl) hS1 ?_
    intro hS0'
    generalize v1.drew = v2 at hS0' HSW ⊢
    refine wpAnyH_take (i := 0) (v := .int .i64 D) rfl (by kernel_rfl) (by kernel_rfl) (by kernel_rfl) (fun _ _ _ h => h) (Or.inl ⟨by kernel_rfl, fun w hSw => ?_⟩) hS0' ?_
    · go_simp
    try simp only [Act.put, List.getElem_toArray, List.getElem_cons_succ, List.getElem_cons_zero, List.setIfInBounds_toArray, List.set_cons_zero, List.set_cons_succ]
    refine wpAnyH_take (i := 1) (v := .slice (some ⟨g, off, none⟩) ng cg) rfl (by kernel_rfl) (by kernel_rfl) (by kernel_rfl) (fun _ _ _ h => h) (Or.inl ⟨by kernel_rfl, fun w hSw => ?_⟩) hS0' ?_
    · go_simp
    try simp only [Act.put, List.getElem_toArray, List.getElem_cons_succ, List.getElem_cons_zero, List.setIfInBounds_toArray, List.set_cons_zero, List.set_cons_succ]
    refine wpAnyH_take (i := 2) (v := .int .i64 (i : Int)) rfl (by kernel_rfl) (by kernel_rfl) (by kernel_rfl) (fun _ _ _ h => h) (Or.inl ⟨by kernel_rfl, fun w hSw => ?_⟩) hS0' ?_
    · go_simp
    try simp only [Act.put, List.getElem_toArray, List.getElem_cons_succ, List.getElem_cons_zero, List.setIfInBounds_toArray, List.set_cons_zero, List.set_cons_succ]
    refine wpAnyH_take (i := 3) (v := .pointer (some ⟨g, off + i * 2, none⟩)) rfl (by kernel_rfl) (by kernel_rfl) (by kernel_rfl) (fun _ _ _ h => h) (Or.inl ⟨by kernel_rfl, fun w hSw => ?_⟩) hS0' ?_
    · go_simp
    try simp only [Act.put, List.getElem_toArray, List.getElem_cons_succ, List.getElem_cons_zero, List.setIfInBounds_toArray, List.set_cons_zero, List.set_cons_succ]
    refine wpAnyH_take (i := 4) (v := .pointer (some ⟨g, off + i * 2 + 1, none⟩)) rfl (by kernel_rfl) (by kernel_rfl) (by kernel_rfl) (fun _ _ _ h => h) (Or.inl ⟨by kernel_rfl, fun w hSw => ?_⟩) hS0' ?_
    · go_simp
    try simp only [Act.put, List.getElem_toArray, List.getElem_cons_succ, List.getElem_cons_zero, List.setIfInBounds_toArray, List.set_cons_zero, List.set_cons_succ]
    refine wpAnyH_take (i := 5) (v := .int .i64 y.t) rfl (by kernel_rfl) (by kernel_rfl) (by kernel_rfl) (fun _ _ _ h => h) (Or.inl ⟨by kernel_rfl, fun w hSw => ?_⟩) hS0' ?_
    · have d1 := hSw.2
      go_simp
    try simp only [Act.put, List.getElem_toArray, List.getElem_cons_succ, List.getElem_cons_zero, List.setIfInBounds_toArray, List.set_cons_zero, List.set_cons_succ]
    refine wpAnyH_take (i := 6) (v := .slice (some ⟨g, off, none⟩) ng cg) rfl (by kernel_rfl) (by kernel_rfl) (by kernel_rfl) (fun _ _ _ h => h) (Or.inl ⟨by kernel_rfl, fun w hSw => ?_⟩) hS0' ?_
    · go_simp
    try simp only [Act.put, List.getElem_toArray, List.getElem_cons_succ, List.getElem_cons_zero, List.setIfInBounds_toArray, List.set_cons_zero, List.set_cons_succ]
    refine wpAnyH_take (i := 7) (v := .int .i64 (i : Int)) rfl (by kernel_rfl) (by kernel_rfl) (by kernel_rfl) (fun _ _ _ h => h) (Or.inl ⟨by kernel_rfl, fun w hSw => ?_⟩) hS0' ?_
    · go_simp
    try simp only [Act.put, List.getElem_toArray, List.getElem_cons_succ, List.getElem_cons_zero, List.setIfInBounds_toArray, List.set_cons_zero, List.set_cons_succ]
    refine wpAnyH_take (i := 8) (v := .pointer (some ⟨g, off + i * 2, none⟩)) rfl (by kernel_rfl) (by kernel_rfl) (by kernel_rfl) (fun _ _ _ h => h) (Or.inl ⟨by kernel_rfl, fun w hSw => ?_⟩) hS0' ?_
    · go_simp
    try simp only [Act.put, List.getElem_toArray, List.getElem_cons_succ, List.getElem_cons_zero, List.setIfInBounds_toArray, List.set_cons_zero, List.set_cons_succ]
    refine wpAnyH_take (i := 9) (v := .pointer (some ⟨g, off + i * 2, none⟩)) rfl (by kernel_rfl) (by kernel_rfl) (by kernel_rfl) (fun _ _ _ h => h) (Or.inl ⟨by kernel_rfl, fun w hSw => ?_⟩) hS0' ?_
    · go_simp
    try simp only [Act.put, List.getElem_toArray, List.getElem_cons_succ, List.getElem_cons_zero, List.setIfInBounds_toArray, List.set_cons_zero, List.set_cons_succ]
    refine wpAnyH_take (i := 10) (v := .int .i64 y.f) rfl (by kernel_rfl) (by kernel_rfl) (by kernel_rfl) (fun _ _ _ h => h) (Or.inl ⟨by kernel_rfl, fun w hSw => ?_⟩) hS0' ?_
    · have d0 := hSw.1
      go_simp
    try simp only [Act.put, List.getElem_toArray, List.getElem_cons_succ, List.getElem_cons_zero, List.setIfInBounds_toArray, List.set_cons_zero, List.set_cons_succ]
    refine wpAnyH_take (i := 11) (v := .int .i64 D) rfl (by kernel_rfl) (by kernel_rfl) (by kernel_rfl) (fun _ _ _ h => h) ?_ hS0' ?_
    · refine Or.inl ⟨by kernel_rfl, fun w hSw => ?_⟩
      rw [HD.out]
      go_simp
      exact IntWalk.i64_in _ (by omega)
    try simp only [Act.put, List.getElem_toArray, List.getElem_cons_succ, List.getElem_cons_zero, List.setIfInBounds_toArray, List.set_cons_zero, List.set_cons_succ]
    refine wpAnyH_take (i := 12) (v := .bool false) rfl (by kernel_rfl) (by kernel_rfl) (by kernel_rfl) (fun _ _ _ h => h) (Or.inl ⟨by kernel_rfl, fun w hSw => ?_⟩) hS0' ?_
    · go_simp
    try simp only [Act.put, List.getElem_toArray, List.getElem_cons_succ, List.getElem_cons_zero, List.setIfInBounds_toArray, List.set_cons_zero, List.set_cons_succ]
    refine wpAnyH_take (i := 13) (v := .bool false) rfl (by kernel_rfl) (by kernel_rfl) (by kernel_rfl) (fun _ _ _ h => h) (Or.inl ⟨by kernel_rfl, fun w hSw => ?_⟩) hS0' ?_
    · go_simp
    try simp only [Act.put, List.getElem_toArray, List.getElem_cons_succ, List.getElem_cons_zero, List.setIfInBounds_toArray, List.set_cons_zero, List.set_cons_succ]
    refine wpAnyH_take (i := 14) (v := .int .i64 0) rfl (by kernel_rfl) (by kernel_rfl) (by kernel_rfl) (fun _ _ _ h => h) (Or.inl ⟨by kernel_rfl, fun w hSw => ?_⟩) hS0' ?_
    · go_simp
    try simp only [Act.put, List.getElem_toArray, List.getElem_cons_succ, List.getElem_cons_zero, List.setIfInBounds_toArray, List.set_cons_zero, List.set_cons_succ]
    refine wpAnyH_ready (rs := [15]) (by kernel_rfl) (by simp) ?_
    refine AllReadyH.cons (by rfl) ?_ AllReadyH.nil
    intro K hK
    go_simp
    refine (num_c 0 _).mono ?_
    rintro e w4 ⟨rfl, hw4⟩
    subst hw4
    refine hK.out _ _ hS0' (fun hS1 => ?_)
    clear hK K
    refine wpAnyH_take (i := 16) (v := .bool false) rfl (by kernel_rfl) (by kernel_rfl) (by kernel_rfl) (fun _ _ _ h => h) (Or.inl ⟨by kernel_rfl, fun w hSw => ?_⟩) hS1 ?_
    · go_simp
    try simp only [Act.put, List.getElem_toArray, List.getElem_cons_succ, List.getElem_cons_zero, List.setIfInBounds_toArray, List.set_cons_zero, List.set_cons_succ]
    refine wpAnyH_take (i := 17) (v := .bool false) rfl (by kernel_rfl) (by kernel_rfl) (by kernel_rfl) (fun _ _ _ h => h) (Or.inl ⟨by kernel_rfl, fun w hSw => ?_⟩) hS1 ?_
    · go_simp
    try simp only [Act.put, List.getElem_toArray, List.getElem_cons_succ, List.getElem_cons_zero, List.setIfInBounds_toArray, List.set_cons_zero, List.set_cons_succ]
    refine wpAnyH_done (by kernel_rfl) ?_ _
    clear hS1
    go_wp2_with fail
    go_roundw
    case rel => exact ⟨i + 1, a5, c5, by omega, by go_num, by rw [HS2.out, HSD.out, HSA.out, sumG_take Sp.len HY.out, HYL.out]; congr 1; omega, by rw [HEQ.out]; exact HSW.out⟩
    case measure => simp [intOf]; omega
  · obtain ⟨x, hx⟩ : ∃ x, l[i]? = some x := ⟨l[i]'(by omega), List.getElem?_eq_getElem _⟩
    have HX := Lib.hid hx
    have q1 : (0 : Int) ≤ (i : Int) := by omega
    have q2 : (i : Int) < (n0 : Int) := by omega
    obtain ⟨g, off, ha0, hg, d0, d1⟩ := HST.out.row.2 i x hx
    subst ha0
    have hlt : i < n0 := by omega
    clear hx
    go_wp2_with fail
    have hS0 : (fun W : World => W.cell? ⟨g, off + i * 2, none⟩ = some (.int .i64 x.f) ∧ W.cell? ⟨g, off + i * 2 + 1, none⟩ = some (.int .i64 x.t)) wr.drew := ⟨d0, d1⟩
    have HST2 := Lib.hid (HST.out.below (Below.refl wr.heap.size wr).drew)
    clear HST d0 d1
    obtain ⟨at_, hat⟩ : ∃ at_, at_ = max x.f (min x.t z) := ⟨_, rfl⟩
    have HAT := Lib.hid hat
    clear hat
    refine wp_region_held_drew (S := (fun W : World => W.cell? ⟨g, off + i * 2, none⟩ = some (.int .i64 x.f) ∧ W.cell? ⟨g, off + i * 2 + 1, none⟩ = some (.int .i64 x.t))) (by kernel_rfl) hS0 ?_
    intro hS0'
    refine wpAnyH_take (i := 0) (v := .slice (some ⟨g, off, none⟩) n0 c0) rfl (by kernel_rfl) (by kernel_rfl) (by kernel_rfl) (fun _ _ _ h => h) (Or.inl ⟨by kernel_rfl, fun w hSw => ?_⟩) hS0' ?_
    · go_simp
    try simp only [Act.put, List.getElem_toArray, List.getElem_cons_succ, List.getElem_cons_zero, List.setIfInBounds_toArray, List.set_cons_zero, List.set_cons_succ]
    refine wpAnyH_take (i := 1) (v := .int .i64 (i : Int)) rfl (by kernel_rfl) (by kernel_rfl) (by kernel_rfl) (fun _ _ _ h => h) (Or.inl ⟨by kernel_rfl, fun w hSw => ?_⟩) hS0' ?_
    · go_simp
    try simp only [Act.put, List.getElem_toArray, List.getElem_cons_succ, List.getElem_cons_zero, List.setIfInBounds_toArray, List.set_cons_zero, List.set_cons_succ]
    refine wpAnyH_take (i := 2) (v := .pointer (some ⟨g, off + i * 2, none⟩)) rfl (by kernel_rfl) (by kernel_rfl) (by kernel_rfl) (fun _ _ _ h => h) (Or.inl ⟨by kernel_rfl, fun w hSw => ?_⟩) hS0' ?_
    · go_simp
    try simp only [Act.put, List.getElem_toArray, List.getElem_cons_succ, List.getElem_cons_zero, List.setIfInBounds_toArray, List.set_cons_zero, List.set_cons_succ]
    refine wpAnyH_take (i := 3) (v := .pointer (some ⟨g, off + i * 2, none⟩)) rfl (by kernel_rfl) (by kernel_rfl) (by kernel_rfl) (fun _ _ _ h => h) (Or.inl ⟨by kernel_rfl, fun w hSw => ?_⟩) hS0' ?_
    · go_simp
    try simp only [Act.put, List.getElem_toArray, List.getElem_cons_succ, List.getElem_cons_zero, List.setIfInBounds_toArray, List.set_cons_zero, List.set_cons_succ]
    refine wpAnyH_take (i := 4) (v := .int .i64 x.f) rfl (by kernel_rfl) (by kernel_rfl) (by kernel_rfl) (fun _ _ _ h => h) (Or.inl ⟨by kernel_rfl, fun w hSw => ?_⟩) hS0' ?_
    · have d0 := hSw.1
      go_simp
    try simp only [Act.put, List.getElem_toArray, List.getElem_cons_succ, List.getElem_cons_zero, List.setIfInBounds_toArray, List.set_cons_zero, List.set_cons_succ]
    refine wpAnyH_take (i := 5) (v := .slice (some ⟨g, off, none⟩) n0 c0) rfl (by kernel_rfl) (by kernel_rfl) (by kernel_rfl) (fun _ _ _ h => h) (Or.inl ⟨by kernel_rfl, fun w hSw => ?_⟩) hS0' ?_
    · go_simp
    try simp only [Act.put, List.getElem_toArray, List.getElem_cons_succ, List.getElem_cons_zero, List.setIfInBounds_toArray, List.set_cons_zero, List.set_cons_succ]
    refine wpAnyH_take (i := 6) (v := .int .i64 (i : Int)) rfl (by kernel_rfl) (by kernel_rfl) (by kernel_rfl) (fun _ _ _ h => h) (Or.inl ⟨by kernel_rfl, fun w hSw => ?_⟩) hS0' ?_
    · go_simp
    try simp only [Act.put, List.getElem_toArray, List.getElem_cons_succ, List.getElem_cons_zero, List.setIfInBounds_toArray, List.set_cons_zero, List.set_cons_succ]
    refine wpAnyH_take (i := 7) (v := .pointer (some ⟨g, off + i * 2, none⟩)) rfl (by kernel_rfl) (by kernel_rfl) (by kernel_rfl) (fun _ _ _ h => h) (Or.inl ⟨by kernel_rfl, fun w hSw => ?_⟩) hS0' ?_
    · go_simp
    try simp only [Act.put, List.getElem_toArray, List.getElem_cons_succ, List.getElem_cons_zero, List.setIfInBounds_toArray, List.set_cons_zero, List.set_cons_succ]
    refine wpAnyH_take (i := 8) (v := .pointer (some ⟨g, off + i * 2 + 1, none⟩)) rfl (by kernel_rfl) (by kernel_rfl) (by kernel_rfl) (fun _ _ _ h => h) (Or.inl ⟨by kernel_rfl, fun w hSw => ?_⟩) hS0' ?_
    · go_simp
    try simp only [Act.put, List.getElem_toArray, List.getElem_cons_succ, List.getElem_cons_zero, List.setIfInBounds_toArray, List.set_cons_zero, List.set_cons_succ]
    refine wpAnyH_take (i := 9) (v := .int .i64 x.t) rfl (by kernel_rfl) (by kernel_rfl) (by kernel_rfl) (fun _ _ _ h => h) (Or.inl ⟨by kernel_rfl, fun w hSw => ?_⟩) hS0' ?_
    · have d1 := hSw.2
      go_simp
    try simp only [Act.put, List.getElem_toArray, List.getElem_cons_succ, List.getElem_cons_zero, List.setIfInBounds_toArray, List.set_cons_zero, List.set_cons_succ]
    refine wpAnyH_take (i := 10) (v := .int .i64 z) rfl (by kernel_rfl) (by kernel_rfl) (by kernel_rfl) (fun _ _ _ h => h) (Or.inl ⟨by kernel_rfl, fun w hSw => ?_⟩) hS0' ?_
    · go_simp
    try simp only [Act.put, List.getElem_toArray, List.getElem_cons_succ, List.getElem_cons_zero, List.setIfInBounds_toArray, List.set_cons_zero, List.set_cons_succ]
    refine wpAnyH_take (i := 11) (v := .int .i64 (min x.t z)) rfl (by kernel_rfl) (by kernel_rfl) (by kernel_rfl) (fun _ _ _ h => h) ?_ hS0' ?_
    · refine Or.inl ⟨by kernel_rfl, fun w hSw => ?_⟩
      go_simp
      split <;> omega
    try simp only [Act.put, List.getElem_toArray, List.getElem_cons_succ, List.getElem_cons_zero, List.setIfInBounds_toArray, List.set_cons_zero, List.set_cons_succ]
    refine wpAnyH_take (i := 12) (v := .int .i64 at_) rfl (by kernel_rfl) (by kernel_rfl) (by kernel_rfl) (fun _ _ _ h => h) ?_ hS0' ?_
    · refine Or.inl ⟨by kernel_rfl, fun w hSw => ?_⟩
      rw [HAT.out]
      go_simp
      split <;> omega
    try simp only [Act.put, List.getElem_toArray, List.getElem_cons_succ, List.getElem_cons_zero, List.setIfInBounds_toArray, List.set_cons_zero, List.set_cons_succ]
    refine wpAnyH_take (i := 13) (v := .int .i64 at_) rfl (by kernel_rfl) (by kernel_rfl) (by kernel_rfl) (fun _ _ _ h => h) (Or.inl ⟨by kernel_rfl, fun w hSw => ?_⟩) hS0' ?_
    · go_simp
    try simp only [Act.put, List.getElem_toArray, List.getElem_cons_succ, List.getElem_cons_zero, List.setIfInBounds_toArray, List.set_cons_zero, List.set_cons_succ]
    refine wpAnyH_done (by kernel_rfl) ?_ _
    clear hS0
    generalize wr.drew = v0 at hS0' HST2 ⊢
    have d0 := hS0'.1
    have d1 := hS0'.2
    go_wp2_with fail
    obtain ⟨O, hO⟩ : ∃ O, O = (lastP z l j).foldl addL [] := ⟨_, rfl⟩
    rw [← hO] at HST2
    have HO := Lib.hid hO
    have HCO : Hid (Can (-1) O) := Lib.hid (by rw [hO]; exact adds_can (lastP_right z HRT.out j))
    have HXR : Hid (x.right = true) := Lib.hid (rights_all HRT.out x (List.mem_of_getElem? HX.out))
    have HY1 : Hid ((⟨at_, x.t⟩ : Sp).right = true) := Lib.hid (pieces_right (cut := z) HXR.out _ (by rw [HAT.out]; simp [pieces]))
    have HY2 : Hid ((⟨x.f, at_⟩ : Sp).right = true) := Lib.hid (pieces_right (cut := z) HXR.out _ (by rw [HAT.out]; simp [pieces]))
    clear hO
    change Calls Try.prog 9 #[_, Sp.val ⟨at_, x.t⟩] _ _
    refine (add_c p2 O a2 c2 ⟨at_, x.t⟩ v0 HST2.out.so (by have := HCO.out.short; omega) (HCO.out.smalls (by decide))).mono ?_
    rintro e v1 ⟨(⟨-, rfl, a3, c3, hs⟩ | ⟨hr, -, -⟩), ho⟩
    rotate_left
    · rw [HY1.out] at hr; cases hr
    have HST3 := Lib.hid (HST2.out.add hs ho)
    obtain ⟨O1, hO1⟩ : ∃ O1, O1 = addL O ⟨at_, x.t⟩ := ⟨_, rfl⟩
    have HC1 : Hid (Can (-1) O1) := Lib.hid (by rw [hO1]; exact (adds HCO.out [⟨at_, x.t⟩] (by simpa using HY1.out)).1)
    rw [← hO1] at HST3
    have HO1 := Lib.hid hO1
    obtain ⟨k1, hk1⟩ : ∃ k1, k1 = (⟨at_, x.t⟩ : Sp).len - among O ⟨at_, x.t⟩ := ⟨_, rfl⟩
    rw [← hk1]
    clear hs ho hk1 hO1 HST2 d0 d1
    obtain ⟨d0, d1⟩ := HST3.out.row.at_ HX.out
    go_wp2_with fail
    change Calls Try.prog 9 #[_, Sp.val ⟨x.f, at_⟩] _ _
    refine (add_c p2 O1 a3 c3 ⟨x.f, at_⟩ v1 HST3.out.so (by have := HC1.out.short; omega) (HC1.out.smalls (by decide))).mono ?_
    rintro e v2 ⟨(⟨-, rfl, a4, c4, hs⟩ | ⟨hr, -, -⟩), ho⟩
    rotate_left
    · rw [HY2.out] at hr; cases hr
    have HST4 := Lib.hid (HST3.out.add hs ho)
    obtain ⟨O2, hO2⟩ : ∃ O2, O2 = addL O1 ⟨x.f, at_⟩ := ⟨_, rfl⟩
    have HC2 : Hid (Can (-1) O2) := Lib.hid (by rw [hO2]; exact (adds HC1.out [⟨x.f, at_⟩] (by simpa using HY2.out)).1)
    rw [← hO2] at HST4
    have HO2 := Lib.hid hO2
    obtain ⟨k2, hk2⟩ : ∃ k2, k2 = (⟨x.f, at_⟩ : Sp).len - among O1 ⟨x.f, at_⟩ := ⟨_, rfl⟩
    rw [← hk2]
    clear hs ho hk2 hO2 HST3 d0 d1
    obtain ⟨d0, d1⟩ := HST4.out.row.at_ HX.out
    go_wp2_with fail
    change Calls Try.prog 9 #[_, Sp.val x] _ _
    refine (add_c p2 O2 a4 c4 x v2 HST4.out.so (by have := HC2.out.short; omega) (HC2.out.smalls (by decide))).mono ?_
    rintro e v3 ⟨(⟨-, rfl, a5, c5, hs⟩ | ⟨hr, -, -⟩), ho⟩
    rotate_left
    · rw [HXR.out] at hr; cases hr
    have HST5 := Lib.hid (HST4.out.add hs ho)
    obtain ⟨O3, hO3⟩ : ∃ O3, O3 = addL O2 x := ⟨_, rfl⟩
    have HC3 : Hid (Can (-1) O3) := Lib.hid (by rw [hO3]; exact (adds HC2.out [x] (by simpa using HXR.out)).1)
    rw [← hO3] at HST5
    have HO3 := Lib.hid hO3
    obtain ⟨k3, hk3⟩ : ∃ k3, k3 = (x : Sp).len - among O2 x := ⟨_, rfl⟩
    rw [← hk3]
    clear hs ho hk3 hO3 HST4 d0 d1
    obtain ⟨d0, d1⟩ := HST5.out.row.at_ HX.out
    go_wp2_with fail
    refine (num_c 0 _).mono ?_
    rintro e w' ⟨rfl, rfl⟩
    go_wp2_with fail
    refine (num_c 0 _).mono ?_
    rintro e w' ⟨rfl, rfl⟩
    go_wp2_with fail
    refine (num_c 0 _).mono ?_
    rintro e w' ⟨rfl, rfl⟩
    have HEQ : Hid ((lastP z l (j + 1)).foldl addL [] = O3) := Lib.hid (by rw [lastP_succ z HX.out (by omega), List.foldl_append, ← HO.out, HO3.out, HO2.out, HO1.out, HAT.out]; rfl)
    clear d0 d1
    go_wp2_with fail
    go_roundw
    case rel =>
      refine ⟨j + 1, a5, c5, ?_, by rw [HEQ.out]; exact HST5.out⟩
      rcases Nat.eq_zero_or_pos i with h0 | h0
      · exact .inl ⟨by rw [h0]; rfl, by omega⟩
      · exact .inr ⟨i - 1, by omega, by rw [show ((i - 1 : Nat) : Int) = (i : Int) - 1 from by omega]⟩
    case measure => first | (simp [intOf]; omega) | simp [intOf]
end Go.Proofs.Ytlgpoaapmgcloaa
