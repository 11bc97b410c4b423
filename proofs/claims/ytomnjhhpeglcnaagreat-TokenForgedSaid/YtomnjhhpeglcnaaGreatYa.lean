/- Contracts: what may be, what is laid. Contracts: the document's bytes of a token. Contracts: the document's token's bytes with their tag. Contracts: the document's tokens. Contracts: the document's texts of tokens. -/
import Derived.Test.YtomnjhhpeglcnaaGreatZ7
import Derived.Test.YtomnjhhpeglcnaaGreatZ9
namespace Go.Proofs.YtomnjhhpeglcnaaGreat
open Go.RowKit
set_option linter.unusedSimpArgs false
set_option linter.unusedVariables false
set_option maxRecDepth 100000

set_option maxHeartbeats 2000000 in
theorem rright_c (t : Tok) (w : World) : Calls Tryz.prog 13 #[t.val] w fun e w' => e = .returned (.bool t.ok) ∧ Below w.heap.size w w' := by
  have HB := Lib.hid ((Below.refl w.heap.size w).alloc (Nat.le_refl _) (.cells #[.int .i64 t.m, .int .i64 t.s, .int .i64 t.i] 31))
  have HE : Hid (t.ok = (decide (0 ≤ t.m) && decide (t.m < 16) && decide (0 ≤ t.s) && decide (t.s ≤ 2147483647) && decide (0 ≤ t.i) && decide (t.i ≤ 2147483647))) := Lib.hid (by
    unfold Tok.ok may31
    rw [Bool.eq_iff_iff]
    simp only [Bool.and_eq_true, decide_eq_true_eq]
    constructor
    · rintro ⟨⟨⟨a, b⟩, c, d⟩, e, f⟩; exact ⟨⟨⟨⟨⟨a, b⟩, c⟩, d⟩, e⟩, f⟩
    · rintro ⟨⟨⟨⟨⟨a, b⟩, c⟩, d⟩, e⟩, f⟩; exact ⟨⟨⟨a, b⟩, c, d⟩, e, f⟩)
  rw [HE.out]
  unfold Tok.val
  by_cases h1 : 0 ≤ t.m
  rotate_left
  · go_enter Tryz.func13, Tryz.ntmps13
    go_wp2_with fail
    go_ret
    exact ⟨by simp; omega, HB.out⟩
  by_cases h2 : t.m < 16
  rotate_left
  · go_enter Tryz.func13, Tryz.ntmps13
    go_wp2_with fail
    go_ret
    exact ⟨by simp; omega, HB.out⟩
  by_cases h3 : 0 ≤ t.s
  rotate_left
  · go_enter Tryz.func13, Tryz.ntmps13
    go_wp2_with fail
    go_ret
    exact ⟨by simp; omega, HB.out⟩
  by_cases h4 : t.s ≤ 2147483647
  rotate_left
  · go_enter Tryz.func13, Tryz.ntmps13
    go_wp2_with fail
    go_ret
    exact ⟨by simp; omega, HB.out⟩
  by_cases h5 : 0 ≤ t.i
  rotate_left
  · go_enter Tryz.func13, Tryz.ntmps13
    go_wp2_with fail
    go_ret
    exact ⟨by simp; omega, HB.out⟩
  go_enter Tryz.func13, Tryz.ntmps13
  go_wp2_with fail
  go_ret
  exact ⟨by simp [h1, h2, h3, h4, h5], HB.out⟩
end Go.Proofs.YtomnjhhpeglcnaaGreat

namespace Go.Proofs.YtomnjhhpeglcnaaGreat
open Go.RowKit
set_option linter.unusedSimpArgs false
set_option linter.unusedVariables false
set_option maxRecDepth 100000

set_option maxHeartbeats 8000000 in
theorem rbytes_c (n m s i : Nat) (w : World) (hn : n ≤ 2147483647) (hm : m ≤ 15) (hs : s ≤ 2147483647) (hi : i ≤ 2147483647) :
    Calls Tryz.prog 41 #[.int .i64 (n : Int), .agg #[.int .i64 (m : Int), .int .i64 (s : Int), .int .i64 (i : Int)]] w fun e w' => ∃ v, e = .returned v ∧ OwnB w' w.heap.size v (laidN [(n : Int), (m : Int), (s : Int), (i : Int)]) ∧ Below w.heap.size w w' := by
  have HE : Hid (laidN [(n : Int), (m : Int), (s : Int), (i : Int)] = numB n ++ numB m ++ numB s ++ numB i) := Lib.hid (by simp [laidN])
  rw [HE.out]
  have hbk := Blk.new w 31 #[.int .i64 (m : Int), .int .i64 (s : Int), .int .i64 (i : Int)]
  have hbl := (Below.refl w.heap.size w).alloc (Nat.le_refl _) (.cells #[.int .i64 (m : Int), .int .i64 (s : Int), .int .i64 (i : Int)] 31)
  have HBK := Lib.hid hbk; have HBL := Lib.hid hbl
  clear hbk hbl
  go_enter Tryz.func41, Tryz.ntmps41
  go_wp2_with fail
  generalize w.alloc (.cells #[.int .i64 (m : Int), .int .i64 (s : Int), .int .i64 (i : Int)] 31) = w0 at HBK HBL ⊢
  have hS0 : (fun W => Blk W w.heap.size 31 #[.int .i64 (m : Int), .int .i64 (s : Int), .int .i64 (i : Int)] ∧ Below w.heap.size w W) w0.drew := ⟨HBK.out.drew, HBL.out.drew⟩
  clear HBK HBL
  refine wp_region_held_drew (S := (fun W => Blk W w.heap.size 31 #[.int .i64 (m : Int), .int .i64 (s : Int), .int .i64 (i : Int)] ∧ Below w.heap.size w W)) (by kernel_rfl) hS0 ?_
  intro hS0'
  refine wpAnyH_take (i := 0) (v := .int .i64 (n : Int)) rfl (by kernel_rfl) (by kernel_rfl) (by kernel_rfl) (fun _ _ _ h => h) (Or.inl ⟨by kernel_rfl, fun w hSw => ?_⟩) hS0' ?_
  · go_simp
  try simp only [Act.put, List.getElem_toArray, List.getElem_cons_succ, List.getElem_cons_zero, List.setIfInBounds_toArray, List.set_cons_zero, List.set_cons_succ]
  refine wpAnyH_take (i := 2) (v := .pointer (some ⟨w.heap.size, 0, none⟩)) rfl (by kernel_rfl) (by kernel_rfl) (by kernel_rfl) (fun _ _ _ h => h) (Or.inl ⟨by kernel_rfl, fun w hSw => ?_⟩) hS0' ?_
  · go_simp
  try simp only [Act.put, List.getElem_toArray, List.getElem_cons_succ, List.getElem_cons_zero, List.setIfInBounds_toArray, List.set_cons_zero, List.set_cons_succ]
  refine wpAnyH_take (i := 3) (v := .int .i64 (m : Int)) rfl (by kernel_rfl) (by kernel_rfl) (by kernel_rfl) (fun _ _ _ h => h) (Or.inl ⟨by kernel_rfl, fun w hSw => ?_⟩) hS0' ?_
  · have cc := hSw.1.cell (i := 0) rfl
    have cc : _ = some (Value.int .i64 (m : Int)) := cc
    go_simp
  try simp only [Act.put, List.getElem_toArray, List.getElem_cons_succ, List.getElem_cons_zero, List.setIfInBounds_toArray, List.set_cons_zero, List.set_cons_succ]
  refine wpAnyH_ready (rs := [1]) (by kernel_rfl) (by simp) ?_
  refine AllReadyH.cons (by rfl) ?_ AllReadyH.nil
  intro K hK
  go_simp
  refine (rnumber_c n _ (by omega)).mono ?_
  rintro e w1 ⟨v1, rfl, ho1, hb1⟩
  have HV1 : Hid (OwnB w1 (w.heap.size + 1) v1 (numB n)) := Lib.hid (own_low ho1 hS0'.1.lt)
  have HK1 := Lib.hid hb1
  obtain ⟨a1, c1, hv1, -, hy1⟩ := ho1.bys
  obtain ⟨n1, hn1⟩ : ∃ n1, n1 = (numB n).length := ⟨_, rfl⟩
  have hl1 : n1 ≤ 9 := by rw [hn1]; exact numB_nine (by omega)
  rw [← hn1] at hv1 hy1
  have HN1 := Lib.hid hn1
  subst hv1
  have HY1 := Lib.hid hy1
  clear ho1 hn1 hy1
  refine hK.out _ _ ⟨hS0'.1.below hb1 hS0'.1.lt, hS0'.2.trans (hb1.mono hS0'.2.size)⟩ (fun hS1 => ?_)
  clear hK K
  refine wpAnyH_ready (rs := [4]) (by kernel_rfl) (by simp) ?_
  refine AllReadyH.cons (by rfl) ?_ AllReadyH.nil
  intro K hK
  go_simp
  refine (rnumber_c m _ (by omega)).mono ?_
  rintro e w2 ⟨v2, rfl, ho2, hb2⟩
  have HV2 : Hid (OwnB w2 (w.heap.size + 1) v2 (numB m)) := Lib.hid (own_low ho2 hS1.1.lt)
  have HK2 := Lib.hid hb2
  obtain ⟨a2, c2, hv2, -, hy2⟩ := ho2.bys
  obtain ⟨n2, hn2⟩ : ∃ n2, n2 = (numB m).length := ⟨_, rfl⟩
  have hl2 : n2 ≤ 9 := by rw [hn2]; exact numB_nine (by omega)
  rw [← hn2] at hv2 hy2
  have HN2 := Lib.hid hn2
  subst hv2
  have HY2 := Lib.hid hy2
  clear ho2 hn2 hy2
  have HV1 := Lib.hid (HV1.out.below hb2)
  refine hK.out _ _ ⟨hS1.1.below hb2 hS1.1.lt, hS1.2.trans (hb2.mono hS1.2.size)⟩ (fun hS2 => ?_)
  clear hK K
  refine wpAnyH_ready (rs := [5]) (by kernel_rfl) (by simp) ?_
  refine all_readyH_yes (by rfl) (by kernel_rfl) ?_ AllReadyH.nil
  intro K hK
  with_reducible refine wp_append_bys (.tmp 7) (.tmp 10) ?_ (w.heap.size + 1) (.slice a1 n1 c1) (numB n) ?_ HV1.out a2 n2 c2 (numB m) ?_ HY2.out ?_ (Nat.succ_le_of_lt hS2.1.lt) ?_
  · rfl
  · kernel_rfl
  · kernel_rfl
  · first | (have h9 := numB_nine (n := n) (by omega); have h8 := numB_nine (n := m) (by omega); have h7 := numB_nine (n := s) (by omega); (try simp only [List.length_append]); omega) | skip
  intro v3 w3 ho3 hg3 _
  have HV3 := Lib.hid ho3
  have hb3 := own_grown HV1.out hg3 (Nat.le_refl _) hS2.1.lt
  try simp only [Act.put, List.getElem_toArray, List.getElem_cons_succ, List.getElem_cons_zero, List.setIfInBounds_toArray, List.set_cons_zero, List.set_cons_succ]
  refine hK.out _ _ ⟨hS2.1.below hb3 (by omega), hS2.2.trans (hb3.mono (by omega))⟩ (fun hS3 => ?_)
  clear hK K
  refine wpAnyH_ready (rs := [6]) (by kernel_rfl) (by simp) ?_
  refine AllReadyH.cons (by rfl) ?_ AllReadyH.nil
  intro K hK
  go_simp
  refine hK.out _ _ hS3 (fun hS4 => ?_)
  clear hK K
  refine wpAnyH_done (by kernel_rfl) ?_ _
  go_wp2_with fail
  have hS0 : (fun W => Blk W w.heap.size 31 #[.int .i64 (m : Int), .int .i64 (s : Int), .int .i64 (i : Int)] ∧ Below w.heap.size w W) w3.drew := ⟨hS4.1.drew, hS4.2.drew⟩
  have HV3 := Lib.hid (HV3.out.below (Below.refl w3.heap.size w3).drew)
  clear HK1 HK2 HN1 HN2 HY1 HY2
  refine wp_region_held_drew (S := (fun W => Blk W w.heap.size 31 #[.int .i64 (m : Int), .int .i64 (s : Int), .int .i64 (i : Int)] ∧ Below w.heap.size w W)) (by kernel_rfl) hS0 ?_
  intro hS0'
  refine wpAnyH_take (i := 0) (v := v3) rfl (by kernel_rfl) (by kernel_rfl) (by kernel_rfl) (fun _ _ _ h => h) (Or.inl ⟨by kernel_rfl, fun w hSw => ?_⟩) hS0' ?_
  · go_simp
  try simp only [Act.put, List.getElem_toArray, List.getElem_cons_succ, List.getElem_cons_zero, List.setIfInBounds_toArray, List.set_cons_zero, List.set_cons_succ]
  refine wpAnyH_take (i := 1) (v := .pointer (some ⟨w.heap.size, 1, none⟩)) rfl (by kernel_rfl) (by kernel_rfl) (by kernel_rfl) (fun _ _ _ h => h) (Or.inl ⟨by kernel_rfl, fun w hSw => ?_⟩) hS0' ?_
  · go_simp
  try simp only [Act.put, List.getElem_toArray, List.getElem_cons_succ, List.getElem_cons_zero, List.setIfInBounds_toArray, List.set_cons_zero, List.set_cons_succ]
  refine wpAnyH_take (i := 2) (v := .int .i64 (s : Int)) rfl (by kernel_rfl) (by kernel_rfl) (by kernel_rfl) (fun _ _ _ h => h) (Or.inl ⟨by kernel_rfl, fun w hSw => ?_⟩) hS0' ?_
  · have cc := hSw.1.cell (i := 1) rfl
    have cc : _ = some (Value.int .i64 (s : Int)) := cc
    go_simp
  try simp only [Act.put, List.getElem_toArray, List.getElem_cons_succ, List.getElem_cons_zero, List.setIfInBounds_toArray, List.set_cons_zero, List.set_cons_succ]
  refine wpAnyH_take (i := 5) (v := .pointer (some ⟨w.heap.size, 2, none⟩)) rfl (by kernel_rfl) (by kernel_rfl) (by kernel_rfl) (fun _ _ _ h => h) (Or.inl ⟨by kernel_rfl, fun w hSw => ?_⟩) hS0' ?_
  · go_simp
  try simp only [Act.put, List.getElem_toArray, List.getElem_cons_succ, List.getElem_cons_zero, List.setIfInBounds_toArray, List.set_cons_zero, List.set_cons_succ]
  refine wpAnyH_take (i := 6) (v := .int .i64 (i : Int)) rfl (by kernel_rfl) (by kernel_rfl) (by kernel_rfl) (fun _ _ _ h => h) (Or.inl ⟨by kernel_rfl, fun w hSw => ?_⟩) hS0' ?_
  · have cc := hSw.1.cell (i := 2) rfl
    have cc : _ = some (Value.int .i64 (i : Int)) := cc
    go_simp
  try simp only [Act.put, List.getElem_toArray, List.getElem_cons_succ, List.getElem_cons_zero, List.setIfInBounds_toArray, List.set_cons_zero, List.set_cons_succ]
  refine wpAnyH_ready (rs := [3]) (by kernel_rfl) (by simp) ?_
  refine AllReadyH.cons (by rfl) ?_ AllReadyH.nil
  intro K hK
  go_simp
  refine (rnumber_c s _ (by omega)).mono ?_
  rintro e w4 ⟨v4, rfl, ho4, hb4⟩
  have HV4 : Hid (OwnB w4 (w.heap.size + 1) v4 (numB s)) := Lib.hid (own_low ho4 hS0'.1.lt)
  have HK4 := Lib.hid hb4
  obtain ⟨a4, c4, hv4, -, hy4⟩ := ho4.bys
  obtain ⟨n4, hn4⟩ : ∃ n4, n4 = (numB s).length := ⟨_, rfl⟩
  have hl4 : n4 ≤ 9 := by rw [hn4]; exact numB_nine (by omega)
  rw [← hn4] at hv4 hy4
  have HN4 := Lib.hid hn4
  subst hv4
  have HY4 := Lib.hid hy4
  clear ho4 hn4 hy4
  have HV3 := Lib.hid (HV3.out.below hb4)
  refine hK.out _ _ ⟨hS0'.1.below hb4 hS0'.1.lt, hS0'.2.trans (hb4.mono hS0'.2.size)⟩ (fun hT1 => ?_)
  clear hK K
  refine wpAnyH_ready (rs := [4]) (by kernel_rfl) (by simp) ?_
  refine all_readyH_yes (by rfl) (by kernel_rfl) ?_ AllReadyH.nil
  intro K hK
  with_reducible refine wp_append_bys (.tmp 12) (.tmp 15) ?_ (w.heap.size + 1) v3 (numB n ++ numB m) ?_ HV3.out a4 n4 c4 (numB s) ?_ HY4.out ?_ (Nat.succ_le_of_lt hT1.1.lt) ?_
  · rfl
  · kernel_rfl
  · kernel_rfl
  · first | (have h9 := numB_nine (n := n) (by omega); have h8 := numB_nine (n := m) (by omega); have h7 := numB_nine (n := s) (by omega); (try simp only [List.length_append]); omega) | skip
  intro v5 w5 ho5 hg5 _
  have HV5 := Lib.hid ho5
  have hb5 := own_grown HV3.out hg5 (Nat.le_refl _) hT1.1.lt
  try simp only [Act.put, List.getElem_toArray, List.getElem_cons_succ, List.getElem_cons_zero, List.setIfInBounds_toArray, List.set_cons_zero, List.set_cons_succ]
  refine hK.out _ _ ⟨hT1.1.below hb5 (by omega), hT1.2.trans (hb5.mono (by omega))⟩ (fun hT2 => ?_)
  clear hK K
  refine wpAnyH_ready (rs := [7]) (by kernel_rfl) (by simp) ?_
  refine AllReadyH.cons (by rfl) ?_ AllReadyH.nil
  intro K hK
  go_simp
  refine (rnumber_c i _ (by omega)).mono ?_
  rintro e w6 ⟨v6, rfl, ho6, hb6⟩
  have HV6 : Hid (OwnB w6 (w.heap.size + 1) v6 (numB i)) := Lib.hid (own_low ho6 hT2.1.lt)
  have HK6 := Lib.hid hb6
  obtain ⟨a6, c6, hv6, -, hy6⟩ := ho6.bys
  obtain ⟨n6, hn6⟩ : ∃ n6, n6 = (numB i).length := ⟨_, rfl⟩
  have hl6 : n6 ≤ 9 := by rw [hn6]; exact numB_nine (by omega)
  rw [← hn6] at hv6 hy6
  have HN6 := Lib.hid hn6
  subst hv6
  have HY6 := Lib.hid hy6
  clear ho6 hn6 hy6
  have HV5 := Lib.hid (HV5.out.below hb6)
  refine hK.out _ _ ⟨hT2.1.below hb6 hT2.1.lt, hT2.2.trans (hb6.mono hT2.2.size)⟩ (fun hT3 => ?_)
  clear hK K
  refine wpAnyH_ready (rs := [8]) (by kernel_rfl) (by simp) ?_
  refine all_readyH_yes (by rfl) (by kernel_rfl) ?_ AllReadyH.nil
  intro K hK
  with_reducible refine wp_append_bys (.tmp 16) (.tmp 19) ?_ (w.heap.size + 1) v5 (numB n ++ numB m ++ numB s) ?_ HV5.out a6 n6 c6 (numB i) ?_ HY6.out ?_ (Nat.succ_le_of_lt hT3.1.lt) ?_
  · rfl
  · kernel_rfl
  · kernel_rfl
  · first | (have h9 := numB_nine (n := n) (by omega); have h8 := numB_nine (n := m) (by omega); have h7 := numB_nine (n := s) (by omega); (try simp only [List.length_append]); omega) | skip
  intro v7 w7 ho7 hg7 _
  have HV7 := Lib.hid ho7
  have hb7 := own_grown HV5.out hg7 (Nat.le_refl _) hT3.1.lt
  try simp only [Act.put, List.getElem_toArray, List.getElem_cons_succ, List.getElem_cons_zero, List.setIfInBounds_toArray, List.set_cons_zero, List.set_cons_succ]
  refine hK.out _ _ ⟨hT3.1.below hb7 (by omega), hT3.2.trans (hb7.mono (by omega))⟩ (fun hT4 => ?_)
  clear hK K
  refine wpAnyH_ready (rs := [9]) (by kernel_rfl) (by simp) ?_
  refine AllReadyH.cons (by rfl) ?_ AllReadyH.nil
  intro K hK
  go_simp
  refine hK.out _ _ hT4 (fun hT5 => ?_)
  clear hK K
  refine wpAnyH_done (by kernel_rfl) ?_ _
  go_wp2_with fail
  go_ret
  refine ⟨v7, rfl, ?_, hT5.2⟩
  have h7 : OwnB w7 w.heap.size v7 (numB n ++ numB m ++ numB s ++ numB i) := own_low HV7.out (Nat.le_succ _)
  simp only [List.append_assoc] at h7
  exact h7
end Go.Proofs.YtomnjhhpeglcnaaGreat

namespace Go.Proofs.YtomnjhhpeglcnaaGreat
open Go.RowKit
set_option linter.unusedSimpArgs false
set_option linter.unusedVariables false
set_option maxRecDepth 100000

set_option maxHeartbeats 8000000 in
theorem rtagged_c (s : ByteArray) (a : Option Addr) (n c : Nat) (h : List By) (w : World) (hs : s.size ≤ 100) (hh : Bys w a n h) (hn : n ≤ 1000) :
    Calls Tryz.prog 40 #[.string s, .slice a n c] w fun e w' => ∃ v, e = .returned v ∧ OwnB w' w.heap.size v (taggedB s h) ∧ Below w.heap.size w w' := by
  have HE := Lib.hid (own_empty w)
  have hal := (Below.refl w.heap.size w).alloc (Nat.le_refl _) (.cells #[] 5)
  have HH := Lib.hid (hh.below hal)
  have HB := Lib.hid hal
  have HHL := Lib.hid hh.1
  have HH0 := Lib.hid hh
  have hsz0 : ([] : List By).length + n ≤ 1000000000000 := by simp; omega
  clear hal hh
  go_enter Tryz.func40, Tryz.ntmps40
  go_wp2_with (at_builtin; refine wpl_append_bys rfl _ _ rfl w.heap.size _ [] rfl HE.out a n c h rfl HH.out hsz0 HB.out.size ?_)
  intro v1 w1 ho1 hg1 _
  have HO1 : Hid (OwnB w1 w.heap.size v1 h) := Lib.hid (by simpa using ho1)
  have HB1 := Lib.hid (HB.out.grown hg1 HB.out.size (fun k e => by simp [Value.ownBlock] at e; omega))
  clear ho1 hg1 HE HH hsz0
  go_wp2_with (refine wpl_conv_bytes rfl _ rfl s rfl ?_; intro cc w2 hy2 hb2 hz2 hc2; have HY2 := Lib.hid hy2; have HO2 := Lib.hid (HO1.out.below hb2); have HB2 := Lib.hid (HB1.out.trans (hb2.mono HB1.out.size)); clear hy2 hb2 hz2 hc2)
  refine (rderive_c _ s.size cc (strB s) labelT w2 HY2.out (by omega) (by decide)).mono ?_
  rintro e w3 ⟨v3, rfl, ho3, hb3⟩
  have hk3 : keyM s = lastB (strB s) (strB labelT) 1 := rfl
  rw [← hk3] at ho3
  have hlk : (keyM s).length = 32 := lastB_len _ _ _
  obtain ⟨K, hK⟩ : ∃ K, K = keyM s := ⟨_, rfl⟩
  have HK := Lib.hid hK
  rw [← hK] at ho3 hlk
  obtain ⟨a3, c3, hv3, -, hy3⟩ := ho3.bys
  rw [hlk] at hv3 hy3
  subst hv3
  have HY3 := Lib.hid hy3
  have HO3 := Lib.hid (HO2.out.below hb3)
  have HB3 := Lib.hid (HB2.out.trans (hb3.mono HB2.out.size))
  have HH3 := Lib.hid (HH0.out.below HB3.out)
  clear ho3 hy3 hb3 HY2 HO2 HB2 hk3 hlk hK HO1 HB1
  go_wp2_with fail
  refine (rtag_c a3 32 c3 K a n c h w3 HY3.out (by decide) HH3.out (by omega)).mono ?_
  rintro e w4 ⟨v4, rfl, ho4, hb4⟩
  obtain ⟨a4, c4, hv4, hc4, hy4⟩ := ho4.bys
  rw [tagB_len] at hv4 hc4 hy4
  subst hv4
  have HY4 := Lib.hid (hy4.take 16 (by decide))
  have HO4 := Lib.hid (HO3.out.below hb4)
  have HB4 := Lib.hid (HB3.out.trans (hb4.mono HB3.out.size))
  have hc16 : (16 : Int) ≤ (c4 : Int) := by omega
  have hc16n : 16 ≤ c4 := by omega
  have hsz4 : Hid (h.length + 16 ≤ 1000000000000) := Lib.hid (by rw [HHL.out]; omega)
  clear ho4 hy4 hb4 HY3 HO3 HB3 HH3
  go_wp2_with (at_builtin; refine wpl_append_bys rfl _ _ rfl w.heap.size v1 h rfl HO4.out a4 16 c4 ((tagB K h).take 16) rfl HY4.out hsz4.out HB4.out.size ?_)
  intro v5 w5 ho5 hg5 _
  have HO5 := Lib.hid ho5
  have HB5 := Lib.hid (HB4.out.trans (own_grown HO4.out hg5 (Nat.le_refl _) HB4.out.size))
  clear ho5 hg5
  go_wp2_with fail
  go_ret
  refine ⟨v5, rfl, ?_, HB5.out⟩
  have := HO5.out
  rw [HK.out] at this
  exact this
end Go.Proofs.YtomnjhhpeglcnaaGreat

namespace Go.Proofs.YtomnjhhpeglcnaaGreat
open Go.RowKit
set_option linter.unusedSimpArgs false
set_option linter.unusedVariables false
set_option maxRecDepth 100000

theorem laidN4_len (n m s i : Nat) (hn : n ≤ 2147483647) (hm : m ≤ 15) (hs : s ≤ 2147483647) (hi : i ≤ 2147483647) : (laidN [(n : Int), (m : Int), (s : Int), (i : Int)]).length ≤ 36 := by
  refine laidN_len ?_
  simp [okN, numOk]
  omega
set_option maxHeartbeats 4000000 in
theorem rwith_c (x : ByteArray) (n m s i : Nat) (w : World) (hx : x.size ≤ 100) (hn : n ≤ 2147483647) (hm : m ≤ 15) (hs : s ≤ 2147483647) (hi : i ≤ 2147483647) :
    Calls Tryz.prog 14 #[.string x, .int .i64 (n : Int), .agg #[.int .i64 (m : Int), .int .i64 (s : Int), .int .i64 (i : Int)]] w fun e w' => ∃ v, e = .returned v ∧ OwnB w' w.heap.size v (taggedB x (laidN [(n : Int), (m : Int), (s : Int), (i : Int)])) ∧ Below w.heap.size w w' := by
  have hbk := Blk.new w 31 #[.int .i64 (m : Int), .int .i64 (s : Int), .int .i64 (i : Int)]
  have c0 := hbk.cell (i := 0) rfl
  have HB := Lib.hid ((Below.refl w.heap.size w).alloc (Nat.le_refl _) (.cells #[.int .i64 (m : Int), .int .i64 (s : Int), .int .i64 (i : Int)] 31))
  have hL := laidN4_len n m s i hn hm hs hi
  obtain ⟨L, hLd⟩ : ∃ L, L = laidN [(n : Int), (m : Int), (s : Int), (i : Int)] := ⟨_, rfl⟩
  have HLD := Lib.hid hLd
  rw [← hLd] at hL ⊢
  clear hbk c0 hLd
  go_enter Tryz.func14, Tryz.ntmps14
  go_wp2_with fail
  generalize w.alloc (.cells #[.int .i64 (m : Int), .int .i64 (s : Int), .int .i64 (i : Int)] 31) = w1 at HB ⊢
  refine (rbytes_c n m s i w1 hn hm hs hi).mono ?_
  rintro e w2 ⟨v2, rfl, ho2, hb2⟩
  rw [← HLD.out] at ho2
  obtain ⟨a2, c2, hv2, -, hy2⟩ := ho2.bys
  obtain ⟨k, hk⟩ : ∃ k, k = L.length := ⟨_, rfl⟩
  have hk36 : k ≤ 36 := by omega
  rw [← hk] at hv2 hy2
  subst hv2
  have HY2 := Lib.hid hy2
  have HB2 := Lib.hid (HB.out.trans (hb2.mono HB.out.size))
  clear ho2 hy2 hb2 hk
  go_wp2_with fail
  refine (rtagged_c x a2 k c2 L w2 hx HY2.out (by omega)).mono ?_
  rintro e w3 ⟨v3, rfl, ho3, hb3⟩
  have HO3 := Lib.hid (own_low ho3 HB2.out.size)
  have HB3 := Lib.hid (HB2.out.trans (hb3.mono HB2.out.size))
  clear ho3 hb3
  go_wp2_with fail
  go_ret
  exact ⟨v3, rfl, HO3.out, HB3.out⟩
end Go.Proofs.YtomnjhhpeglcnaaGreat

namespace Go.Proofs.YtomnjhhpeglcnaaGreat
open Go.RowKit
set_option linter.unusedSimpArgs false
set_option linter.unusedVariables false
set_option maxRecDepth 100000

theorem info31 : (Tryz.prog.info? 31).map (·.size) = some 3 := by kernel_rfl
/-- What abides while the document's text is made. -/
structure RMk (w : World) (k : KS) (a : Option Addr) (n c m s i : Nat) (W : World) : Prop where
  kb : Blk W w.heap.size 27 (kval k.first a n c)
  tb : Blk W (w.heap.size + 1) 31 #[.int .i64 (m : Int), .int .i64 (s : Int), .int .i64 (i : Int)]
  st : Strs W a n k.ms
  bel : Below w.heap.size w W
theorem RMk.below {w W W' : World} {k : KS} {a : Option Addr} {n c m s i : Nat} (h : RMk w k a n c m s i W) (hb : Below W.heap.size W W') : RMk w k a n c m s i W' :=
  ⟨h.kb.below hb h.kb.lt, h.tb.below hb h.tb.lt, h.st.below (Nat.le_refl _) hb, h.bel.trans (hb.mono h.bel.size)⟩
set_option maxHeartbeats 8000000 in
theorem rmake_c (k : KS) (a : Option Addr) (n c m s i : Nat) (w : World) (h : RK w a n c k) (h1 : 0 < n) (h3 : n ≤ 3) (hf : k.first ≤ 1000000000) (hmay : ∀ x ∈ k.ms, mayM x = true) (hm : m ≤ 15) (hs : s ≤ 2147483647) (hi : i ≤ 2147483647) :
    Calls Tryz.prog 21 #[.agg (kval k.first a n c), .agg #[.int .i64 (m : Int), .int .i64 (s : Int), .int .i64 (i : Int)]] w fun e w' => e = .returned (.string (strOf (spellB (k.bytes ⟨(m : Int), (s : Int), (i : Int)⟩)))) ∧ Below w.heap.size w w' := by
  have hl := ((Below.refl w.heap.size w).alloc (Nat.le_refl _) (.cells (kval k.first a n c) 27)).alloc (by simp) (.cells #[.int .i64 (m : Int), .int .i64 (s : Int), .int .i64 (i : Int)] 31)
  have HR : Hid (RMk w k a n c m s i ((w.alloc (.cells (kval k.first a n c) 27)).alloc (.cells #[.int .i64 (m : Int), .int .i64 (s : Int), .int .i64 (i : Int)] 31))) := Lib.hid ⟨(Blk.new _ _ _).alloc _, Blk.new2 _ _ _ _, h.1.below (Nat.le_refl _) hl, hl⟩
  have HNL : Hid (k.ms.length = n) := Lib.hid h.1.1
  obtain ⟨j, hj⟩ : ∃ j, n = j + 1 := ⟨n - 1, by omega⟩
  subst hj
  obtain ⟨x, hx⟩ : ∃ x, k.ms[j]? = some x := ⟨k.ms[j]'(by rw [HNL.out]; omega), List.getElem?_eq_getElem _⟩
  obtain ⟨g, off, hae, hg, _⟩ := h.1.2 j x hx
  subst hae
  have hxs : x.size ≤ 64 := by have := hmay x (List.mem_of_getElem? hx); unfold mayM at this; rw [decide_eq_true_eq] at this; exact this.2
  have HXA : Hid (k.at_ (k.ms.length - 1) = x) := Lib.hid (by unfold KS.at_; rw [HNL.out, Nat.add_sub_cancel, List.getD_eq_getElem?_getD, hx]; rfl)
  have hcell : ∀ W, RMk w k (some ⟨g, off, none⟩) (j + 1) c m s i W → W.cell? ⟨g, off + j, none⟩ = some (.string x) := fun W hW => by
    obtain ⟨g', off', e', _, hc⟩ := hW.st.2 j x hx
    injection e' with e'; injection e' with e1 e2; subst e1; subst e2; exact hc
  have HC := Lib.hid hcell
  have hwr : IntKind.i64.wrap (((j + 1 : Nat) : Int) - 1) = (j : Int) := by rw [show ((j + 1 : Nat) : Int) - 1 = (j : Int) by omega]; exact IntWalk.i64_in _ (by omega)
  have hw2 : IntKind.i64.wrap (j : Int) = (j : Int) := IntWalk.i64_in _ (by omega)
  have hj2 : ¬ ((j : Int) + 1 ≤ (j : Int)) := by omega
  have hj3 : (j : Int) < (j : Int) + 1 := by omega
  have HT : Hid (k.bytes ⟨(m : Int), (s : Int), (i : Int)⟩ = taggedB x (laidN [((k.first + (j + 1) - 1 : Nat) : Int), (m : Int), (s : Int), (i : Int)])) := Lib.hid (by
    unfold KS.bytes KS.head KS.newest
    rw [HXA.out, HNL.out])
  rw [HT.out]
  clear h hl hx hg hcell hmay HXA HT HNL
  unfold kval
  go_enter Tryz.func21, Tryz.ntmps21
  go_wp2_with fail
  have hS0 : (RMk w k (some ⟨g, off, none⟩) (j + 1) c m s i) (World.drew ((w.alloc (.cells (kval k.first (some ⟨g, off, none⟩) (j + 1) c) 27)).alloc (.cells #[.int .i64 (m : Int), .int .i64 (s : Int), .int .i64 (i : Int)] 31))) := HR.out.below (Below.refl _ _).drew
  clear HR
  refine wp_region_held_drew (S := (RMk w k (some ⟨g, off, none⟩) (j + 1) c m s i)) (by kernel_rfl) hS0 ?_
  intro hS0'
  refine wpAnyH_take (i := 0) (v := .pointer (some ⟨w.heap.size, 1, none⟩)) rfl (by kernel_rfl) (by kernel_rfl) (by kernel_rfl) (fun _ _ _ h => h) (Or.inl ⟨by kernel_rfl, fun w hSw => ?_⟩) hS0' ?_
  · go_simp
  try simp only [Act.put, List.getElem_toArray, List.getElem_cons_succ, List.getElem_cons_zero, List.setIfInBounds_toArray, List.set_cons_zero, List.set_cons_succ]
  refine wpAnyH_take (i := 1) (v := .slice (some ⟨g, off, none⟩) (j + 1) c) rfl (by kernel_rfl) (by kernel_rfl) (by kernel_rfl) (fun _ _ _ h => h) (Or.inl ⟨by kernel_rfl, fun w hSw => ?_⟩) hS0' ?_
  · have cc : _ = some (Value.slice (some ⟨g, off, none⟩) (j + 1) c) := hSw.kb.cell (i := 1) rfl
    go_simp
  try simp only [Act.put, List.getElem_toArray, List.getElem_cons_succ, List.getElem_cons_zero, List.setIfInBounds_toArray, List.set_cons_zero, List.set_cons_succ]
  refine wpAnyH_take (i := 2) (v := .pointer (some ⟨w.heap.size, 1, none⟩)) rfl (by kernel_rfl) (by kernel_rfl) (by kernel_rfl) (fun _ _ _ h => h) (Or.inl ⟨by kernel_rfl, fun w hSw => ?_⟩) hS0' ?_
  · go_simp
  try simp only [Act.put, List.getElem_toArray, List.getElem_cons_succ, List.getElem_cons_zero, List.setIfInBounds_toArray, List.set_cons_zero, List.set_cons_succ]
  refine wpAnyH_take (i := 3) (v := .slice (some ⟨g, off, none⟩) (j + 1) c) rfl (by kernel_rfl) (by kernel_rfl) (by kernel_rfl) (fun _ _ _ h => h) (Or.inl ⟨by kernel_rfl, fun w hSw => ?_⟩) hS0' ?_
  · have cc : _ = some (Value.slice (some ⟨g, off, none⟩) (j + 1) c) := hSw.kb.cell (i := 1) rfl
    go_simp
  try simp only [Act.put, List.getElem_toArray, List.getElem_cons_succ, List.getElem_cons_zero, List.setIfInBounds_toArray, List.set_cons_zero, List.set_cons_succ]
  refine wpAnyH_take (i := 4) (v := .int .i64 ((j : Int) + 1)) rfl (by kernel_rfl) (by kernel_rfl) (by kernel_rfl) (fun _ _ _ h => h) (Or.inl ⟨by kernel_rfl, fun w hSw => ?_⟩) hS0' ?_
  · go_simp
  try simp only [Act.put, List.getElem_toArray, List.getElem_cons_succ, List.getElem_cons_zero, List.setIfInBounds_toArray, List.set_cons_zero, List.set_cons_succ]
  refine wpAnyH_take (i := 5) (v := .int .i64 (j : Int)) rfl (by kernel_rfl) (by kernel_rfl) (by kernel_rfl) (fun _ _ _ h => h) (Or.inl ⟨by kernel_rfl, fun w hSw => ?_⟩) hS0' ?_
  · go_simp
  try simp only [Act.put, List.getElem_toArray, List.getElem_cons_succ, List.getElem_cons_zero, List.setIfInBounds_toArray, List.set_cons_zero, List.set_cons_succ]
  refine wpAnyH_take (i := 6) (v := .pointer (some ⟨g, off + j, none⟩)) rfl (by kernel_rfl) (by kernel_rfl) (by kernel_rfl) (fun _ _ _ h => h) (Or.inl ⟨by kernel_rfl, fun w hSw => ?_⟩) hS0' ?_
  · go_simp
  try simp only [Act.put, List.getElem_toArray, List.getElem_cons_succ, List.getElem_cons_zero, List.setIfInBounds_toArray, List.set_cons_zero, List.set_cons_succ]
  refine wpAnyH_take (i := 7) (v := .string x) rfl (by kernel_rfl) (by kernel_rfl) (by kernel_rfl) (fun _ _ _ h => h) (Or.inl ⟨by kernel_rfl, fun w hSw => ?_⟩) hS0' ?_
  · have cc := HC.out _ hSw
    go_simp
  try simp only [Act.put, List.getElem_toArray, List.getElem_cons_succ, List.getElem_cons_zero, List.setIfInBounds_toArray, List.set_cons_zero, List.set_cons_succ]
  refine wpAnyH_take (i := 8) (v := .agg (kval k.first (some ⟨g, off, none⟩) (j + 1) c)) rfl (by kernel_rfl) (by kernel_rfl) (by kernel_rfl) (fun _ _ _ h => h) ?_ hS0' ?_
  · exact yieldsIf_load_blk (by kernel_rfl) 27 (.tmp 2) (by kernel_rfl) w.heap.size (by kernel_rfl) 27 (kval k.first (some ⟨g, off, none⟩) (j + 1) c) _ (fun _ h => h.kb) Tryz.underlying27 rfl infoKR
  try simp only [Act.put, List.getElem_toArray, List.getElem_cons_succ, List.getElem_cons_zero, List.setIfInBounds_toArray, List.set_cons_zero, List.set_cons_succ]
  refine wpAnyH_take (i := 10) (v := .agg #[.int .i64 (m : Int), .int .i64 (s : Int), .int .i64 (i : Int)]) rfl (by kernel_rfl) (by kernel_rfl) (by kernel_rfl) (fun _ _ _ h => h) ?_ hS0' ?_
  · exact yieldsIf_load_blk (by kernel_rfl) 31 (.tmp 3) (by kernel_rfl) (w.heap.size + 1) (by kernel_rfl) 31 #[.int .i64 (m : Int), .int .i64 (s : Int), .int .i64 (i : Int)] _ (fun _ h => h.tb) Tryz.underlying31 rfl info31
  try simp only [Act.put, List.getElem_toArray, List.getElem_cons_succ, List.getElem_cons_zero, List.setIfInBounds_toArray, List.set_cons_zero, List.set_cons_succ]
  refine wpAnyH_ready (rs := [9]) (by kernel_rfl) (by simp) ?_
  refine AllReadyH.cons (by rfl) ?_ AllReadyH.nil
  intro K hK
  go_simp
  refine (rnewest_c k.first (some ⟨g, off, none⟩) (j + 1) c _ hf (by omega) (by omega)).mono ?_
  rintro e w4 ⟨rfl, hb4⟩
  refine hK.out _ _ (hS0'.below hb4) (fun hS1 => ?_)
  clear hK K
  refine wpAnyH_ready (rs := [11]) (by kernel_rfl) (by simp) ?_
  refine AllReadyH.cons (by rfl) ?_ AllReadyH.nil
  intro K hK
  go_simp
  refine (rwith_c x (k.first + (j + 1) - 1) m s i _ (by omega) (by omega) hm hs hi).mono ?_
  rintro e w5 ⟨v5, rfl, ho5, hb5⟩
  obtain ⟨L, hL⟩ : ∃ L, L = taggedB x (laidN [((k.first + (j + 1) - 1 : Nat) : Int), (m : Int), (s : Int), (i : Int)]) := ⟨_, rfl⟩
  have hbl : L.length ≤ 52 := by rw [hL, taggedB_len]; have := laidN4_len (k.first + (j + 1) - 1) m s i (by omega) hm hs hi; omega
  have HL := Lib.hid hL
  rw [← hL] at ho5
  obtain ⟨a5, c5, hv5, -, hy5⟩ := ho5.bys
  obtain ⟨n5, hn5⟩ : ∃ n5, n5 = L.length := ⟨_, rfl⟩
  rw [← hn5] at hv5 hy5 hbl
  subst hv5
  have HY5 := Lib.hid hy5
  have HB5 := Lib.hid hb5
  clear hL hn5 hy5 ho5 hb5
  refine hK.out _ _ (hS1.below HB5.out) (fun hS2 => ?_)
  clear hK K
  refine wpAnyH_ready (rs := [12]) (by kernel_rfl) (by simp) ?_
  refine AllReadyH.cons (by rfl) ?_ AllReadyH.nil
  intro K hK
  go_simp
  refine (rspell_c a5 n5 c5 L _ HY5.out (by omega)).mono ?_
  rintro e w6 ⟨rfl, hww⟩
  refine hK.out _ _ (hww ▸ hS2) (fun hS3 => ?_)
  clear hK K
  refine wpAnyH_ready (rs := [13]) (by kernel_rfl) (by simp) ?_
  refine AllReadyH.cons (by rfl) ?_ AllReadyH.nil
  intro K hK
  go_simp
  refine hK.out _ _ hS3 (fun hS4 => ?_)
  clear hK K
  refine wpAnyH_done (by kernel_rfl) ?_ _
  go_wp2_with fail
  go_ret
  exact ⟨by rw [HL.out]; rfl, hS4.bel⟩
end Go.Proofs.YtomnjhhpeglcnaaGreat
