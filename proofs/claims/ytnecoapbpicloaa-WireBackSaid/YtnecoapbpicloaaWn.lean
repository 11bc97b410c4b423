/- Contracts: what a reader's Text tries. -/
import Derived.Test.YtnecoapbpicloaaWl
namespace Go.Proofs.Ytnecoapbpicloaa
open Go.RowKit
set_option linter.unusedSimpArgs false
set_option linter.unusedVariables false
set_option maxRecDepth 100000

section
variable (bl br bg bs : Nat)
theorem textc_low (w : World) (h1 : w.cell? ⟨bl, 0, none⟩ = some (.bool true)) :
    Calls Try.prog 53 #[.pointer (some ⟨bl, 0, none⟩), .pointer (some ⟨br, 0, none⟩), .pointer (some ⟨bg, 0, none⟩), .pointer (some ⟨bs, 0, none⟩)] w fun e w' => e = .returned (.tuple #[]) ∧ w = w' := by
  go_enter Try.func53, Try.ntmps53
  go_wp2_with fail
  go_end0
  exact ⟨rfl, rfl⟩
set_option maxHeartbeats 2000000 in
theorem textc_ok (p : Nat) (s : RS) (most : Int) (x : ByteArray) (y : Nat) (w : World) (h1 : w.cell? ⟨bl, 0, none⟩ = some (.bool false)) (h2 : w.cell? ⟨br, 0, none⟩ = some (.pointer (some ⟨p, 0, none⟩))) (h3 : w.cell? ⟨bg, 0, none⟩ = some (.int .i64 most))
    (h4 : Blk w bs 9 #[.string x]) (hp1 : br ≠ p) (hp2 : bg ≠ p) (hp3 : bs ≠ p) (hp4 : br ≠ bs) (hp5 : bg ≠ bs) (h : IsRd w p s) (hl : s.l.length ≤ 1000000000) (hy : y = (takeB s.l).1) (hc : canNum s most = true) (hyl : y ≤ (s.l.drop (takeB s.l).2.toNat).length) :
    Calls Try.prog 53 #[.pointer (some ⟨bl, 0, none⟩), .pointer (some ⟨br, 0, none⟩), .pointer (some ⟨bg, 0, none⟩), .pointer (some ⟨bs, 0, none⟩)] w fun e w' => e = .returned (.tuple #[]) ∧ (IsRd w' p ⟨(s.l.drop (takeB s.l).2.toNat).drop y, s.e⟩ ∧ Blk w' bs 9 #[.string (strOf ((s.l.drop (takeB s.l).2.toNat).take y))]) ∧ Tch (fun i => i = p ∨ i = bs) w w' := by
  have HL := Lib.hid hl; have H4 := Lib.hid (h4.drew); have HY := Lib.hid hy
  have HD : Hid (IsRd w.drew p s) := Lib.hid (h.below (Below.refl _ _).drew)
  have hS0 : (fun W => W.cell? ⟨br, 0, none⟩ = some (.pointer (some ⟨p, 0, none⟩)) ∧ W.cell? ⟨bg, 0, none⟩ = some (.int .i64 most)) w := ⟨h2, h3⟩
  have HC := Lib.hid hc
  have HYL := Lib.hid hyl
  clear hc hyl h hl hy h4
  go_enter Try.func53, Try.ntmps53
  go_wp2_with fail
  clear h1 h2 h3
  have HDW := Lib.hid (Only.refl p w).drew
  refine wp_region_held_drew (S := (fun W => W.cell? ⟨br, 0, none⟩ = some (.pointer (some ⟨p, 0, none⟩)) ∧ W.cell? ⟨bg, 0, none⟩ = some (.int .i64 most))) (by kernel_rfl) hS0 ?_
  intro hS0'
  refine wpAnyH_take (i := 0) (v := .pointer (some ⟨p, 0, none⟩)) rfl (by kernel_rfl) (by kernel_rfl) (by kernel_rfl) (fun _ _ _ h => h) (Or.inl ⟨by kernel_rfl, fun w hSw => ?_⟩) hS0' ?_
  · obtain ⟨s1, s2⟩ := hSw
    go_simp
  try simp only [Act.put, List.getElem_toArray, List.getElem_cons_succ, List.getElem_cons_zero, List.setIfInBounds_toArray, List.set_cons_zero, List.set_cons_succ]
  refine wpAnyH_take (i := 1) (v := .pointer (some ⟨p, 0, none⟩)) rfl (by kernel_rfl) (by kernel_rfl) (by kernel_rfl) (fun _ _ _ h => h) (Or.inl ⟨by kernel_rfl, fun w hSw => ?_⟩) hS0' ?_
  · go_simp
  try simp only [Act.put, List.getElem_toArray, List.getElem_cons_succ, List.getElem_cons_zero, List.setIfInBounds_toArray, List.set_cons_zero, List.set_cons_succ]
  refine wpAnyH_take (i := 2) (v := .pointer (some ⟨p, 0, none⟩)) rfl (by kernel_rfl) (by kernel_rfl) (by kernel_rfl) (fun _ _ _ h => h) (Or.inl ⟨by kernel_rfl, fun w hSw => ?_⟩) hS0' ?_
  · go_simp
  try simp only [Act.put, List.getElem_toArray, List.getElem_cons_succ, List.getElem_cons_zero, List.setIfInBounds_toArray, List.set_cons_zero, List.set_cons_succ]
  refine wpAnyH_take (i := 3) (v := .pointer (some ⟨p, 0, none⟩)) rfl (by kernel_rfl) (by kernel_rfl) (by kernel_rfl) (fun _ _ _ h => h) (Or.inl ⟨by kernel_rfl, fun w hSw => ?_⟩) hS0' ?_
  · obtain ⟨s1, s2⟩ := hSw
    go_simp
  try simp only [Act.put, List.getElem_toArray, List.getElem_cons_succ, List.getElem_cons_zero, List.setIfInBounds_toArray, List.set_cons_zero, List.set_cons_succ]
  refine wpAnyH_take (i := 4) (v := .int .i64 most) rfl (by kernel_rfl) (by kernel_rfl) (by kernel_rfl) (fun _ _ _ h => h) (Or.inl ⟨by kernel_rfl, fun w hSw => ?_⟩) hS0' ?_
  · obtain ⟨s1, s2⟩ := hSw
    go_simp
  try simp only [Act.put, List.getElem_toArray, List.getElem_cons_succ, List.getElem_cons_zero, List.setIfInBounds_toArray, List.set_cons_zero, List.set_cons_succ]
  refine wpAnyH_ready (rs := [5]) (by kernel_rfl) (by simp) ?_
  refine AllReadyH.cons (by rfl) ?_ AllReadyH.nil
  intro K hK
  go_simp
  refine (number_ok p s most _ HD.out HL.out HC.out).mono ?_
  rintro e w2 ⟨rfl, hi1, hO1⟩
  rw [← HY.out]
  have HI1 := Lib.hid hi1
  refine hK.out _ _ ⟨(World.cell?_of_block (a := ⟨br, 0, none⟩) (hO1.block br (cell_lt hS0'.1) (fun e => by injection e; omega))).trans hS0'.1, (World.cell?_of_block (a := ⟨bg, 0, none⟩) (hO1.block bg (cell_lt hS0'.2) (fun e => by injection e; omega))).trans hS0'.2⟩ (fun hS1 => ?_)
  clear hK K
  refine wpAnyH_ready (rs := [6]) (by kernel_rfl) (by simp) ?_
  refine AllReadyH.cons (by rfl) ?_ AllReadyH.nil
  intro K hK
  go_simp
  refine (take_ok p _ y _ HI1.out HYL.out).mono ?_
  rintro e w3 ⟨A, C, rfl, hb3, hc3, hi2, hO2⟩
  have HI2 := Lib.hid hi2
  have HB3 := Lib.hid hb3
  have H5 := Lib.hid (hO2.blk (hO1.blk H4.out (by omega)) (by omega))
  have c5 : w3.cell? ⟨bs, 0, none⟩ = some (.string x) := H5.out.cell (i := 0) rfl
  have f5 := H5.out.frozen 0
  have q3 := run_str w3 A y C _ hb3
  have HO2 := Lib.hid (hO1.trans hO2)
  refine hK.out _ _ ⟨(World.cell?_of_block (a := ⟨br, 0, none⟩) (hO2.block br (cell_lt hS1.1) (fun e => by injection e; omega))).trans hS1.1, (World.cell?_of_block (a := ⟨bg, 0, none⟩) (hO2.block bg (cell_lt hS1.2) (fun e => by injection e; omega))).trans hS1.2⟩ (fun hS2 => ?_)
  clear hK K
  refine wpAnyH_ready (rs := [7]) (by kernel_rfl) (by simp) ?_
  refine AllReadyH.cons (by rfl) ?_ AllReadyH.nil
  intro K hK
  go_simp
  refine hK.out _ _ hS2 (fun hS3 => ?_)
  clear hK K
  refine wpAnyH_ready (rs := [8]) (by kernel_rfl) (by simp) ?_
  refine AllReadyH.cons (by rfl) ?_ AllReadyH.nil
  intro K hK
  go_simp
  refine hK.out _ _ ⟨(World.cell?_of_block (a := ⟨br, 0, none⟩) (Below.heap_setCell w3 ⟨bs, 0, none⟩ _ br (by simp; omega))).trans hS2.1, (World.cell?_of_block (a := ⟨bg, 0, none⟩) (Below.heap_setCell w3 ⟨bs, 0, none⟩ _ bg (by simp; omega))).trans hS2.2⟩ (fun hS4 => ?_)
  clear hK K
  refine wpAnyH_done (by kernel_rfl) ?_ _
  go_wp2_with fail
  go_end0
  have ht : Tch (fun i => i = bs) w3 (w3.setCell ⟨bs, 0, none⟩ (.string (strOf (List.take y (List.drop (takeB s.l).2.toNat s.l))))) := (Tch.refl (fun i => i = bs) w3).setCell (p := ⟨bs, 0, none⟩) (.inl rfl) _
  have hr := HI2.out.away ht (by omega) (fun i e => .inr ⟨_, _, e ▸ H5.out, fun y e => by cases e⟩)
  simp only [List.drop_drop] at hr
  refine ⟨rfl, ⟨hr, H5.out.set 0 _⟩, ?_⟩
  exact ((HDW.out.trans HO2.out).tch.mono (fun _ _ e => .inl e)).setCell (.inl (.inr rfl)) _
set_option maxHeartbeats 2000000 in
theorem textc_no1 (p : Nat) (s : RS) (most : Int) (x : ByteArray) (y : Nat) (w : World) (h1 : w.cell? ⟨bl, 0, none⟩ = some (.bool false)) (h2 : w.cell? ⟨br, 0, none⟩ = some (.pointer (some ⟨p, 0, none⟩))) (h3 : w.cell? ⟨bg, 0, none⟩ = some (.int .i64 most))
    (h4 : Blk w bs 9 #[.string x]) (hp1 : br ≠ p) (hp2 : bg ≠ p) (hp3 : bs ≠ p) (hp4 : br ≠ bs) (hp5 : bg ≠ bs) (h : IsRd w p s) (hl : s.l.length ≤ 1000000000) (hy : y = (takeB s.l).1) (hc : canNum s most = false) :
    Calls Try.prog 53 #[.pointer (some ⟨bl, 0, none⟩), .pointer (some ⟨br, 0, none⟩), .pointer (some ⟨bg, 0, none⟩), .pointer (some ⟨bs, 0, none⟩)] w fun e w' => e = .panicked gaveUp ∧ (∃ s1, IsRd w' p s1) ∧ Blk w' bs 9 #[.string x] ∧ Only p w w' := by
  have HL := Lib.hid hl; have H4 := Lib.hid (h4.drew); have HY := Lib.hid hy
  have HD : Hid (IsRd w.drew p s) := Lib.hid (h.below (Below.refl _ _).drew)
  have hS0 : (fun W => W.cell? ⟨br, 0, none⟩ = some (.pointer (some ⟨p, 0, none⟩)) ∧ W.cell? ⟨bg, 0, none⟩ = some (.int .i64 most)) w := ⟨h2, h3⟩
  have HC := Lib.hid hc
  clear hc h hl hy h4
  go_enter Try.func53, Try.ntmps53
  go_wp2_with fail
  clear h1 h2 h3
  have HDW := Lib.hid (Only.refl p w).drew
  refine wp_region_held_drew (S := (fun W => W.cell? ⟨br, 0, none⟩ = some (.pointer (some ⟨p, 0, none⟩)) ∧ W.cell? ⟨bg, 0, none⟩ = some (.int .i64 most))) (by kernel_rfl) hS0 ?_
  intro hS0'
  refine wpAnyH_take (i := 0) (v := .pointer (some ⟨p, 0, none⟩)) rfl (by kernel_rfl) (by kernel_rfl) (by kernel_rfl) (fun _ _ _ h => h) (Or.inl ⟨by kernel_rfl, fun w hSw => ?_⟩) hS0' ?_
  · obtain ⟨s1, s2⟩ := hSw
    go_simp
  try simp only [Act.put, List.getElem_toArray, List.getElem_cons_succ, List.getElem_cons_zero, List.setIfInBounds_toArray, List.set_cons_zero, List.set_cons_succ]
  refine wpAnyH_take (i := 1) (v := .pointer (some ⟨p, 0, none⟩)) rfl (by kernel_rfl) (by kernel_rfl) (by kernel_rfl) (fun _ _ _ h => h) (Or.inl ⟨by kernel_rfl, fun w hSw => ?_⟩) hS0' ?_
  · go_simp
  try simp only [Act.put, List.getElem_toArray, List.getElem_cons_succ, List.getElem_cons_zero, List.setIfInBounds_toArray, List.set_cons_zero, List.set_cons_succ]
  refine wpAnyH_take (i := 2) (v := .pointer (some ⟨p, 0, none⟩)) rfl (by kernel_rfl) (by kernel_rfl) (by kernel_rfl) (fun _ _ _ h => h) (Or.inl ⟨by kernel_rfl, fun w hSw => ?_⟩) hS0' ?_
  · go_simp
  try simp only [Act.put, List.getElem_toArray, List.getElem_cons_succ, List.getElem_cons_zero, List.setIfInBounds_toArray, List.set_cons_zero, List.set_cons_succ]
  refine wpAnyH_take (i := 3) (v := .pointer (some ⟨p, 0, none⟩)) rfl (by kernel_rfl) (by kernel_rfl) (by kernel_rfl) (fun _ _ _ h => h) (Or.inl ⟨by kernel_rfl, fun w hSw => ?_⟩) hS0' ?_
  · obtain ⟨s1, s2⟩ := hSw
    go_simp
  try simp only [Act.put, List.getElem_toArray, List.getElem_cons_succ, List.getElem_cons_zero, List.setIfInBounds_toArray, List.set_cons_zero, List.set_cons_succ]
  refine wpAnyH_take (i := 4) (v := .int .i64 most) rfl (by kernel_rfl) (by kernel_rfl) (by kernel_rfl) (fun _ _ _ h => h) (Or.inl ⟨by kernel_rfl, fun w hSw => ?_⟩) hS0' ?_
  · obtain ⟨s1, s2⟩ := hSw
    go_simp
  try simp only [Act.put, List.getElem_toArray, List.getElem_cons_succ, List.getElem_cons_zero, List.setIfInBounds_toArray, List.set_cons_zero, List.set_cons_succ]
  refine wpAnyH_ready (rs := [5]) (by kernel_rfl) (by simp) ?_
  refine AllReadyH.cons (by rfl) ?_ AllReadyH.nil
  intro K hK
  go_simp
  refine (number_no p s most _ HD.out HL.out HC.out).mono ?_
  rintro e w2 ⟨rfl, rfl⟩
  exact ⟨rfl, rfl, ⟨_, HD.out⟩, H4.out, HDW.out⟩
set_option maxHeartbeats 2000000 in
theorem textc_no2 (p : Nat) (s : RS) (most : Int) (x : ByteArray) (y : Nat) (w : World) (h1 : w.cell? ⟨bl, 0, none⟩ = some (.bool false)) (h2 : w.cell? ⟨br, 0, none⟩ = some (.pointer (some ⟨p, 0, none⟩))) (h3 : w.cell? ⟨bg, 0, none⟩ = some (.int .i64 most))
    (h4 : Blk w bs 9 #[.string x]) (hp1 : br ≠ p) (hp2 : bg ≠ p) (hp3 : bs ≠ p) (hp4 : br ≠ bs) (hp5 : bg ≠ bs) (h : IsRd w p s) (hl : s.l.length ≤ 1000000000) (hy : y = (takeB s.l).1) (hc : canNum s most = true) (hyl : (s.l.drop (takeB s.l).2.toNat).length < y) :
    Calls Try.prog 53 #[.pointer (some ⟨bl, 0, none⟩), .pointer (some ⟨br, 0, none⟩), .pointer (some ⟨bg, 0, none⟩), .pointer (some ⟨bs, 0, none⟩)] w fun e w' => e = .panicked gaveUp ∧ (∃ s1, IsRd w' p s1) ∧ Blk w' bs 9 #[.string x] ∧ Only p w w' := by
  have HL := Lib.hid hl; have H4 := Lib.hid (h4.drew); have HY := Lib.hid hy
  have HD : Hid (IsRd w.drew p s) := Lib.hid (h.below (Below.refl _ _).drew)
  have hS0 : (fun W => W.cell? ⟨br, 0, none⟩ = some (.pointer (some ⟨p, 0, none⟩)) ∧ W.cell? ⟨bg, 0, none⟩ = some (.int .i64 most)) w := ⟨h2, h3⟩
  have HC := Lib.hid hc
  have HYL := Lib.hid hyl
  clear hc hyl h hl hy h4
  go_enter Try.func53, Try.ntmps53
  go_wp2_with fail
  clear h1 h2 h3
  have HDW := Lib.hid (Only.refl p w).drew
  refine wp_region_held_drew (S := (fun W => W.cell? ⟨br, 0, none⟩ = some (.pointer (some ⟨p, 0, none⟩)) ∧ W.cell? ⟨bg, 0, none⟩ = some (.int .i64 most))) (by kernel_rfl) hS0 ?_
  intro hS0'
  refine wpAnyH_take (i := 0) (v := .pointer (some ⟨p, 0, none⟩)) rfl (by kernel_rfl) (by kernel_rfl) (by kernel_rfl) (fun _ _ _ h => h) (Or.inl ⟨by kernel_rfl, fun w hSw => ?_⟩) hS0' ?_
  · obtain ⟨s1, s2⟩ := hSw
    go_simp
  try simp only [Act.put, List.getElem_toArray, List.getElem_cons_succ, List.getElem_cons_zero, List.setIfInBounds_toArray, List.set_cons_zero, List.set_cons_succ]
  refine wpAnyH_take (i := 1) (v := .pointer (some ⟨p, 0, none⟩)) rfl (by kernel_rfl) (by kernel_rfl) (by kernel_rfl) (fun _ _ _ h => h) (Or.inl ⟨by kernel_rfl, fun w hSw => ?_⟩) hS0' ?_
  · go_simp
  try simp only [Act.put, List.getElem_toArray, List.getElem_cons_succ, List.getElem_cons_zero, List.setIfInBounds_toArray, List.set_cons_zero, List.set_cons_succ]
  refine wpAnyH_take (i := 2) (v := .pointer (some ⟨p, 0, none⟩)) rfl (by kernel_rfl) (by kernel_rfl) (by kernel_rfl) (fun _ _ _ h => h) (Or.inl ⟨by kernel_rfl, fun w hSw => ?_⟩) hS0' ?_
  · go_simp
  try simp only [Act.put, List.getElem_toArray, List.getElem_cons_succ, List.getElem_cons_zero, List.setIfInBounds_toArray, List.set_cons_zero, List.set_cons_succ]
  refine wpAnyH_take (i := 3) (v := .pointer (some ⟨p, 0, none⟩)) rfl (by kernel_rfl) (by kernel_rfl) (by kernel_rfl) (fun _ _ _ h => h) (Or.inl ⟨by kernel_rfl, fun w hSw => ?_⟩) hS0' ?_
  · obtain ⟨s1, s2⟩ := hSw
    go_simp
  try simp only [Act.put, List.getElem_toArray, List.getElem_cons_succ, List.getElem_cons_zero, List.setIfInBounds_toArray, List.set_cons_zero, List.set_cons_succ]
  refine wpAnyH_take (i := 4) (v := .int .i64 most) rfl (by kernel_rfl) (by kernel_rfl) (by kernel_rfl) (fun _ _ _ h => h) (Or.inl ⟨by kernel_rfl, fun w hSw => ?_⟩) hS0' ?_
  · obtain ⟨s1, s2⟩ := hSw
    go_simp
  try simp only [Act.put, List.getElem_toArray, List.getElem_cons_succ, List.getElem_cons_zero, List.setIfInBounds_toArray, List.set_cons_zero, List.set_cons_succ]
  refine wpAnyH_ready (rs := [5]) (by kernel_rfl) (by simp) ?_
  refine AllReadyH.cons (by rfl) ?_ AllReadyH.nil
  intro K hK
  go_simp
  refine (number_ok p s most _ HD.out HL.out HC.out).mono ?_
  rintro e w2 ⟨rfl, hi1, hO1⟩
  rw [← HY.out]
  have HI1 := Lib.hid hi1
  refine hK.out _ _ ⟨(World.cell?_of_block (a := ⟨br, 0, none⟩) (hO1.block br (cell_lt hS0'.1) (fun e => by injection e; omega))).trans hS0'.1, (World.cell?_of_block (a := ⟨bg, 0, none⟩) (hO1.block bg (cell_lt hS0'.2) (fun e => by injection e; omega))).trans hS0'.2⟩ (fun hS1 => ?_)
  clear hK K
  refine wpAnyH_ready (rs := [6]) (by kernel_rfl) (by simp) ?_
  refine AllReadyH.cons (by rfl) ?_ AllReadyH.nil
  intro K hK
  go_simp
  refine (take_no p _ y _ HI1.out HYL.out).mono ?_
  rintro e w3 ⟨rfl, rfl⟩
  exact ⟨rfl, rfl, ⟨_, HI1.out⟩, hO1.blk H4.out (by omega), HDW.out.trans hO1⟩
end
end Go.Proofs.Ytnecoapbpicloaa
