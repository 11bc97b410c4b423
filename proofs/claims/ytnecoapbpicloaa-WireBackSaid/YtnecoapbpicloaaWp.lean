/- Contracts: a reader's Truth and End; of no reader. -/
import Derived.Test.YtnecoapbpicloaaWo
namespace Go.Proofs.Ytnecoapbpicloaa
open Go.RowKit
set_option linter.unusedSimpArgs false
set_option linter.unusedVariables false
set_option maxRecDepth 100000

theorem blk2 (w : World) (t1 t2 : TypeId) (c1 c2 : Array Value) :
    Blk ((w.alloc (.cells c1 t1)).alloc (.cells c2 t2)) w.heap.size t1 c1 ∧ Blk ((w.alloc (.cells c1 t1)).alloc (.cells c2 t2)) (w.heap.size + 1) t2 c2 ∧
    Below w.heap.size w ((w.alloc (.cells c1 t1)).alloc (.cells c2 t2)) ∧ ((w.alloc (.cells c1 t1)).alloc (.cells c2 t2)).heap.size = w.heap.size + 2 :=
  ⟨(Blk.new w t1 c1).alloc _, Blk.new2 w _ t2 c2, ((Below.refl _ _).alloc (Nat.le_refl _) _).alloc (by simp) _, by simp⟩
theorem rtruth_err {s : RS} (h : s.e ≠ 0) : rtruth s = (s, false, s.e) := by unfold rtruth; rw [if_pos h]
theorem rtruth_nil {s : RS} (h : s.e = 0) (hl : s.l = []) : rtruth s = (RS.fail, false, 120) := by unfold rtruth; rw [if_neg (by simp [h]), hl]
theorem rtruth_bad {s : RS} {c : By} {t : List By} (h : s.e = 0) (hl : s.l = c :: t) (hc : 1 < c.toNat) : rtruth s = (RS.fail, false, 120) := by unfold rtruth; rw [if_neg (by simp [h]), hl]; simp only; rw [if_pos hc]
theorem rtruth_ok {s : RS} {c : By} {t : List By} (h : s.e = 0) (hl : s.l = c :: t) (hc : ¬ 1 < c.toNat) : rtruth s = (⟨t, 0⟩, decide (c.toNat = 1), 0) := by unfold rtruth; rw [if_neg (by simp [h]), hl]; simp only; rw [if_neg hc]

section
variable (br bo : Nat)
theorem truthc_nil (p : Nat) (s : RS) (w : World) (h2 : w.cell? ⟨br, 0, none⟩ = some (.pointer (some ⟨p, 0, none⟩))) (h : IsRd w p s) (hl : s.l = []) :
    Calls Try.prog 55 #[.pointer (some ⟨br, 0, none⟩), .pointer (some ⟨bo, 0, none⟩)] w fun e w' => e = .panicked gaveUp ∧ w = w' := by
  have HL : Hid (s.l.length < 1) := Lib.hid (by rw [hl]; simp)
  clear hl
  go_enter Try.func55, Try.ntmps55
  go_wp2_with fail
  refine (take_no p s 1 _ h HL.out).mono ?_
  rintro e w' ⟨rfl, rfl⟩
  exact ⟨rfl, rfl, rfl⟩
set_option maxHeartbeats 1000000 in
theorem truthc_bad (p : Nat) (s : RS) (c : By) (t : List By) (w : World) (h2 : w.cell? ⟨br, 0, none⟩ = some (.pointer (some ⟨p, 0, none⟩))) (h : IsRd w p s) (hl : s.l = c :: t) (hc : 1 < c.toNat) :
    Calls Try.prog 55 #[.pointer (some ⟨br, 0, none⟩), .pointer (some ⟨bo, 0, none⟩)] w fun e w' => e = .panicked gaveUp ∧ (∃ s1, IsRd w' p s1) ∧ Only p w w' := by
  have HL : Hid (1 ≤ s.l.length) := Lib.hid (by rw [hl]; simp)
  have HT : Hid (s.l.take 1 = [c]) := Lib.hid (by rw [hl]; simp)
  have r1 : ¬ (c.toNat : Int) ≤ 1 := by omega
  clear hl hc
  go_enter Try.func55, Try.ntmps55
  go_wp2_with fail
  refine (take_ok p s 1 _ h HL.out).mono ?_
  rintro e w2 ⟨A, C, rfl, hb, hC, hi, hO⟩
  rw [HT.out] at hb
  obtain ⟨g, off, rfl, hg, hcell⟩ := hb.2 0 c rfl
  rw [Nat.add_zero] at hcell
  have HI := Lib.hid hi; have HO := Lib.hid hO
  clear hb hi hO
  go_wp2_with fail
  have r2 : decide ((c.toNat : Int) ≤ 1) = false := decide_eq_false (by omega)
  try rw [r2]
  refine (must_no _).mono ?_
  rintro e w' ⟨rfl, rfl⟩
  exact ⟨rfl, rfl, ⟨_, HI.out⟩, HO.out⟩
set_option maxHeartbeats 1000000 in
theorem truthc_ok (p : Nat) (s : RS) (c : By) (t : List By) (x : Bool) (w : World) (h2 : w.cell? ⟨br, 0, none⟩ = some (.pointer (some ⟨p, 0, none⟩))) (h4 : Blk w bo 4 #[.bool x]) (hp : p ≠ bo) (h : IsRd w p s) (hl : s.l = c :: t) (hc : ¬ 1 < c.toNat) :
    Calls Try.prog 55 #[.pointer (some ⟨br, 0, none⟩), .pointer (some ⟨bo, 0, none⟩)] w fun e w' => e = .returned (.tuple #[]) ∧
      (IsRd w' p ⟨t, s.e⟩ ∧ Blk w' bo 4 #[.bool (decide (c.toNat = 1))]) ∧ Tch (fun i => i = p ∨ i = bo) w w' := by
  have HL : Hid (1 ≤ s.l.length) := Lib.hid (by rw [hl]; simp)
  have HT : Hid (s.l.take 1 = [c]) := Lib.hid (by rw [hl]; simp)
  have HDR : Hid (s.l.drop 1 = t) := Lib.hid (by rw [hl]; simp)
  have r1 : (c.toNat : Int) ≤ 1 := by omega
  have H4 := Lib.hid h4; have HP := Lib.hid hp
  clear hl hc h4 hp
  go_enter Try.func55, Try.ntmps55
  go_wp2_with fail
  refine (take_ok p s 1 _ h HL.out).mono ?_
  rintro e w2 ⟨A, C, rfl, hb, hC, hi, hO⟩
  rw [HT.out] at hb
  rw [HDR.out] at hi
  obtain ⟨g, off, rfl, hg, hcell⟩ := hb.2 0 c rfl
  rw [Nat.add_zero] at hcell
  have HI := Lib.hid hi; have HO := Lib.hid hO
  have H5 := Lib.hid (hO.blk H4.out (fun e => HP.out e.symm))
  have c5 : w2.cell? ⟨bo, 0, none⟩ = some (.bool x) := H5.out.cell (i := 0) rfl
  have f5 := H5.out.frozen 0
  clear hb hi hO
  go_wp2_with fail
  refine (must_yes _).mono ?_
  rintro e w' ⟨rfl, rfl⟩
  have q1 : ((c.toNat : Int) == 1) = decide (c.toNat = 1) := by
    rw [Bool.eq_iff_iff]; simp; omega
  go_wp2_with fail
  try rw [q1]
  go_end0
  have ht : Tch (fun i => i = bo) w2 (w2.setCell ⟨bo, 0, none⟩ (.bool (decide (c.toNat = 1)))) := (Tch.refl (fun i => i = bo) w2).setCell (p := ⟨bo, 0, none⟩) (.inl rfl) _
  refine ⟨rfl, ⟨HI.out.away ht HP.out (fun i e => .inr ⟨_, _, e ▸ H5.out, fun y e => by cases e⟩), H5.out.set 0 _⟩, ?_⟩
  exact (HO.out.tch.mono (fun _ _ e => .inl e)).setCell (.inl (.inr rfl)) _

theorem endc_no (p : Nat) (s : RS) (w : World) (h2 : w.cell? ⟨br, 0, none⟩ = some (.pointer (some ⟨p, 0, none⟩))) (h : IsRd w p s) (hl : 0 < s.l.length) :
    Calls Try.prog 57 #[.pointer (some ⟨br, 0, none⟩)] w fun e w' => e = .panicked gaveUp ∧ w = w' := by
  obtain ⟨a, c, h1, _, _⟩ := h
  have c0 : w.cell? ⟨p, 0, none⟩ = some (.slice a s.l.length c) := h1.cell (i := 0) rfl
  clear h1
  generalize s.l.length = m at *
  have r1 : ((m : Int) == 0) = false := by simp; omega
  go_enter Try.func57, Try.ntmps57
  go_wp2_with fail
  refine (must_no _).mono ?_
  rintro e w' ⟨rfl, rfl⟩
  exact ⟨rfl, rfl, rfl⟩
theorem endc_ok (p : Nat) (s : RS) (w : World) (h2 : w.cell? ⟨br, 0, none⟩ = some (.pointer (some ⟨p, 0, none⟩))) (h : IsRd w p s) (hl : s.l.length = 0) :
    Calls Try.prog 57 #[.pointer (some ⟨br, 0, none⟩)] w fun e w' => e = .returned (.tuple #[]) ∧ w = w' := by
  obtain ⟨a, c, h1, _, _⟩ := h
  have c0 : w.cell? ⟨p, 0, none⟩ = some (.slice a s.l.length c) := h1.cell (i := 0) rfl
  rw [hl] at c0
  clear h1 hl
  go_enter Try.func57, Try.ntmps57
  go_wp2_with fail
  refine (must_yes _).mono ?_
  rintro e w' ⟨rfl, rfl⟩
  go_wp2_with fail
  go_end0
  exact ⟨rfl, rfl⟩
end
end Go.Proofs.Ytnecoapbpicloaa
