/- Contracts: a reader's Truth and End, whole; of no reader. -/
import Derived.Test.YtnecoapbpicloaaWp
namespace Go.Proofs.Ytnecoapbpicloaa
open Go.RowKit
set_option linter.unusedSimpArgs false
set_option linter.unusedVariables false
set_option maxRecDepth 100000

set_option maxHeartbeats 2000000 in
theorem rd_truth (p : Nat) (s : RS) (w : World) (h : IsRd w p s) :
    Calls Try.prog 27 #[.pointer (some ⟨p, 0, none⟩)] w fun e w' => e = .returned (.tuple #[.bool (rtruth s).2.1, .int .i64 (rtruth s).2.2]) ∧ IsRd w' p (rtruth s).1 ∧ Only p w w' := by
  have hmf : ∀ (fn : Fn) (first cap : Array Value) (w : World), (Instr.makeFunc fn first cap).run Try.prog w = .ok (.func fn first cap) w := fun _ _ _ _ => rfl
  have hen := enters_f Try.func55 (by kernel_rfl) rfl
  have HEN := Lib.hid hen
  have H := Lib.hid h
  have hpl := h.lt
  clear h hen
  have HB2 := Lib.hid (blk2 w 35 4 #[.pointer (some ⟨p, 0, none⟩)] #[.bool false])
  by_cases he : s.e = 0
  case neg =>
    have HR := Lib.hid (rtruth_err he)
    have HE := Lib.hid he
    clear he
    go_enter Try.func27, Try.ntmps27
    go_wp2_with fail
    generalize (World.alloc _ _) = W0 at HB2 ⊢
    obtain ⟨b1, b3, b5, b6⟩ := HB2.out
    refine (try_err p s _ _ (H.out.below b5) HE.out).mono ?_
    rintro e w' ⟨rfl, hb⟩
    have R3 := Lib.hid (b3.below hb b3.lt)
    have HI := Lib.hid (H.out.below (b5.trans (hb.mono (by omega))))
    have HT : Hid (Tch (fun i => i = p) w w') := Lib.hid (Tch.of_below (b5.trans (hb.mono (by omega))) (Nat.le_refl _) _)
    have c3 : w'.cell? ⟨w.heap.size + 1, 0, none⟩ = some (.bool false) := R3.out.cell (i := 0) rfl
    have f3 := R3.out.frozen 0
    clear b1 b3 b5 hb HB2 hmf
    go_wp2_with fail
    rw [HR.out]
    refine bodyPost_ret (v := .tuple #[.bool false, .int .i64 s.e]) (by simp [results, Try.results27, go_sem, c3]) rfl ?_
    have ht : Tch (fun i => i = w.heap.size + 1) w' (w'.setCell ⟨w.heap.size + 1, 0, none⟩ (.bool false)) := (Tch.refl (fun i => i = w.heap.size + 1) w').setCell (p := ⟨w.heap.size + 1, 0, none⟩) (.inl rfl) _
    refine ⟨rfl, ?_, ?_⟩
    · have hh := HI.out.away ht (by omega) (fun i e => .inr ⟨_, _, e ▸ R3.out, fun y e => by cases e⟩)
      exact hh
    · exact Tch.only (HT.out.setCell (.inr (by simp)) _)
  case pos =>
    rcases hl : s.l with _ | ⟨c, t⟩
    · have HR := Lib.hid (rtruth_nil he hl)
      have HE := Lib.hid he; have HL := Lib.hid hl
      clear he hl
      go_enter Try.func27, Try.ntmps27
      go_wp2_with fail
      generalize (World.alloc _ _) = W0 at HB2 ⊢
      obtain ⟨b1, b3, b5, b6⟩ := HB2.out
      refine (try_no p s _ _ _ (H.out.below b5) HE.out HEN.out (fun i => i = p) (fun _ h => by omega) (fun W => Blk W (w.heap.size + 1) 4 #[.bool false]) ?_ ?_).mono ?_
      · rintro w1 w2 b r2 hb ht
        exact ht.blk r2 (by omega)
      · intro w1 hb
        refine (truthc_nil _ _ p s w1 ((b1.below hb b1.lt).cell rfl) ((H.out.below b5).below hb) HL.out).mono ?_
        rintro e w2 ⟨rfl, rfl⟩
        exact ⟨rfl, ⟨_, (H.out.below b5).below hb⟩, b3.below hb b3.lt, Tch.refl _ _⟩
      rintro e w' ⟨rfl, r1, r3, ht⟩
      have R3 := Lib.hid r3
      have HI := Lib.hid r1
      have HT := Lib.hid ((Tch.of_below b5 (Nat.le_refl _) (fun i => i = p)).trans ht (fun i _ e => by
        rcases e with e | e
        · exact e
        · exact e))
      have c3 : w'.cell? ⟨w.heap.size + 1, 0, none⟩ = some (.bool false) := r3.cell (i := 0) rfl
      have f3 := r3.frozen 0
      clear b1 b3 b5 HB2 hmf r1 r3 ht
      go_wp2_with fail
      rw [HR.out]
      refine bodyPost_ret (v := .tuple #[.bool false, .int .i64 120]) (by simp [results, Try.results27, go_sem, c3]) rfl ?_
      have ht : Tch (fun i => i = w.heap.size + 1) w' (w'.setCell ⟨w.heap.size + 1, 0, none⟩ (.bool false)) := (Tch.refl (fun i => i = w.heap.size + 1) w').setCell (p := ⟨w.heap.size + 1, 0, none⟩) (.inl rfl) _
      refine ⟨rfl, ?_, ?_⟩
      · have hh := HI.out.away ht (by omega) (fun i e => .inr ⟨_, _, e ▸ R3.out, fun y e => by cases e⟩)
        exact hh
      · exact Tch.only (HT.out.setCell (.inr (by simp)) _)
    · by_cases hc : 1 < c.toNat
      · have HR := Lib.hid (rtruth_bad he hl hc)
        have HE := Lib.hid he; have HL := Lib.hid hl; have HC := Lib.hid hc
        clear he hl hc
        go_enter Try.func27, Try.ntmps27
        go_wp2_with fail
        generalize (World.alloc _ _) = W0 at HB2 ⊢
        obtain ⟨b1, b3, b5, b6⟩ := HB2.out
        refine (try_no p s _ _ _ (H.out.below b5) HE.out HEN.out (fun i => i = p) (fun _ h => by omega) (fun W => Blk W (w.heap.size + 1) 4 #[.bool false]) ?_ ?_).mono ?_
        · rintro w1 w2 b r2 hb ht
          exact ht.blk r2 (by omega)
        · intro w1 hb
          refine (truthc_bad _ _ p s c t w1 ((b1.below hb b1.lt).cell rfl) ((H.out.below b5).below hb) HL.out HC.out).mono ?_
          rintro e w2 ⟨rfl, hx, hO⟩
          exact ⟨rfl, hx, hO.blk (b3.below hb b3.lt) (by omega), hO.tch⟩
        rintro e w' ⟨rfl, r1, r3, ht⟩
        have R3 := Lib.hid r3
        have HI := Lib.hid r1
        have HT := Lib.hid ((Tch.of_below b5 (Nat.le_refl _) (fun i => i = p)).trans ht (fun i _ e => by
          rcases e with e | e
          · exact e
          · exact e))
        have c3 : w'.cell? ⟨w.heap.size + 1, 0, none⟩ = some (.bool false) := r3.cell (i := 0) rfl
        have f3 := r3.frozen 0
        clear b1 b3 b5 HB2 hmf r1 r3 ht
        go_wp2_with fail
        rw [HR.out]
        refine bodyPost_ret (v := .tuple #[.bool false, .int .i64 120]) (by simp [results, Try.results27, go_sem, c3]) rfl ?_
        have ht : Tch (fun i => i = w.heap.size + 1) w' (w'.setCell ⟨w.heap.size + 1, 0, none⟩ (.bool false)) := (Tch.refl (fun i => i = w.heap.size + 1) w').setCell (p := ⟨w.heap.size + 1, 0, none⟩) (.inl rfl) _
        refine ⟨rfl, ?_, ?_⟩
        · have hh := HI.out.away ht (by omega) (fun i e => .inr ⟨_, _, e ▸ R3.out, fun y e => by cases e⟩)
          exact hh
        · exact Tch.only (HT.out.setCell (.inr (by simp)) _)
      · have HR := Lib.hid (rtruth_ok he hl hc)
        have HE := Lib.hid he; have HL := Lib.hid hl; have HC := Lib.hid hc
        clear he hl hc
        obtain ⟨y, hy⟩ : ∃ y, y = decide (c.toNat = 1) := ⟨_, rfl⟩
        have HY := Lib.hid hy
        clear hy
        go_enter Try.func27, Try.ntmps27
        go_wp2_with fail
        generalize (World.alloc _ _) = W0 at HB2 ⊢
        obtain ⟨b1, b3, b5, b6⟩ := HB2.out
        refine (try_ok p s _ _ _ (H.out.below b5) HE.out HEN.out (fun i => i = p ∨ i = w.heap.size + 1) (fun _ h => by omega) (fun W => IsRd W p ⟨t, s.e⟩ ∧ Blk W (w.heap.size + 1) 4 #[.bool (decide (c.toNat = 1))]) ?_ ?_).mono ?_
        · rintro w1 w2 b x ⟨r1, r2⟩ hb he ht
          exact ⟨r1.away ht (by omega) (fun i e => .inr ⟨_, _, e ▸ he, errAt_no _⟩), ht.blk r2 (by omega)⟩
        · intro w1 hb
          refine (truthc_ok _ _ p s c t false w1 ((b1.below hb b1.lt).cell rfl) (b3.below hb b3.lt) (by omega) ((H.out.below b5).below hb) HL.out HC.out).mono ?_
          rintro e w2 ⟨rfl, r1, ht⟩
          exact ⟨rfl, r1, ht⟩
        rintro e w' ⟨rfl, ⟨r1, r3⟩, ht⟩
        rw [← HY.out] at r3
        have R3 := Lib.hid r3
        have HI := Lib.hid r1
        have HT := Lib.hid ((Tch.of_below b5 (Nat.le_refl _) (fun i => i = p)).trans ht (fun i _ e => by
          rcases e with e | e
          · exact e
          · omega))
        have c3 : w'.cell? ⟨w.heap.size + 1, 0, none⟩ = some (.bool y) := r3.cell (i := 0) rfl
        have f3 := r3.frozen 0
        clear b1 b3 b5 HB2 hmf r1 r3 ht
        go_wp2_with fail
        rw [HR.out, HY.out.symm]
        refine bodyPost_ret (v := .tuple #[.bool y, .int .i64 0]) (by simp [results, Try.results27, go_sem, c3]) rfl ?_
        have ht : Tch (fun i => i = w.heap.size + 1) w' (w'.setCell ⟨w.heap.size + 1, 0, none⟩ (.bool y)) := (Tch.refl (fun i => i = w.heap.size + 1) w').setCell (p := ⟨w.heap.size + 1, 0, none⟩) (.inl rfl) _
        refine ⟨rfl, ?_, ?_⟩
        · have hh := HI.out.away ht (by omega) (fun i e => .inr ⟨_, _, e ▸ R3.out, fun y e => by cases e⟩)
          rw [HE.out] at hh; exact hh
        · exact Tch.only (HT.out.setCell (.inr (by simp)) _)

theorem rend_err {s : RS} (h : s.e ≠ 0) : rend s = (s, s.e) := by unfold rend; rw [if_neg (fun e => h e.1)]
theorem rend_no {s : RS} (h : s.e = 0) (hl : 0 < s.l.length) : rend s = (RS.fail, 120) := by unfold rend; rw [if_pos ⟨h, hl⟩]
theorem rend_ok {s : RS} (h : s.e = 0) (hl : s.l.length = 0) : rend s = (s, 0) := by unfold rend; rw [if_neg (by omega), h]
set_option maxHeartbeats 2000000 in
theorem rd_end (p : Nat) (s : RS) (w : World) (h : IsRd w p s) :
    Calls Try.prog 28 #[.pointer (some ⟨p, 0, none⟩)] w fun e w' => e = .returned (.int .i64 (rend s).2) ∧ IsRd w' p (rend s).1 ∧ Only p w w' := by
  have hmf : ∀ (fn : Fn) (first cap : Array Value) (w : World), (Instr.makeFunc fn first cap).run Try.prog w = .ok (.func fn first cap) w := fun _ _ _ _ => rfl
  have hen := enters_f Try.func57 (by kernel_rfl) rfl
  have HEN := Lib.hid hen
  have H := Lib.hid h
  have hpl := h.lt
  clear h hen
  have hb1 := (Below.refl w.heap.size w).alloc (Nat.le_refl _) (.cells #[.pointer (some ⟨p, 0, none⟩)] 35)
  have hk1 := Blk.new w 35 #[.pointer (some ⟨p, 0, none⟩)]
  have hz1 : (w.alloc (.cells #[.pointer (some ⟨p, 0, none⟩)] 35)).heap.size = w.heap.size + 1 := by simp
  have HB1 := Lib.hid (And.intro hk1 (And.intro hb1 hz1))
  clear hb1 hk1 hz1
  by_cases he : s.e = 0
  case neg =>
    have HR := Lib.hid (rend_err he)
    have HE := Lib.hid he
    clear he
    go_enter Try.func28, Try.ntmps28
    go_wp2_with fail
    generalize (World.alloc _ _) = W0 at HB1 ⊢
    obtain ⟨b1, b5, b6⟩ := HB1.out
    refine (try_err p s _ _ (H.out.below b5) HE.out).mono ?_
    rintro e w' ⟨rfl, hb⟩
    have HI := Lib.hid (H.out.below (b5.trans (hb.mono (by omega))))
    have HB := Lib.hid (b5.trans (hb.mono (by omega)))
    clear b1 b5 hb HB1 hmf
    go_wp2_with fail
    go_ret
    rw [HR.out]
    exact ⟨rfl, HI.out, Only.of_below HB.out p⟩
  case pos =>
    rcases Nat.eq_zero_or_pos s.l.length with hl | hl
    · have HR := Lib.hid (rend_ok he hl)
      have HE := Lib.hid he; have HL := Lib.hid hl
      clear he hl
      go_enter Try.func28, Try.ntmps28
      go_wp2_with fail
      generalize (World.alloc _ _) = W0 at HB1 ⊢
      obtain ⟨b1, b5, b6⟩ := HB1.out
      refine (try_ok p s _ _ _ (H.out.below b5) HE.out HEN.out (fun _ => False) (fun _ h => h.elim) (fun W => IsRd W p s) ?_ ?_).mono ?_
      · rintro w1 w2 b x r1 hb he ht
        exact r1.away ht (by omega) (fun i e => .inr ⟨_, _, e ▸ he, errAt_no _⟩)
      · intro w1 hb
        refine (endc_ok _ p s w1 ((b1.below hb b1.lt).cell rfl) ((H.out.below b5).below hb) HL.out).mono ?_
        rintro e w2 ⟨rfl, rfl⟩
        exact ⟨rfl, (H.out.below b5).below hb, Tch.refl _ _⟩
      rintro e w' ⟨rfl, r1, ht⟩
      have HI := Lib.hid r1
      have HT := Lib.hid ((Tch.of_below b5 (Nat.le_refl _) (fun i => i = p)).trans ht (fun i _ e => e.elim))
      clear b1 b5 HB1 hmf r1 ht
      go_wp2_with fail
      go_ret
      rw [HR.out]
      exact ⟨rfl, HI.out, HT.out.only⟩
    · have HR := Lib.hid (rend_no he hl)
      have HE := Lib.hid he; have HL := Lib.hid hl
      clear he hl
      go_enter Try.func28, Try.ntmps28
      go_wp2_with fail
      generalize (World.alloc _ _) = W0 at HB1 ⊢
      obtain ⟨b1, b5, b6⟩ := HB1.out
      refine (try_no p s _ _ _ (H.out.below b5) HE.out HEN.out (fun i => i = p) (fun _ h => by omega) (fun W => True) (fun _ _ _ _ _ _ => trivial) ?_).mono ?_
      · intro w1 hb
        refine (endc_no _ p s w1 ((b1.below hb b1.lt).cell rfl) ((H.out.below b5).below hb) HL.out).mono ?_
        rintro e w2 ⟨rfl, rfl⟩
        exact ⟨rfl, ⟨_, (H.out.below b5).below hb⟩, trivial, Tch.refl _ _⟩
      rintro e w' ⟨rfl, r1, -, ht⟩
      have HI := Lib.hid r1
      have HT := Lib.hid ((Tch.of_below b5 (Nat.le_refl _) (fun i => i = p)).trans ht (fun i _ e => by
        rcases e with e | e
        · exact e
        · exact e))
      clear b1 b5 HB1 hmf r1 ht
      go_wp2_with fail
      go_ret
      rw [HR.out]
      exact ⟨rfl, HI.out, HT.out.only⟩
end Go.Proofs.Ytnecoapbpicloaa
