/- Contracts: a reader's Text, whole. -/
import Derived.Test.YtnecoapbpicloaaWn
namespace Go.Proofs.Ytnecoapbpicloaa
open Go.RowKit
set_option linter.unusedSimpArgs false
set_option linter.unusedVariables false
set_option maxRecDepth 100000

theorem rtext_err {s : RS} {most : Int} (h : s.e ≠ 0) : rtext s most = (s, [], s.e) := by
  unfold rtext; rw [rnum_err h, if_pos h]
theorem rtext_low {s : RS} {most : Int} (h : s.e = 0) (hm : most < 0) : rtext s most = (s, [], 2) := by
  unfold rtext; rw [rnum_low h hm]; simp
theorem rtext_bad1 {s : RS} {most : Int} (h : s.e = 0) (hm : ¬ most < 0) (hc : canNum s most = false) : rtext s most = (RS.fail, [], 120) := by
  unfold rtext; rw [rnum_bad h hm hc]; simp
theorem rtext_bad2 {s : RS} {most : Int} (h : s.e = 0) (hm : ¬ most < 0) (hc : canNum s most = true) (hy : (s.l.drop (takeB s.l).2.toNat).length < (takeB s.l).1) : rtext s most = (RS.fail, [], 120) := by
  unfold rtext; rw [rnum_ok h hm hc]; simp only [ne_eq, not_true_eq_false, if_false]; rw [if_pos hy]
theorem rtext_ok {s : RS} {most : Int} (h : s.e = 0) (hm : ¬ most < 0) (hc : canNum s most = true) (hy : (takeB s.l).1 ≤ (s.l.drop (takeB s.l).2.toNat).length) :
    rtext s most = (⟨(s.l.drop (takeB s.l).2.toNat).drop (takeB s.l).1, 0⟩, (s.l.drop (takeB s.l).2.toNat).take (takeB s.l).1, 0) := by
  unfold rtext; rw [rnum_ok h hm hc]; simp only [ne_eq, not_true_eq_false, if_false]; rw [if_neg (by omega)]

set_option maxHeartbeats 2000000 in
theorem rd_text (p : Nat) (s : RS) (most : Int) (w : World) (h : IsRd w p s) (hl : s.l.length ≤ 1000000000) :
    Calls Try.prog 26 #[.pointer (some ⟨p, 0, none⟩), .int .i64 most] w fun e w' => e = .returned (.tuple #[.string (strOf (rtext s most).2.1), .int .i64 (rtext s most).2.2]) ∧ IsRd w' p (rtext s most).1 ∧ Only p w w' := by
  have hmf : ∀ (fn : Fn) (first cap : Array Value) (w : World), (Instr.makeFunc fn first cap).run Try.prog w = .ok (.func fn first cap) w := fun _ _ _ _ => rfl
  have hen := enters_f Try.func53 (by kernel_rfl) rfl
  have HEN := Lib.hid hen
  have H := Lib.hid h
  have hpl := h.lt
  have HL := Lib.hid hl
  clear h hl hen
  have HB4 := Lib.hid (blk4 w 35 3 9 4 #[.pointer (some ⟨p, 0, none⟩)] #[.int .i64 most] #[.string ⟨#[]⟩] #[.bool (decide (most < 0))])
  by_cases he : s.e = 0
  case neg =>
    have HR := Lib.hid (rtext_err (most := most) he)
    have HE := Lib.hid he
    clear he
    go_enter Try.func26, Try.ntmps26
    go_wp2_with fail
    generalize (World.alloc _ _) = W0 at HB4 ⊢
    obtain ⟨b1, b2, b3, b4, b5, b6⟩ := HB4.out
    refine (try_err p s _ _ (H.out.below b5) HE.out).mono ?_
    rintro e w' ⟨rfl, hb⟩
    have r3 := Lib.hid (b3.below hb b3.lt)
    have HI := Lib.hid (H.out.below (b5.trans (hb.mono (by omega))))
    have HB := Lib.hid (b5.trans (hb.mono (by omega)))
    have hz := hb.size
    have q0 : (s.e == 0) = false := by simpa using HE.out
    have c3 : w'.cell? ⟨w.heap.size + 1 + 1, 0, none⟩ = some (.string ⟨#[]⟩) := r3.out.cell (i := 0) rfl
    have f3 := r3.out.frozen 0
    clear b1 b2 b3 b4 b5 hb HB4 hmf
    go_wp2_with fail
    rw [HR.out]
    refine bodyPost_ret (v := .tuple #[.string ⟨#[]⟩, .int .i64 s.e]) (by simp [results, Try.results26, go_sem, c3]) rfl ?_
    have ht : Tch (fun i => i = w.heap.size + 1 + 1) w' (w'.setCell ⟨w.heap.size + 1 + 1, 0, none⟩ (.string ⟨#[]⟩)) := (Tch.refl (fun i => i = w.heap.size + 1 + 1) w').setCell (p := ⟨w.heap.size + 1 + 1, 0, none⟩) (.inl rfl) _
    refine ⟨rfl, HI.out.away ht (by omega) (fun i e => .inr ⟨_, _, e ▸ r3.out, fun y e => by cases e⟩), ?_⟩
    exact Tch.only ((Tch.of_below HB.out (Nat.le_refl _) _).setCell (.inr (by simp; omega)) _)
  case pos =>
    by_cases hlow : most < 0
    · have HR := Lib.hid (rtext_low he hlow)
      have HE := Lib.hid he
      clear he
      have hd : decide (most < 0) = true := decide_eq_true hlow
      rw [hd] at HB4
      go_enter Try.func26, Try.ntmps26
      go_wp2_with fail
      generalize (World.alloc _ _) = W0 at HB4 ⊢
      obtain ⟨b1, b2, b3, b4, b5, b6⟩ := HB4.out
      refine (try_ok p s _ _ _ (H.out.below b5) HE.out HEN.out (fun _ => False) (fun _ h => h.elim) (fun W => IsRd W p s ∧ Blk W (w.heap.size + 2) 9 #[.string ⟨#[]⟩] ∧ Blk W (w.heap.size + 3) 4 #[.bool true]) ?_ ?_).mono ?_
      · rintro w1 w2 b x ⟨r1, r2, r3⟩ hb he ht
        exact ⟨r1.away ht (by omega) (fun i e => .inr ⟨_, _, e ▸ he, errAt_no _⟩), ht.blk r2 (by omega), ht.blk r3 (by omega)⟩
      · intro w1 hb
        refine (textc_low _ _ _ _ w1 ((b4.below hb b4.lt).cell rfl)).mono ?_
        rintro e w2 ⟨rfl, rfl⟩
        exact ⟨rfl, ⟨(H.out.below b5).below hb, b3.below hb b3.lt, b4.below hb b4.lt⟩, Tch.refl _ _⟩
      rintro e w' ⟨rfl, ⟨r1, r3, r4⟩, ht⟩
      have R3 := Lib.hid r3
      have HI := Lib.hid r1
      have HB := Lib.hid (b5.trans (ht.below (B := w.heap.size) (by omega) (fun _ h => h.elim)))
      have hz := ht.size
      have c3 : w'.cell? ⟨w.heap.size + 1 + 1, 0, none⟩ = some (.string ⟨#[]⟩) := r3.cell (i := 0) rfl
      have f3 := r3.frozen 0
      have c4 : w'.cell? ⟨w.heap.size + 1 + 1 + 1, 0, none⟩ = some (.bool true) := r4.cell (i := 0) rfl
      clear b1 b2 b3 b4 b5 HB4 hmf r1 r3 r4 ht
      go_wp2_with fail
      rw [HR.out]
      refine bodyPost_ret (v := .tuple #[.string ⟨#[]⟩, .int .i64 2]) (by simp [results, Try.results26, go_sem, c3]) rfl ?_
      have ht : Tch (fun i => i = w.heap.size + 1 + 1) w' (w'.setCell ⟨w.heap.size + 1 + 1, 0, none⟩ (.string ⟨#[]⟩)) := (Tch.refl (fun i => i = w.heap.size + 1 + 1) w').setCell (p := ⟨w.heap.size + 1 + 1, 0, none⟩) (.inl rfl) _
      refine ⟨rfl, HI.out.away ht (by omega) (fun i e => .inr ⟨_, _, e ▸ R3.out, fun y e => by cases e⟩), ?_⟩
      exact Tch.only ((Tch.of_below HB.out (Nat.le_refl _) _).setCell (.inr (by simp; omega)) _)
    · have hd : decide (most < 0) = false := decide_eq_false hlow
      rw [hd] at HB4
      have HLO := Lib.hid hlow
      cases hc : canNum s most
      · have HR := Lib.hid (rtext_bad1 he hlow hc)
        have HC := Lib.hid hc
        have HE := Lib.hid he
        clear he hc
        go_enter Try.func26, Try.ntmps26
        go_wp2_with fail
        generalize (World.alloc _ _) = W0 at HB4 ⊢
        obtain ⟨b1, b2, b3, b4, b5, b6⟩ := HB4.out
        refine (try_no p s _ _ _ (H.out.below b5) HE.out HEN.out (fun i => i = p) (fun _ h => by omega) (fun W => Blk W (w.heap.size + 2) 9 #[.string ⟨#[]⟩]) ?_ ?_).mono ?_
        · rintro w1 w2 b r2 hb ht
          exact ht.blk r2 (by omega)
        · intro w1 hb
          refine (textc_no1 _ _ _ _ p s most _ _ w1 ((b4.below hb b4.lt).cell rfl) ((b1.below hb b1.lt).cell rfl) ((b2.below hb b2.lt).cell rfl) (b3.below hb b3.lt) (by omega) (by omega) (by omega) (by omega) (by omega) ((H.out.below b5).below hb) HL.out rfl HC.out).mono ?_
          rintro e w2 ⟨rfl, hx, hy, hO⟩
          exact ⟨rfl, hx, hy, hO.tch⟩
        rintro e w' ⟨rfl, r1, r3, ht⟩
        have R3 := Lib.hid r3
        have HI := Lib.hid r1
        have HT := Lib.hid ((Tch.of_below b5 (Nat.le_refl _) (fun i => i = p)).trans ht (fun i _ e => by
          rcases e with e | e
          · exact e
          · exact e))
        have hz := ht.size
        have c3 : w'.cell? ⟨w.heap.size + 1 + 1, 0, none⟩ = some (.string ⟨#[]⟩) := r3.cell (i := 0) rfl
        have f3 := r3.frozen 0
        clear b1 b2 b3 b4 b5 HB4 hmf r1 r3 ht
        go_wp2_with fail
        rw [HR.out]
        refine bodyPost_ret (v := .tuple #[.string ⟨#[]⟩, .int .i64 120]) (by simp [results, Try.results26, go_sem, c3]) rfl ?_
        have ht : Tch (fun i => i = w.heap.size + 1 + 1) w' (w'.setCell ⟨w.heap.size + 1 + 1, 0, none⟩ (.string ⟨#[]⟩)) := (Tch.refl (fun i => i = w.heap.size + 1 + 1) w').setCell (p := ⟨w.heap.size + 1 + 1, 0, none⟩) (.inl rfl) _
        refine ⟨rfl, HI.out.away ht (by omega) (fun i e => .inr ⟨_, _, e ▸ R3.out, fun y e => by cases e⟩), ?_⟩
        exact Tch.only (HT.out.setCell (.inr (by simp; omega)) _)
      · rcases Nat.lt_or_ge (s.l.drop (takeB s.l).2.toNat).length (takeB s.l).1 with hyl | hyl
        · have HR := Lib.hid (rtext_bad2 he hlow hc hyl)
          have HC := Lib.hid hc
          have HYL := Lib.hid hyl
          have HE := Lib.hid he
          clear he hc hyl
          go_enter Try.func26, Try.ntmps26
          go_wp2_with fail
          generalize (World.alloc _ _) = W0 at HB4 ⊢
          obtain ⟨b1, b2, b3, b4, b5, b6⟩ := HB4.out
          refine (try_no p s _ _ _ (H.out.below b5) HE.out HEN.out (fun i => i = p) (fun _ h => by omega) (fun W => Blk W (w.heap.size + 2) 9 #[.string ⟨#[]⟩]) ?_ ?_).mono ?_
          · rintro w1 w2 b r2 hb ht
            exact ht.blk r2 (by omega)
          · intro w1 hb
            refine (textc_no2 _ _ _ _ p s most _ _ w1 ((b4.below hb b4.lt).cell rfl) ((b1.below hb b1.lt).cell rfl) ((b2.below hb b2.lt).cell rfl) (b3.below hb b3.lt) (by omega) (by omega) (by omega) (by omega) (by omega) ((H.out.below b5).below hb) HL.out rfl HC.out HYL.out).mono ?_
            rintro e w2 ⟨rfl, hx, hy, hO⟩
            exact ⟨rfl, hx, hy, hO.tch⟩
          rintro e w' ⟨rfl, r1, r3, ht⟩
          have R3 := Lib.hid r3
          have HI := Lib.hid r1
          have HT := Lib.hid ((Tch.of_below b5 (Nat.le_refl _) (fun i => i = p)).trans ht (fun i _ e => by
            rcases e with e | e
            · exact e
            · exact e))
          have hz := ht.size
          have c3 : w'.cell? ⟨w.heap.size + 1 + 1, 0, none⟩ = some (.string ⟨#[]⟩) := r3.cell (i := 0) rfl
          have f3 := r3.frozen 0
          clear b1 b2 b3 b4 b5 HB4 hmf r1 r3 ht
          go_wp2_with fail
          rw [HR.out]
          refine bodyPost_ret (v := .tuple #[.string ⟨#[]⟩, .int .i64 120]) (by simp [results, Try.results26, go_sem, c3]) rfl ?_
          have ht : Tch (fun i => i = w.heap.size + 1 + 1) w' (w'.setCell ⟨w.heap.size + 1 + 1, 0, none⟩ (.string ⟨#[]⟩)) := (Tch.refl (fun i => i = w.heap.size + 1 + 1) w').setCell (p := ⟨w.heap.size + 1 + 1, 0, none⟩) (.inl rfl) _
          refine ⟨rfl, HI.out.away ht (by omega) (fun i e => .inr ⟨_, _, e ▸ R3.out, fun y e => by cases e⟩), ?_⟩
          exact Tch.only (HT.out.setCell (.inr (by simp; omega)) _)
        · have HR := Lib.hid (rtext_ok he hlow hc hyl)
          have HC := Lib.hid hc
          have HYL := Lib.hid hyl
          have HE := Lib.hid he
          clear he hc hyl
          obtain ⟨y, hy⟩ : ∃ y, y = strOf ((s.l.drop (takeB s.l).2.toNat).take (takeB s.l).1) := ⟨_, rfl⟩
          have HY := Lib.hid hy
          clear hy
          go_enter Try.func26, Try.ntmps26
          go_wp2_with fail
          generalize (World.alloc _ _) = W0 at HB4 ⊢
          obtain ⟨b1, b2, b3, b4, b5, b6⟩ := HB4.out
          refine (try_ok p s _ _ _ (H.out.below b5) HE.out HEN.out (fun i => i = p ∨ i = w.heap.size + 2) (fun _ h => by omega) (fun W => (IsRd W p ⟨(s.l.drop (takeB s.l).2.toNat).drop (takeB s.l).1, s.e⟩ ∧ Blk W (w.heap.size + 2) 9 #[.string (strOf ((s.l.drop (takeB s.l).2.toNat).take (takeB s.l).1))]) ∧ Blk W (w.heap.size + 3) 4 #[.bool false]) ?_ ?_).mono ?_
          · rintro w1 w2 b x ⟨⟨r1, r2⟩, r3⟩ hb he ht
            exact ⟨⟨r1.away ht (by omega) (fun i e => .inr ⟨_, _, e ▸ he, errAt_no _⟩), ht.blk r2 (by omega)⟩, ht.blk r3 (by omega)⟩
          · intro w1 hb
            refine (textc_ok _ _ _ _ p s most _ _ w1 ((b4.below hb b4.lt).cell rfl) ((b1.below hb b1.lt).cell rfl) ((b2.below hb b2.lt).cell rfl) (b3.below hb b3.lt) (by omega) (by omega) (by omega) (by omega) (by omega) ((H.out.below b5).below hb) HL.out rfl HC.out HYL.out).mono ?_
            rintro e w2 ⟨rfl, r1, ht⟩
            exact ⟨rfl, ⟨r1, ht.blk (b4.below hb b4.lt) (by omega)⟩, ht⟩
          rintro e w' ⟨rfl, ⟨⟨r1, r3⟩, r4⟩, ht⟩
          rw [← HY.out] at r3
          have R3 := Lib.hid r3
          have HI := Lib.hid r1
          have HT := Lib.hid ((Tch.of_below b5 (Nat.le_refl _) (fun i => i = p)).trans ht (fun i _ e => by
            rcases e with e | e
            · exact e
            · omega))
          have hz := ht.size
          have c3 : w'.cell? ⟨w.heap.size + 1 + 1, 0, none⟩ = some (.string y) := r3.cell (i := 0) rfl
          have f3 := r3.frozen 0
          have c4 : w'.cell? ⟨w.heap.size + 1 + 1 + 1, 0, none⟩ = some (.bool false) := r4.cell (i := 0) rfl
          clear b1 b2 b3 b4 b5 HB4 hmf r1 r3 r4 ht
          go_wp2_with fail
          rw [HR.out, HY.out.symm]
          refine bodyPost_ret (v := .tuple #[.string y, .int .i64 0]) (by simp [results, Try.results26, go_sem, c3]) rfl ?_
          have ht : Tch (fun i => i = w.heap.size + 1 + 1) w' (w'.setCell ⟨w.heap.size + 1 + 1, 0, none⟩ (.string y)) := (Tch.refl (fun i => i = w.heap.size + 1 + 1) w').setCell (p := ⟨w.heap.size + 1 + 1, 0, none⟩) (.inl rfl) _
          refine ⟨rfl, ?_, ?_⟩
          · have := HI.out.away ht (by omega) (fun i e => .inr ⟨_, _, e ▸ R3.out, fun y e => by cases e⟩)
            rw [HE.out] at this
            exact this
          · exact Tch.only (HT.out.setCell (.inr (by simp; omega)) _)
  end Go.Proofs.Ytnecoapbpicloaa
