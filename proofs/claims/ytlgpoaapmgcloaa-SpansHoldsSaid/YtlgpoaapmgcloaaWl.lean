/- Contracts: a reader's Number, whole. -/
import Derived.Test.YtlgpoaapmgcloaaWk
import Derived.Shelf.Abstract
namespace Go.Proofs.Ytlgpoaapmgcloaa
open Go.RowKit
set_option linter.unusedSimpArgs false
set_option linter.unusedVariables false
set_option maxRecDepth 100000

/-- Four blocks that a call makes. -/
theorem blk4 (w : World) (t1 t2 t3 t4 : TypeId) (c1 c2 c3 c4 : Array Value) :
    Blk ((((w.alloc (.cells c1 t1)).alloc (.cells c2 t2)).alloc (.cells c3 t3)).alloc (.cells c4 t4)) w.heap.size t1 c1 ∧
    Blk ((((w.alloc (.cells c1 t1)).alloc (.cells c2 t2)).alloc (.cells c3 t3)).alloc (.cells c4 t4)) (w.heap.size + 1) t2 c2 ∧
    Blk ((((w.alloc (.cells c1 t1)).alloc (.cells c2 t2)).alloc (.cells c3 t3)).alloc (.cells c4 t4)) (w.heap.size + 2) t3 c3 ∧
    Blk ((((w.alloc (.cells c1 t1)).alloc (.cells c2 t2)).alloc (.cells c3 t3)).alloc (.cells c4 t4)) (w.heap.size + 3) t4 c4 ∧
    Below w.heap.size w ((((w.alloc (.cells c1 t1)).alloc (.cells c2 t2)).alloc (.cells c3 t3)).alloc (.cells c4 t4)) ∧
    ((((w.alloc (.cells c1 t1)).alloc (.cells c2 t2)).alloc (.cells c3 t3)).alloc (.cells c4 t4)).heap.size = w.heap.size + 4 := by
  refine ⟨(((Blk.new w t1 c1).alloc _).alloc _).alloc _, ((Blk.new2 w _ t2 c2).alloc _).alloc _, ?_, ?_, ?_, by simp⟩
  · have := (Blk.new2 (w.alloc (.cells c1 t1)) (.cells c2 t2) t3 c3).alloc (.cells c4 t4)
    simpa using this
  · have := Blk.new2 ((w.alloc (.cells c1 t1)).alloc (.cells c2 t2)) (.cells c3 t3) t4 c4
    simpa using this
  · exact ((((Below.refl _ _).alloc (Nat.le_refl _) _).alloc (by simp) _).alloc (by simp; omega) _).alloc (by simp; omega) _

theorem enters_f {f : Nat} {fn : Func} {c : Code} (hf : Try.prog.funcs[f]? = some fn) (hname : (fn.name == "runtime.NumGoroutine") = false) (hb : fn.body = some c) : ∀ args W, (callFunc f args).run Try.prog W = .ok (.enter f args) W :=
  enters_of hf hname hb


theorem canNum_iff (s : RS) (most : Int) : canNum s most = false ↔ (takeB s.l).2 ≤ 0 ∨ most < ((takeB s.l).1 : Int) := by
  unfold canNum
  rw [Bool.and_eq_false_iff, decide_eq_false_iff_not, decide_eq_false_iff_not]
  omega
theorem rnum_err {s : RS} {most : Int} (h : s.e ≠ 0) : rnum s most = (s, 0, s.e) := by unfold rnum; rw [if_pos h]
theorem rnum_low {s : RS} {most : Int} (h : s.e = 0) (hm : most < 0) : rnum s most = (s, 0, 2) := by unfold rnum; rw [if_neg (by simp [h]), if_pos hm]
theorem rnum_bad {s : RS} {most : Int} (h : s.e = 0) (hm : ¬ most < 0) (hc : canNum s most = false) : rnum s most = (RS.fail, 0, 120) := by
  unfold rnum; rw [if_neg (by simp [h]), if_neg hm, if_pos ((canNum_iff s most).1 hc)]
theorem rnum_ok {s : RS} {most : Int} (h : s.e = 0) (hm : ¬ most < 0) (hc : canNum s most = true) : rnum s most = (⟨s.l.drop (takeB s.l).2.toNat, 0⟩, (takeB s.l).1, 0) := by
  unfold rnum; rw [if_neg (by simp [h]), if_neg hm, if_neg (fun e => by rw [(canNum_iff s most).2 e] at hc; cases hc)]

set_option maxHeartbeats 2000000 in
theorem rd_number (p : Nat) (s : RS) (most : Int) (w : World) (h : IsRd w p s) (hl : s.l.length ≤ 1000000000) :
    Calls Try.prog 21 #[.pointer (some ⟨p, 0, none⟩), .int .i64 most] w fun e w' => e = .returned (.tuple #[.int .i64 ((rnum s most).2.1 : Int), .int .i64 (rnum s most).2.2]) ∧ IsRd w' p (rnum s most).1 ∧ Only p w w' := by
  have hmf : ∀ (fn : Fn) (first cap : Array Value) (w : World), (Instr.makeFunc fn first cap).run Try.prog w = .ok (.func fn first cap) w := fun _ _ _ _ => rfl
  have hen := enters_f Try.func41 (by kernel_rfl) rfl
  have HEN := Lib.hid hen
  have H := Lib.hid h
  have hpl := h.lt
  have HL := Lib.hid hl
  clear h hl hen
  have HB4 := Lib.hid (blk4 w 44 2 2 4 #[.pointer (some ⟨p, 0, none⟩)] #[.int .i64 most] #[.int .i64 0] #[.bool (decide (most < 0))])
  by_cases he : s.e = 0
  case neg =>
    have HR := Lib.hid (rnum_err (most := most) he)
    have HE := Lib.hid he
    clear he
    go_enter Try.func21, Try.ntmps21
    go_wp2_with fail
    generalize (World.alloc _ _) = W0 at HB4 ⊢
    obtain ⟨b1, b2, b3, b4, b5, b6⟩ := HB4.out
    refine (try_err p s _ _ (H.out.below b5) HE.out).mono ?_
    rintro e w' ⟨rfl, hb⟩
    have r3 := Lib.hid (b3.below hb b3.lt)
    have HI := Lib.hid (H.out.below (b5.trans (hb.mono (by omega))))
    have HB := Lib.hid (b5.trans (hb.mono (by omega)))
    have hz := hb.size
    have q0 : (s.e == 0) = false := by simpa using HE.out
    have c3 : w'.cell? ⟨w.heap.size + 1 + 1, 0, none⟩ = some (.int .i64 0) := r3.out.cell (i := 0) rfl
    have f3 := r3.out.frozen 0
    clear b1 b2 b3 b4 b5 hb HB4 hmf
    go_wp2_with fail
    rw [HR.out]
    refine bodyPost_ret (v := .tuple #[.int .i64 0, .int .i64 s.e]) (by simp [results, Try.results21, go_sem, c3]) rfl ?_
    have ht : Tch (fun i => i = w.heap.size + 1 + 1) w' (w'.setCell ⟨w.heap.size + 1 + 1, 0, none⟩ (.int .i64 0)) := (Tch.refl (fun i => i = w.heap.size + 1 + 1) w').setCell (p := ⟨w.heap.size + 1 + 1, 0, none⟩) (.inl rfl) _
    refine ⟨rfl, HI.out.away ht (by omega) (fun i e => .inr ⟨_, _, e ▸ r3.out, errAt_no _⟩), ?_⟩
    exact Tch.only ((Tch.of_below HB.out (Nat.le_refl _) _).setCell (.inr (by simp; omega)) _)
  case pos =>
    by_cases hlow : most < 0
    · have HR := Lib.hid (rnum_low he hlow)
      have HE := Lib.hid he
      clear he
      have hd : decide (most < 0) = true := decide_eq_true hlow
      rw [hd] at HB4
      go_enter Try.func21, Try.ntmps21
      go_wp2_with fail
      generalize (World.alloc _ _) = W0 at HB4 ⊢
      obtain ⟨b1, b2, b3, b4, b5, b6⟩ := HB4.out
      refine (try_ok p s _ _ _ (H.out.below b5) HE.out HEN.out (fun _ => False) (fun _ h => h.elim) (fun W => IsRd W p s ∧ Blk W (w.heap.size + 2) 2 #[.int .i64 0] ∧ Blk W (w.heap.size + 3) 4 #[.bool true]) ?_ ?_).mono ?_
      · rintro w1 w2 b x ⟨r1, r2, r3⟩ hb he ht
        exact ⟨r1.away ht (by omega) (fun i e => .inr ⟨_, _, e ▸ he, errAt_no _⟩), ht.blk r2 (by omega), ht.blk r3 (by omega)⟩
      · intro w1 hb
        refine (numc_low _ _ _ _ w1 ((b4.below hb b4.lt).cell rfl)).mono ?_
        rintro e w2 ⟨rfl, rfl⟩
        exact ⟨rfl, ⟨(H.out.below b5).below hb, b3.below hb b3.lt, b4.below hb b4.lt⟩, Tch.refl _ _⟩
      rintro e w' ⟨rfl, ⟨r1, r3, r4⟩, ht⟩
      have R3 := Lib.hid r3
      have HI := Lib.hid r1
      have HB := Lib.hid (b5.trans (ht.below (B := w.heap.size) (by omega) (fun _ h => h.elim)))
      have hz := ht.size
      have c3 : w'.cell? ⟨w.heap.size + 1 + 1, 0, none⟩ = some (.int .i64 0) := r3.cell (i := 0) rfl
      have f3 := r3.frozen 0
      have c4 : w'.cell? ⟨w.heap.size + 1 + 1 + 1, 0, none⟩ = some (.bool true) := r4.cell (i := 0) rfl
      clear b1 b2 b3 b4 b5 HB4 hmf r1 r3 r4 ht
      go_wp2_with fail
      rw [HR.out]
      refine bodyPost_ret (v := .tuple #[.int .i64 0, .int .i64 2]) (by simp [results, Try.results21, go_sem, c3]) rfl ?_
      have ht : Tch (fun i => i = w.heap.size + 1 + 1) w' (w'.setCell ⟨w.heap.size + 1 + 1, 0, none⟩ (.int .i64 0)) := (Tch.refl (fun i => i = w.heap.size + 1 + 1) w').setCell (p := ⟨w.heap.size + 1 + 1, 0, none⟩) (.inl rfl) _
      refine ⟨rfl, HI.out.away ht (by omega) (fun i e => .inr ⟨_, _, e ▸ R3.out, errAt_no _⟩), ?_⟩
      exact Tch.only ((Tch.of_below HB.out (Nat.le_refl _) _).setCell (.inr (by simp; omega)) _)
    · have hd : decide (most < 0) = false := decide_eq_false hlow
      rw [hd] at HB4
      have HLO := Lib.hid hlow
      cases hc : canNum s most
      · have HR := Lib.hid (rnum_bad he hlow hc)
        have HC := Lib.hid hc
        have HE := Lib.hid he
        clear he hc
        go_enter Try.func21, Try.ntmps21
        go_wp2_with fail
        generalize (World.alloc _ _) = W0 at HB4 ⊢
        obtain ⟨b1, b2, b3, b4, b5, b6⟩ := HB4.out
        refine (try_no p s _ _ _ (H.out.below b5) HE.out HEN.out (fun _ => False) (fun _ h => h.elim) (fun W => Blk W (w.heap.size + 2) 2 #[.int .i64 0]) ?_ ?_).mono ?_
        · rintro w1 w2 b r2 hb ht
          exact ht.blk r2 (by omega)
        · intro w1 hb
          refine (numc_no _ _ _ _ p s most w1 ((b4.below hb b4.lt).cell rfl) ((b1.below hb b1.lt).cell rfl) ((b2.below hb b2.lt).cell rfl) ((H.out.below b5).below hb) HL.out HC.out).mono ?_
          rintro e w2 ⟨rfl, rfl⟩
          exact ⟨rfl, ⟨_, (H.out.below b5).below hb⟩, b3.below hb b3.lt, Tch.refl _ _⟩
        rintro e w' ⟨rfl, r1, r3, ht⟩
        have R3 := Lib.hid r3
        have HI := Lib.hid r1
        have HT := Lib.hid ((Tch.of_below b5 (Nat.le_refl _) (fun i => i = p)).trans ht (fun i _ e => by
          rcases e with e | e
          · exact e.elim
          · exact e))
        have hz := ht.size
        have c3 : w'.cell? ⟨w.heap.size + 1 + 1, 0, none⟩ = some (.int .i64 0) := r3.cell (i := 0) rfl
        have f3 := r3.frozen 0
        clear b1 b2 b3 b4 b5 HB4 hmf r1 r3 ht
        go_wp2_with fail
        rw [HR.out]
        refine bodyPost_ret (v := .tuple #[.int .i64 0, .int .i64 120]) (by simp [results, Try.results21, go_sem, c3]) rfl ?_
        have ht : Tch (fun i => i = w.heap.size + 1 + 1) w' (w'.setCell ⟨w.heap.size + 1 + 1, 0, none⟩ (.int .i64 0)) := (Tch.refl (fun i => i = w.heap.size + 1 + 1) w').setCell (p := ⟨w.heap.size + 1 + 1, 0, none⟩) (.inl rfl) _
        refine ⟨rfl, HI.out.away ht (by omega) (fun i e => .inr ⟨_, _, e ▸ R3.out, errAt_no _⟩), ?_⟩
        exact Tch.only (HT.out.setCell (.inr (by simp; omega)) _)
      · have HR := Lib.hid (rnum_ok he hlow hc)
        have HC := Lib.hid hc
        have HE := Lib.hid he
        clear he hc
        obtain ⟨y, hy⟩ : ∃ y, y = (takeB s.l).1 := ⟨_, rfl⟩
        have HY := Lib.hid hy
        clear hy
        go_enter Try.func21, Try.ntmps21
        go_wp2_with fail
        generalize (World.alloc _ _) = W0 at HB4 ⊢
        obtain ⟨b1, b2, b3, b4, b5, b6⟩ := HB4.out
        refine (try_ok p s _ _ _ (H.out.below b5) HE.out HEN.out (fun i => i = p ∨ i = w.heap.size + 2) (fun _ h => by omega) (fun W => (IsRd W p ⟨s.l.drop (takeB s.l).2.toNat, s.e⟩ ∧ Blk W (w.heap.size + 2) 2 #[.int .i64 ((takeB s.l).1 : Int)]) ∧ Blk W (w.heap.size + 3) 4 #[.bool false]) ?_ ?_).mono ?_
        · rintro w1 w2 b x ⟨⟨r1, r2⟩, r3⟩ hb he ht
          exact ⟨⟨r1.away ht (by omega) (fun i e => .inr ⟨_, _, e ▸ he, errAt_no _⟩), ht.blk r2 (by omega)⟩, ht.blk r3 (by omega)⟩
        · intro w1 hb
          refine (numc_ok _ _ _ _ p s most 0 w1 ((b4.below hb b4.lt).cell rfl) ((b1.below hb b1.lt).cell rfl) ((b2.below hb b2.lt).cell rfl) (b3.below hb b3.lt) (by omega) ((H.out.below b5).below hb) HL.out HC.out).mono ?_
          rintro e w2 ⟨rfl, r1, ht⟩
          exact ⟨rfl, ⟨r1, ht.blk (b4.below hb b4.lt) (by omega)⟩, ht⟩
        rintro e w' ⟨rfl, ⟨⟨r1, r3⟩, r4⟩, ht⟩
        rw [← HY.out] at r3
        have R3 := Lib.hid r3
        have HI := Lib.hid r1
        have HT := Lib.hid ((Tch.of_below b5 (Nat.le_refl _) (fun i => i = p)).trans ht (fun i _ e => by
          rcases e with e | e
          · exact e
          · omega))
        have hz := ht.size
        have c3 : w'.cell? ⟨w.heap.size + 1 + 1, 0, none⟩ = some (.int .i64 (y : Int)) := r3.cell (i := 0) rfl
        have f3 := r3.frozen 0
        have c4 : w'.cell? ⟨w.heap.size + 1 + 1 + 1, 0, none⟩ = some (.bool false) := r4.cell (i := 0) rfl
        clear b1 b2 b3 b4 b5 HB4 hmf r1 r3 r4 ht
        go_wp2_with fail
        rw [HR.out, HY.out.symm]
        refine bodyPost_ret (v := .tuple #[.int .i64 (y : Int), .int .i64 0]) (by simp [results, Try.results21, go_sem, c3]) rfl ?_
        have ht : Tch (fun i => i = w.heap.size + 1 + 1) w' (w'.setCell ⟨w.heap.size + 1 + 1, 0, none⟩ (.int .i64 (y : Int))) := (Tch.refl (fun i => i = w.heap.size + 1 + 1) w').setCell (p := ⟨w.heap.size + 1 + 1, 0, none⟩) (.inl rfl) _
        refine ⟨rfl, ?_, ?_⟩
        · have := HI.out.away ht (by omega) (fun i e => .inr ⟨_, _, e ▸ R3.out, errAt_no _⟩)
          rw [HE.out] at this
          exact this
        · exact Tch.only (HT.out.setCell (.inr (by simp; omega)) _)
end Go.Proofs.Ytlgpoaapmgcloaa

