/- Contracts: a reader's End; what is given up with, and caught, in Read. -/
import Derived.Test.YtlgpoaapmgcloaaWl
import Derived.Test.YtlgpoaapmgcloaaCa
import Derived.RegionTactic
namespace Go.Proofs.Ytlgpoaapmgcloaa
open Go.RowKit
set_option linter.unusedSimpArgs false
set_option linter.unusedVariables false
set_option maxRecDepth 100000

section
variable (br : Nat)
theorem endc_no (p : Nat) (s : RS) (w : World) (h2 : w.cell? ⟨br, 0, none⟩ = some (.pointer (some ⟨p, 0, none⟩))) (h : IsRd w p s) (hl : 0 < s.l.length) :
    Calls Try.prog 43 #[.pointer (some ⟨br, 0, none⟩)] w fun e w' => e = .panicked gaveUp ∧ w = w' := by
  obtain ⟨a, c, h1, _, _⟩ := h
  have c0 : w.cell? ⟨p, 0, none⟩ = some (.slice a s.l.length c) := h1.cell (i := 0) rfl
  clear h1
  generalize s.l.length = m at *
  have r1 : ((m : Int) == 0) = false := by simp; omega
  go_enter Try.func43, Try.ntmps43
  go_wp2_with fail
  refine (must_no _).mono ?_
  rintro e w' ⟨rfl, rfl⟩
  exact ⟨rfl, rfl, rfl⟩
theorem endc_ok (p : Nat) (s : RS) (w : World) (h2 : w.cell? ⟨br, 0, none⟩ = some (.pointer (some ⟨p, 0, none⟩))) (h : IsRd w p s) (hl : s.l.length = 0) :
    Calls Try.prog 43 #[.pointer (some ⟨br, 0, none⟩)] w fun e w' => e = .returned (.tuple #[]) ∧ w = w' := by
  obtain ⟨a, c, h1, _, _⟩ := h
  have c0 : w.cell? ⟨p, 0, none⟩ = some (.slice a s.l.length c) := h1.cell (i := 0) rfl
  rw [hl] at c0
  clear h1 hl
  go_enter Try.func43, Try.ntmps43
  go_wp2_with fail
  refine (must_yes _).mono ?_
  rintro e w' ⟨rfl, rfl⟩
  go_wp2_with fail
  go_end0
  exact ⟨rfl, rfl⟩
end
theorem rend_err {s : RS} (h : s.e ≠ 0) : rend s = (s, s.e) := by unfold rend; rw [if_neg (fun e => h e.1)]
theorem rend_no {s : RS} (h : s.e = 0) (hl : 0 < s.l.length) : rend s = (RS.fail, 120) := by unfold rend; rw [if_pos ⟨h, hl⟩]
theorem rend_ok {s : RS} (h : s.e = 0) (hl : s.l.length = 0) : rend s = (s, 0) := by unfold rend; rw [if_neg (by omega), h]
set_option maxHeartbeats 2000000 in
theorem rd_end (p : Nat) (s : RS) (w : World) (h : IsRd w p s) :
    Calls Try.prog 25 #[.pointer (some ⟨p, 0, none⟩)] w fun e w' => e = .returned (.int .i64 (rend s).2) ∧ IsRd w' p (rend s).1 ∧ Only p w w' := by
  have hmf : ∀ (fn : Fn) (first cap : Array Value) (w : World), (Instr.makeFunc fn first cap).run Try.prog w = .ok (.func fn first cap) w := fun _ _ _ _ => rfl
  have hen := enters_f Try.func43 (by kernel_rfl) rfl
  have HEN := Lib.hid hen
  have H := Lib.hid h
  have hpl := h.lt
  clear h hen
  have hb1 := (Below.refl w.heap.size w).alloc (Nat.le_refl _) (.cells #[.pointer (some ⟨p, 0, none⟩)] 44)
  have hk1 := Blk.new w 44 #[.pointer (some ⟨p, 0, none⟩)]
  have hz1 : (w.alloc (.cells #[.pointer (some ⟨p, 0, none⟩)] 44)).heap.size = w.heap.size + 1 := by simp
  have HB1 := Lib.hid (And.intro hk1 (And.intro hb1 hz1))
  clear hb1 hk1 hz1
  by_cases he : s.e = 0
  case neg =>
    have HR := Lib.hid (rend_err he)
    have HE := Lib.hid he
    clear he
    go_enter Try.func25, Try.ntmps25
    go_wp2_with fail
    generalize (World.alloc _ _) = W0 at HB1 ⊢
    obtain ⟨b1, b5, b6⟩ := HB1.out
    refine (try_err p s _ _ (H.out.below b5) HE.out).mono ?_
    rintro e w' ⟨rfl, hb⟩
    have HI := Lib.hid (H.out.below (b5.trans (hb.mono (by omega))))
    have HB := Lib.hid (b5.trans (hb.mono (by omega)))
    clear b1 b5 hb HB1 hmf
    go_wp2_with fail
    go_ret
    rw [HR.out]
    exact ⟨rfl, HI.out, Only.of_below HB.out p⟩
  case pos =>
    rcases Nat.eq_zero_or_pos s.l.length with hl | hl
    · have HR := Lib.hid (rend_ok he hl)
      have HE := Lib.hid he; have HL := Lib.hid hl
      clear he hl
      go_enter Try.func25, Try.ntmps25
      go_wp2_with fail
      generalize (World.alloc _ _) = W0 at HB1 ⊢
      obtain ⟨b1, b5, b6⟩ := HB1.out
      refine (try_ok p s _ _ _ (H.out.below b5) HE.out HEN.out (fun _ => False) (fun _ h => h.elim) (fun W => IsRd W p s) ?_ ?_).mono ?_
      · rintro w1 w2 b x r1 hb he ht
        exact r1.away ht (by omega) (fun i e => .inr ⟨_, _, e ▸ he, errAt_no _⟩)
      · intro w1 hb
        refine (endc_ok _ p s w1 ((b1.below hb b1.lt).cell rfl) ((H.out.below b5).below hb) HL.out).mono ?_
        rintro e w2 ⟨rfl, rfl⟩
        exact ⟨rfl, (H.out.below b5).below hb, Tch.refl _ _⟩
      rintro e w' ⟨rfl, r1, ht⟩
      have HI := Lib.hid r1
      have HT := Lib.hid ((Tch.of_below b5 (Nat.le_refl _) (fun i => i = p)).trans ht (fun i _ e => e.elim))
      clear b1 b5 HB1 hmf r1 ht
      go_wp2_with fail
      go_ret
      rw [HR.out]
      exact ⟨rfl, HI.out, HT.out.only⟩
    · have HR := Lib.hid (rend_no he hl)
      have HE := Lib.hid he; have HL := Lib.hid hl
      clear he hl
      go_enter Try.func25, Try.ntmps25
      go_wp2_with fail
      generalize (World.alloc _ _) = W0 at HB1 ⊢
      obtain ⟨b1, b5, b6⟩ := HB1.out
      refine (try_no p s _ _ _ (H.out.below b5) HE.out HEN.out (fun i => i = p) (fun _ h => by omega) (fun W => True) (fun _ _ _ _ _ _ => trivial) ?_).mono ?_
      · intro w1 hb
        refine (endc_no _ p s w1 ((b1.below hb b1.lt).cell rfl) ((H.out.below b5).below hb) HL.out).mono ?_
        rintro e w2 ⟨rfl, rfl⟩
        exact ⟨rfl, ⟨_, (H.out.below b5).below hb⟩, trivial, Tch.refl _ _⟩
      rintro e w' ⟨rfl, r1, -, ht⟩
      have HI := Lib.hid r1
      have HT := Lib.hid ((Tch.of_below b5 (Nat.le_refl _) (fun i => i = p)).trans ht (fun i _ e => by
        rcases e with e | e
        · exact e
        · exact e))
      clear b1 b5 HB1 hmf r1 ht
      go_wp2_with fail
      go_ret
      rw [HR.out]
      exact ⟨rfl, HI.out, HT.out.only⟩

/-- What lies above a reader does not touch it. -/
theorem IsRd.above {w w' : World} {p : Nat} {s : RS} {S : Nat → Prop} (h : IsRd w p s) (ht : Tch S w w') (hS : ∀ i, S i → p < i) : IsRd w' p s := by
  obtain ⟨a, c, h1, h2, h3, h4⟩ := h
  exact ⟨a, c, ht.blk h1 (fun e => by have := hS _ e; omega), ht.bys h2 (fun g off e hn hs => by have e1 := h4 _ e hn; have e2 := hS _ hs; simp at e1; omega), h3, h4⟩
/-- What is given up with. -/
def gaveS : List PanicEntry := [{ v := .iface 26 (.int .i64 270), recovered := false }]
theorem mustS_yes (w : World) : Calls Try.prog 22 #[.bool true] w fun e w' => e = .returned (.tuple #[]) ∧ w = w' := by
  go_enter Try.func22, Try.ntmps22
  go_wp2
  go_end0
  exact ⟨rfl, rfl⟩
theorem mustS_no (w : World) : Calls Try.prog 22 #[.bool false] w fun e w' => e = .panicked gaveS ∧ w = w' := by
  go_enter Try.func22, Try.ntmps22
  go_wp2
  exact ⟨rfl, rfl, rfl⟩
theorem caughtS_idle (v1 v2 : Value) (w : World) :
    CallsD Try.prog 18 #[v1, v2] .returning w fun e u' w' => e = .returned (.tuple #[]) ∧ u' = .returning ∧ w' = w := by
  refine callsD_of_wpS Try.func18 rfl fun c₀ cs hu => ?_
  simp only [Try.ntmps18, List.size_toArray, List.length_cons, List.length_nil, Nat.reduceAdd, Nat.reduceSub, Array.replicate_succ, Array.replicate_zero, List.push_toArray, List.append_toArray, List.nil_append, List.cons_append]
  apply wpS_seq
  apply wpS_region
  simp [wpOpsS, go_sem, recoverD, hu, Exit.thenS]
  refine wpS_of_wp ?_
  go_wp2
  cases c₀
  simp_all [bodyPostS, results, Try.results18]
theorem caughtS_c (b1 b2 : Nat) (v1 v2 : Value) (older : List PanicEntry) (w : World) (h1 : Blk w b1 25 #[v1]) (h2 : Blk w b2 26 #[v2]) (hne : b1 ≠ b2) :
    CallsD Try.prog 18 #[.pointer (some ⟨b1, 0, none⟩), .pointer (some ⟨b2, 0, none⟩)] (.panicking ({ v := .iface 26 (.int .i64 270), recovered := false } :: older)) w fun e u' w' =>
      e = .returned (.tuple #[]) ∧ u' = .panicking ({ v := .iface 26 (.int .i64 270), recovered := true } :: older) ∧ Blk w' b1 25 #[.pointer none] ∧ Blk w' b2 26 #[.int .i64 270] ∧ Tch (fun i => i = b1 ∨ i = b2) w w' := by
  have hta : ∀ W, (Instr.typeAssert (.iface 26 (.int .i64 270)) 20 26 false).run Try.prog W = .ok (.int .i64 270) W := fun _ => by kernel_rfl
  have c1 : w.cell? ⟨b1, 0, none⟩ = some v1 := h1.cell (i := 0) rfl
  have c2 : w.cell? ⟨b2, 0, none⟩ = some v2 := h2.cell (i := 0) rfl
  have f1 := h1.frozen 0
  have f2 := h2.frozen 0
  have hne2 : b2 ≠ b1 := hne.symm
  refine callsD_of_wpS Try.func18 rfl fun c₀ cs hu => ?_
  simp only [Try.ntmps18, List.size_toArray, List.length_cons, List.length_nil, Nat.reduceAdd, Nat.reduceSub, Array.replicate_succ, Array.replicate_zero, List.push_toArray, List.append_toArray, List.nil_append, List.cons_append]
  apply wpS_seq
  apply wpS_region
  simp [wpOpsS, go_sem, recoverD, hu, Exit.thenS]
  refine wpS_of_wp ?_
  have H1 := Lib.hid h1; have H2 := Lib.hid h2
  clear h1 h2
  go_wp2_with fail
  go_region
  cases c₀
  refine ⟨rfl, _, rfl, _, results_none rfl _ _ _, rfl, rfl, ?_, ?_, ?_⟩
  · exact ((H1.out.set 0 (.pointer none)).far (p := ⟨b2, 0, none⟩) hne _).drew
  · exact ((H2.out.far (p := ⟨b1, 0, none⟩) hne2 _).set 0 _).drew
  · exact (((Tch.refl (fun i => i = b1 ∨ i = b2) w).setCell (p := ⟨b1, 0, none⟩) (.inl (.inl rfl)) _).setCell (p := ⟨b2, 0, none⟩) (.inl (.inr rfl)) _).trans (Tch.of_below (Below.refl _ _).drew (Nat.le_refl _) (fun _ => False)) (fun i _ e => e.elim)
end Go.Proofs.Ytlgpoaapmgcloaa
