/- The walk of SumJoins. -/
import Derived.Test.YtodjbgcmlpmknaaWq
namespace Go.Proofs.Ytodjbgcmlpmknaa
open Go.RowKit

theorem OwnB.some {w : World} {base : Nat} {v : Value} {l : List By} (h : OwnB w base v l) (hn : v ≠ .slice none 0 0) : ∃ g c, v = .slice (some ⟨g, 0, none⟩) l.length c ∧ l.length ≤ c ∧ Bys w (some ⟨g, 0, none⟩) l.length l := by
  obtain ⟨a, c, hv, hc, hy⟩ := h.bys
  rcases h.2 with ⟨e, _⟩ | ⟨g, cap, cur, e, _⟩
  · exact absurd e hn
  · rw [e] at hv
    injection hv with h1 h2 h3
    subst h1
    exact ⟨g, cap, e, by rw [h3]; exact hc, hy⟩
theorem Bys.drop2 {w : World} {g n : Nat} {l : List By} (h : Bys w (some ⟨g, 0, none⟩) n l) (k o : Nat) (hk : k ≤ n) (ho : o = k ∨ n - k = 0) : Bys w (some ⟨g, o, none⟩) (n - k) (l.drop k) := by
  rcases ho with rfl | h0
  · have := h.drop o hk
    rwa [add_plain, Nat.zero_add] at this
  · refine ⟨by rw [List.length_drop, h.1], fun i c hi => ?_⟩
    have hlt := (List.getElem?_eq_some_iff.1 hi).1
    rw [List.length_drop, h.1] at hlt
    omega
theorem more_as (s : Wo) (A C : Int) (a : Option Addr) (n cp : Nat) (l : List By) (w : World) (hl : Bys w a n l) (hn : n ≤ 1000000000) (hA : A = (s.toNat : Int)) (hC : C = ((moreB s l).toNat : Int)) :
    Calls Try.prog 16 #[.int .u32 A, .slice a n cp] w fun e w' => e = .returned (.int .u32 C) ∧ Below w.heap.size w w' := by
  subst hA; subst hC
  exact more_c s a n cp l w hl hn

set_option maxRecDepth 100000 in
set_option maxHeartbeats 8000000 in
theorem joins_walk (a a' : Option Addr) (n c n' c' : Nat) (l l' : List By) (cut : Int) (w : World) (h : Bys w a n l) (h' : Bys w a' n' l') (hc1 : -9223372036854775808 ≤ cut) (hc2 : cut ≤ 9223372036854775807) :
    Calls Try.prog 12 #[.slice a n c, .slice a' n' c', .int .i64 cut] w fun e w' => e = .returned (.bool true) ∧ Below w.heap.size w w' := by
  have H := Lib.hid h; clear h
  have H' := Lib.hid h'; clear h'
  have hcase : 500 < n ∨ (n ≤ 500 ∧ 500 < n') ∨ (n ≤ 500 ∧ n' ≤ 500) := by omega
  rcases hcase with hn | ⟨hn, hn'⟩ | ⟨hn, hn'⟩
  case inr.inr =>
    go_enter Try.func12, Try.ntmps12
    go_wp2_with (at_builtin; refine wpl_append_bys rfl _ _ rfl w.heap.size _ [] rfl (own_empty w) a n c l rfl (H.out.below ((Below.refl _ _).alloc (Nat.le_refl _) _)) ?c1 ?c2 ?_)
    case c1 => simp; omega
    case c2 => simp
    intro v w1 hown hg hnl
    have HB := Lib.hid (((Below.refl w.heap.size w).alloc (Nat.le_refl _) (.cells #[] 5)).grown hg (by simp) (fun k e => by simp [Value.ownBlock] at e; omega))
    have HO := Lib.hid hown
    have HN := Lib.hid hnl
    clear hown hg hnl
    go_wp2_with (at_builtin; refine wpl_append_bys rfl _ _ rfl w.heap.size _ l rfl HO.out a' n' c' l' rfl (H'.out.below HB.out) ?c1 ?c2 ?_)
    case c1 => have := H.out.1; omega
    case c2 => exact HB.out.size
    intro v2 w2 hown hg hnl
    have HB2 := Lib.hid (HB.out.trans (own_grown HO.out hg (Nat.le_refl _) HB.out.size))
    have HN2 := Lib.hid (hnl (HN.out))
    obtain ⟨g, c7, hv, hc7, hy⟩ := hown.some HN2.out
    have hlen : (l ++ l').length = n + n' := by simp [H.out.1, H'.out.1]
    rw [hlen] at hv hc7 hy
    subst hv
    have HY := Lib.hid hy
    clear hy hown hg hnl HB HO HN HN2
    obtain ⟨SA, hSA⟩ : ∃ S : Int, S = ((sumB l).toNat : Int) := ⟨_, rfl⟩
    obtain ⟨SB, hSB⟩ : ∃ S : Int, S = ((sumB l').toNat : Int) := ⟨_, rfl⟩
    obtain ⟨J, hJ⟩ : ∃ S : Int, S = ((sumB (l ++ l')).toNat : Int) := ⟨_, rfl⟩
    have HSA := Lib.hid hSA; have HSB := Lib.hid hSB; have HJ := Lib.hid hJ
    clear hSA hSB hJ
    go_wp2_with fail
    refine (sum_as _ 1 _ [l] SA _ (Prs.one c 22 (H.out.below HB2.out) (by omega)) (by omega) (by rw [HSA.out]; simp)).mono ?_
    rintro e w3 ⟨rfl, hb⟩
    have HB3 := Lib.hid (HB2.out.trans ((((Below.refl w2.heap.size w2).alloc (Nat.le_refl _) (.cells #[.slice a n c] 22)).trans (hb.mono (by simp))).mono HB2.out.size))
    have HY3 := Lib.hid (HY.out.below (((Below.refl w2.heap.size w2).alloc (Nat.le_refl _) (.cells #[.slice a n c] 22)).trans (hb.mono (by simp))))
    clear hb HY HB2
    go_wp2_with fail
    refine (sum_as _ 1 _ [l'] SB _ (Prs.one c' 22 (H'.out.below HB3.out) (by omega)) (by omega) (by rw [HSB.out]; simp)).mono ?_
    rintro e w4 ⟨rfl, hb⟩
    have HB4 := Lib.hid (HB3.out.trans ((((Below.refl w3.heap.size w3).alloc (Nat.le_refl _) (.cells #[.slice a' n' c'] 22)).trans (hb.mono (by simp))).mono HB3.out.size))
    have HY4 := Lib.hid (HY3.out.below (((Below.refl w3.heap.size w3).alloc (Nat.le_refl _) (.cells #[.slice a' n' c'] 22)).trans (hb.mono (by simp))))
    clear hb HY3 HB3
    go_wp2_with fail
    rw [HSA.out, HSB.out]
    refine (Join_yes (sumB l) (sumB l') n' _ (by omega)).mono ?_
    rw [show joinB (sumB l) (sumB l') n' = sumB (l ++ l') by rw [← H'.out.1, join_sum], ← HJ.out, ← HSA.out, ← HSB.out]
    rintro e w5 ⟨rfl, hb⟩
    have HBA := Lib.hid ((HB4.out.trans (hb.mono HB4.out.size)).drew)
    have HYA := Lib.hid (HY4.out.below hb.drew)
    clear hb HY4 HB4
    have hcut : (cut < (n : Int) + n' ∧ cut ≤ 0) ∨ (cut < (n : Int) + n' ∧ 0 < cut) ∨ ((n : Int) + n' ≤ cut ∧ n + n' = 0) ∨ ((n : Int) + n' ≤ cut ∧ 0 < n + n' ∧ c7 = n + n') ∨ ((n : Int) + n' ≤ cut ∧ 0 < n + n' ∧ c7 ≠ n + n') := by omega
    rcases hcut with ⟨x1, x2⟩ | ⟨x1, x2⟩ | ⟨x1, x2⟩ | ⟨x1, x2, x3⟩ | ⟨x1, x2, x3⟩
    · have y2 : ¬ (0 < cut) := by omega
      go_wp2_with fail
      refine wp_region_any (by kernel_rfl) ?_
      change wpAny _ _ _ _ _ _ _ (World.drew _)
      generalize w5.drew = wA at HBA HYA ⊢
      have z1 : c7 - 0 = c7 := by omega
      have z6 : ¬ ((n : Int) + n' < 0) := by omega
      refine wpAny_take (i := 0) (v := .int .i64 0) rfl (by kernel_rfl) (by kernel_rfl) (by kernel_rfl) (fun _ _ _ h => h) (Or.inl ⟨by kernel_rfl, fun w => ?_⟩) ?_
      · go_simp
      refine wpAny_ready (rs := [1]) (by kernel_rfl) (by simp) ?_
      refine AllReady.cons rfl (fun K hK => ?_) AllReady.nil
      go_simp
      refine (num_c _ _).mono ?_
      rintro e w' ⟨rfl, rfl⟩
      refine hK _ _ ?_
      clear hK K
      refine wpAny_ready (rs := [2]) (by kernel_rfl) (by simp) ?_
      refine AllReady.cons rfl (fun K hK => ?_) AllReady.nil
      go_simp
      refine hK _ _ ?_
      clear hK K
      refine wpAny_ready (rs := [3]) (by kernel_rfl) (by simp) ?_
      refine AllReady.cons rfl (fun K hK => ?_) AllReady.nil
      go_simp
      refine hK _ _ ?_
      clear hK K
      refine wpAny_take (i := 4) (v := .int .u32 J) rfl (by kernel_rfl) (by kernel_rfl) (by kernel_rfl) (fun _ _ _ h => h) (Or.inl ⟨by kernel_rfl, fun w => ?_⟩) ?_
      · go_simp
      refine wpAny_take (i := 5) (v := (.slice (some ⟨g, 0, none⟩) (n + n') c7)) rfl (by kernel_rfl) (by kernel_rfl) (by kernel_rfl) (fun _ _ _ h => h) (Or.inl ⟨by kernel_rfl, fun w => ?_⟩) ?_
      · go_simp
      refine wpAny_ready (rs := [6]) (by kernel_rfl) (by simp) ?_
      refine AllReady.cons rfl (fun K hK => ?_) AllReady.nil
      go_simp
      refine hK _ _ ?_
      clear hK K
      refine wpAny_ready (rs := [7]) (by kernel_rfl) (by simp) ?_
      refine AllReady.cons rfl (fun K hK => ?_) AllReady.nil
      go_simp
      refine (sum_as _ 1 _ [l ++ l'] J _ (Prs.one c7 22 HYA.out (by omega)) (by omega) (by rw [HJ.out]; simp)).mono ?_
      rintro e wB ⟨rfl, hb⟩
      have hb' := ((Below.refl wA.heap.size wA).alloc (Nat.le_refl _) (.cells #[.slice (some ⟨g, 0, none⟩) (n + n') c7] 22)).trans (hb.mono (by simp))
      have HBB := Lib.hid (HBA.out.trans (hb'.mono HBA.out.size))
      have HYB := Lib.hid (HYA.out.below hb')
      clear hb hb' HBA HYA
      refine hK _ _ ?_
      clear hK K
      refine wpAny_ready (rs := [8]) (by kernel_rfl) (by simp) ?_
      refine AllReady.cons rfl (fun K hK => ?_) AllReady.nil
      go_simp
      refine hK _ _ ?_
      clear hK K
      refine wpAny_ready (rs := [9]) (by kernel_rfl) (by simp) ?_
      refine AllReady.cons rfl (fun K hK => ?_) AllReady.nil
      go_simp
      refine hK _ _ ?_
      clear hK K
      refine wpAny_ready (rs := [10]) (by kernel_rfl) (by simp) ?_
      refine AllReady.cons rfl (fun K hK => ?_) AllReady.nil
      go_simp
      refine hK _ _ ?_
      clear hK K
      refine wpAny_take (i := 11) (v := .slice a n c) rfl (by kernel_rfl) (by kernel_rfl) (by kernel_rfl) (fun _ _ _ h => h) (Or.inl ⟨by kernel_rfl, fun w => ?_⟩) ?_
      · go_simp
      refine wpAny_take (i := 14) (v := .slice a' n' c') rfl (by kernel_rfl) (by kernel_rfl) (by kernel_rfl) (fun _ _ _ h => h) (Or.inl ⟨by kernel_rfl, fun w => ?_⟩) ?_
      · go_simp
      refine wpAny_take (i := 16) (v := .int .u32 J) rfl (by kernel_rfl) (by kernel_rfl) (by kernel_rfl) (fun _ _ _ h => h) (Or.inl ⟨by kernel_rfl, fun w => ?_⟩) ?_
      · go_simp
      refine wpAny_ready (rs := [12]) (by kernel_rfl) (by simp) ?_
      refine AllReady.cons rfl (fun K hK => ?_) AllReady.nil
      go_simp
      refine hK _ _ ?_
      clear hK K
      refine wpAny_ready (rs := [13]) (by kernel_rfl) (by simp) ?_
      refine AllReady.cons rfl (fun K hK => ?_) AllReady.nil
      go_simp
      refine (sum_as _ 1 _ [l] SA _ (Prs.one c 22 (H.out.below HBB.out) (by omega)) (by omega) (by rw [HSA.out]; simp)).mono ?_
      rintro e wC ⟨rfl, hb⟩
      have hb' := ((Below.refl wB.heap.size wB).alloc (Nat.le_refl _) (.cells #[.slice a n c] 22)).trans (hb.mono (by simp))
      have HBC := Lib.hid (HBB.out.trans (hb'.mono HBB.out.size))
      have HYC := Lib.hid (HYB.out.below hb')
      clear hb hb' HBB HYB
      refine hK _ _ ?_
      clear hK K
      refine wpAny_ready (rs := [15]) (by kernel_rfl) (by simp) ?_
      refine AllReady.cons rfl (fun K hK => ?_) AllReady.nil
      go_simp
      refine (more_as (sumB l) SA J a' n' c' l' _ (H'.out.below HBC.out) (by omega) HSA.out (by rw [HJ.out]; rw [sum_more, sum_more, more_append])).mono ?_
      rintro e wD ⟨rfl, hb⟩
      have HBD := Lib.hid (HBC.out.trans (hb.mono HBC.out.size))
      have HYD := Lib.hid (HYC.out.below hb)
      clear hb HBC HYC
      refine hK _ _ ?_
      clear hK K
      refine wpAny_ready (rs := [17]) (by kernel_rfl) (by simp) ?_
      refine AllReady.cons rfl (fun K hK => ?_) AllReady.nil
      go_simp
      refine hK _ _ ?_
      clear hK K
      refine wpAny_ready (rs := [18]) (by kernel_rfl) (by simp) ?_
      refine AllReady.cons rfl (fun K hK => ?_) AllReady.nil
      go_simp
      refine hK _ _ ?_
      clear hK K
      refine wpAny_ready (rs := [19]) (by kernel_rfl) (by simp) ?_
      refine AllReady.cons rfl (fun K hK => ?_) AllReady.nil
      go_simp
      refine hK _ _ ?_
      clear hK K
      refine wpAny_take (i := 20) (v := (.slice (some ⟨g, 0, none⟩) (n + n') c7)) rfl (by kernel_rfl) (by kernel_rfl) (by kernel_rfl) (fun _ _ _ h => h) (Or.inl ⟨by kernel_rfl, fun w => ?_⟩) ?_
      · go_simp
      refine wpAny_take (i := 21) (v := .int .i64 0) rfl (by kernel_rfl) (by kernel_rfl) (by kernel_rfl) (fun _ _ _ h => h) (Or.inl ⟨by kernel_rfl, fun w => ?_⟩) ?_
      · go_simp
      refine wpAny_take (i := 22) (v := .slice (some ⟨g, 0, none⟩) 0 c7) rfl (by kernel_rfl) (by kernel_rfl) (by kernel_rfl) (fun _ _ _ h => h) (Or.inl ⟨by kernel_rfl, fun w => ?_⟩) ?_
      · go_simp
      refine wpAny_take (i := 23) (v := (.slice (some ⟨g, 0, none⟩) (n + n') c7)) rfl (by kernel_rfl) (by kernel_rfl) (by kernel_rfl) (fun _ _ _ h => h) (Or.inl ⟨by kernel_rfl, fun w => ?_⟩) ?_
      · go_simp
      refine wpAny_take (i := 24) (v := .int .i64 0) rfl (by kernel_rfl) (by kernel_rfl) (by kernel_rfl) (fun _ _ _ h => h) (Or.inl ⟨by kernel_rfl, fun w => ?_⟩) ?_
      · go_simp
      refine wpAny_take (i := 25) (v := .slice (some ⟨g, 0, none⟩) (n + n' - 0) (c7 - 0)) rfl (by kernel_rfl) (by kernel_rfl) (by kernel_rfl) (fun _ _ _ h => h) (Or.inl ⟨by kernel_rfl, fun w => ?_⟩) ?_
      · go_simp
      refine wpAny_take (i := 28) (v := .int .u32 J) rfl (by kernel_rfl) (by kernel_rfl) (by kernel_rfl) (fun _ _ _ h => h) (Or.inl ⟨by kernel_rfl, fun w => ?_⟩) ?_
      · go_simp
      refine wpAny_ready (rs := [26]) (by kernel_rfl) (by simp) ?_
      refine AllReady.cons rfl (fun K hK => ?_) AllReady.nil
      go_simp
      refine hK _ _ ?_
      clear hK K
      refine wpAny_ready (rs := [27]) (by kernel_rfl) (by simp) ?_
      refine AllReady.cons rfl (fun K hK => ?_) AllReady.nil
      go_simp
      refine (sum_as _ 2 _ [(l ++ l').take (0), (l ++ l').drop (0)] J _ (Prs.two c7 (c7 - 0) 22 (HYD.out.take (0) (by omega)) (HYD.out.drop2 (0) _ (by omega) (by omega)) (by omega) (by omega)) (by omega) (by rw [HJ.out]; simp)).mono ?_
      rintro e wE ⟨rfl, hb⟩
      have HBE := Lib.hid (HBD.out.trans ((((Below.refl wD.heap.size wD).alloc (Nat.le_refl _) _).trans (hb.mono (by simp))).mono HBD.out.size))
      clear hb
      refine hK _ _ ?_
      clear hK K
      refine wpAny_ready (rs := [29]) (by kernel_rfl) (by simp) ?_
      refine AllReady.cons rfl (fun K hK => ?_) AllReady.nil
      go_simp
      refine hK _ _ ?_
      clear hK K
      refine wpAny_ready (rs := [30]) (by kernel_rfl) (by simp) ?_
      refine AllReady.cons rfl (fun K hK => ?_) AllReady.nil
      go_simp
      refine hK _ _ ?_
      clear hK K
      refine wpAny_ready (rs := [31]) (by kernel_rfl) (by simp) ?_
      refine AllReady.cons rfl (fun K hK => ?_) AllReady.nil
      go_simp
      refine hK _ _ ?_
      clear hK K
      refine wpAny_ready (rs := [32]) (by kernel_rfl) (by simp) ?_
      refine AllReady.cons rfl (fun K hK => ?_) AllReady.nil
      go_simp
      refine (works_c _).mono ?_
      rintro e wF ⟨rfl, hb⟩
      have HBF := Lib.hid (HBE.out.trans (hb.mono HBE.out.size))
      clear hb
      refine hK _ _ ?_
      clear hK K
      refine wpAny_ready (rs := [33]) (by kernel_rfl) (by simp) ?_
      refine AllReady.cons rfl (fun K hK => ?_) AllReady.nil
      go_simp
      refine hK _ _ ?_
      clear hK K
      refine wpAny_ready (rs := [34]) (by kernel_rfl) (by simp) ?_
      refine AllReady.cons rfl (fun K hK => ?_) AllReady.nil
      go_simp
      refine hK _ _ ?_
      clear hK K
      refine wpAny_done (by kernel_rfl) ?_ _
      go_wp2_with fail
      go_ret
      exact ⟨rfl, HBF.out⟩
    · obtain ⟨M, rfl⟩ : ∃ M : Nat, cut = M := ⟨cut.toNat, by omega⟩
      go_wp2_with fail
      refine wp_region_any (by kernel_rfl) ?_
      change wpAny _ _ _ _ _ _ _ (World.drew _)
      generalize w5.drew = wA at HBA HYA ⊢
      have z0 : c7 ≠ M := by omega
      have z1 : ¬ c7 < M := by omega
      have z2 : ¬ n + n' < M := by omega
      have z3 : ¬ (c7 : Int) < M := by omega
      have z4 : ¬ (n : Int) + n' < M := by omega
      have z5 : c7 - M ≠ 0 := by omega
      refine wpAny_take (i := 0) (v := .int .i64 0) rfl (by kernel_rfl) (by kernel_rfl) (by kernel_rfl) (fun _ _ _ h => h) (Or.inl ⟨by kernel_rfl, fun w => ?_⟩) ?_
      · go_simp
      refine wpAny_ready (rs := [1]) (by kernel_rfl) (by simp) ?_
      refine AllReady.cons rfl (fun K hK => ?_) AllReady.nil
      go_simp
      refine (num_c _ _).mono ?_
      rintro e w' ⟨rfl, rfl⟩
      refine hK _ _ ?_
      clear hK K
      refine wpAny_ready (rs := [2]) (by kernel_rfl) (by simp) ?_
      refine AllReady.cons rfl (fun K hK => ?_) AllReady.nil
      go_simp
      refine hK _ _ ?_
      clear hK K
      refine wpAny_ready (rs := [3]) (by kernel_rfl) (by simp) ?_
      refine AllReady.cons rfl (fun K hK => ?_) AllReady.nil
      go_simp
      refine hK _ _ ?_
      clear hK K
      refine wpAny_take (i := 4) (v := .int .u32 J) rfl (by kernel_rfl) (by kernel_rfl) (by kernel_rfl) (fun _ _ _ h => h) (Or.inl ⟨by kernel_rfl, fun w => ?_⟩) ?_
      · go_simp
      refine wpAny_take (i := 5) (v := (.slice (some ⟨g, 0, none⟩) (n + n') c7)) rfl (by kernel_rfl) (by kernel_rfl) (by kernel_rfl) (fun _ _ _ h => h) (Or.inl ⟨by kernel_rfl, fun w => ?_⟩) ?_
      · go_simp
      refine wpAny_ready (rs := [6]) (by kernel_rfl) (by simp) ?_
      refine AllReady.cons rfl (fun K hK => ?_) AllReady.nil
      go_simp
      refine hK _ _ ?_
      clear hK K
      refine wpAny_ready (rs := [7]) (by kernel_rfl) (by simp) ?_
      refine AllReady.cons rfl (fun K hK => ?_) AllReady.nil
      go_simp
      refine (sum_as _ 1 _ [l ++ l'] J _ (Prs.one c7 22 HYA.out (by omega)) (by omega) (by rw [HJ.out]; simp)).mono ?_
      rintro e wB ⟨rfl, hb⟩
      have hb' := ((Below.refl wA.heap.size wA).alloc (Nat.le_refl _) (.cells #[.slice (some ⟨g, 0, none⟩) (n + n') c7] 22)).trans (hb.mono (by simp))
      have HBB := Lib.hid (HBA.out.trans (hb'.mono HBA.out.size))
      have HYB := Lib.hid (HYA.out.below hb')
      clear hb hb' HBA HYA
      refine hK _ _ ?_
      clear hK K
      refine wpAny_ready (rs := [8]) (by kernel_rfl) (by simp) ?_
      refine AllReady.cons rfl (fun K hK => ?_) AllReady.nil
      go_simp
      refine hK _ _ ?_
      clear hK K
      refine wpAny_ready (rs := [9]) (by kernel_rfl) (by simp) ?_
      refine AllReady.cons rfl (fun K hK => ?_) AllReady.nil
      go_simp
      refine hK _ _ ?_
      clear hK K
      refine wpAny_ready (rs := [10]) (by kernel_rfl) (by simp) ?_
      refine AllReady.cons rfl (fun K hK => ?_) AllReady.nil
      go_simp
      refine hK _ _ ?_
      clear hK K
      refine wpAny_take (i := 11) (v := .slice a n c) rfl (by kernel_rfl) (by kernel_rfl) (by kernel_rfl) (fun _ _ _ h => h) (Or.inl ⟨by kernel_rfl, fun w => ?_⟩) ?_
      · go_simp
      refine wpAny_take (i := 14) (v := .slice a' n' c') rfl (by kernel_rfl) (by kernel_rfl) (by kernel_rfl) (fun _ _ _ h => h) (Or.inl ⟨by kernel_rfl, fun w => ?_⟩) ?_
      · go_simp
      refine wpAny_take (i := 16) (v := .int .u32 J) rfl (by kernel_rfl) (by kernel_rfl) (by kernel_rfl) (fun _ _ _ h => h) (Or.inl ⟨by kernel_rfl, fun w => ?_⟩) ?_
      · go_simp
      refine wpAny_ready (rs := [12]) (by kernel_rfl) (by simp) ?_
      refine AllReady.cons rfl (fun K hK => ?_) AllReady.nil
      go_simp
      refine hK _ _ ?_
      clear hK K
      refine wpAny_ready (rs := [13]) (by kernel_rfl) (by simp) ?_
      refine AllReady.cons rfl (fun K hK => ?_) AllReady.nil
      go_simp
      refine (sum_as _ 1 _ [l] SA _ (Prs.one c 22 (H.out.below HBB.out) (by omega)) (by omega) (by rw [HSA.out]; simp)).mono ?_
      rintro e wC ⟨rfl, hb⟩
      have hb' := ((Below.refl wB.heap.size wB).alloc (Nat.le_refl _) (.cells #[.slice a n c] 22)).trans (hb.mono (by simp))
      have HBC := Lib.hid (HBB.out.trans (hb'.mono HBB.out.size))
      have HYC := Lib.hid (HYB.out.below hb')
      clear hb hb' HBB HYB
      refine hK _ _ ?_
      clear hK K
      refine wpAny_ready (rs := [15]) (by kernel_rfl) (by simp) ?_
      refine AllReady.cons rfl (fun K hK => ?_) AllReady.nil
      go_simp
      refine (more_as (sumB l) SA J a' n' c' l' _ (H'.out.below HBC.out) (by omega) HSA.out (by rw [HJ.out]; rw [sum_more, sum_more, more_append])).mono ?_
      rintro e wD ⟨rfl, hb⟩
      have HBD := Lib.hid (HBC.out.trans (hb.mono HBC.out.size))
      have HYD := Lib.hid (HYC.out.below hb)
      clear hb HBC HYC
      refine hK _ _ ?_
      clear hK K
      refine wpAny_ready (rs := [17]) (by kernel_rfl) (by simp) ?_
      refine AllReady.cons rfl (fun K hK => ?_) AllReady.nil
      go_simp
      refine hK _ _ ?_
      clear hK K
      refine wpAny_ready (rs := [18]) (by kernel_rfl) (by simp) ?_
      refine AllReady.cons rfl (fun K hK => ?_) AllReady.nil
      go_simp
      refine hK _ _ ?_
      clear hK K
      refine wpAny_ready (rs := [19]) (by kernel_rfl) (by simp) ?_
      refine AllReady.cons rfl (fun K hK => ?_) AllReady.nil
      go_simp
      refine hK _ _ ?_
      clear hK K
      refine wpAny_take (i := 20) (v := (.slice (some ⟨g, 0, none⟩) (n + n') c7)) rfl (by kernel_rfl) (by kernel_rfl) (by kernel_rfl) (fun _ _ _ h => h) (Or.inl ⟨by kernel_rfl, fun w => ?_⟩) ?_
      · go_simp
      refine wpAny_take (i := 21) (v := .int .i64 (M : Int)) rfl (by kernel_rfl) (by kernel_rfl) (by kernel_rfl) (fun _ _ _ h => h) (Or.inl ⟨by kernel_rfl, fun w => ?_⟩) ?_
      · go_simp
      refine wpAny_take (i := 22) (v := .slice (some ⟨g, 0, none⟩) M c7) rfl (by kernel_rfl) (by kernel_rfl) (by kernel_rfl) (fun _ _ _ h => h) (Or.inl ⟨by kernel_rfl, fun w => ?_⟩) ?_
      · go_simp
      refine wpAny_take (i := 23) (v := (.slice (some ⟨g, 0, none⟩) (n + n') c7)) rfl (by kernel_rfl) (by kernel_rfl) (by kernel_rfl) (fun _ _ _ h => h) (Or.inl ⟨by kernel_rfl, fun w => ?_⟩) ?_
      · go_simp
      refine wpAny_take (i := 24) (v := .int .i64 (M : Int)) rfl (by kernel_rfl) (by kernel_rfl) (by kernel_rfl) (fun _ _ _ h => h) (Or.inl ⟨by kernel_rfl, fun w => ?_⟩) ?_
      · go_simp
      refine wpAny_take (i := 25) (v := .slice (some ⟨g, M, none⟩) (n + n' - M) (c7 - M)) rfl (by kernel_rfl) (by kernel_rfl) (by kernel_rfl) (fun _ _ _ h => h) (Or.inl ⟨by kernel_rfl, fun w => ?_⟩) ?_
      · go_simp
      refine wpAny_take (i := 28) (v := .int .u32 J) rfl (by kernel_rfl) (by kernel_rfl) (by kernel_rfl) (fun _ _ _ h => h) (Or.inl ⟨by kernel_rfl, fun w => ?_⟩) ?_
      · go_simp
      refine wpAny_ready (rs := [26]) (by kernel_rfl) (by simp) ?_
      refine AllReady.cons rfl (fun K hK => ?_) AllReady.nil
      go_simp
      refine hK _ _ ?_
      clear hK K
      refine wpAny_ready (rs := [27]) (by kernel_rfl) (by simp) ?_
      refine AllReady.cons rfl (fun K hK => ?_) AllReady.nil
      go_simp
      refine (sum_as _ 2 _ [(l ++ l').take (M), (l ++ l').drop (M)] J _ (Prs.two c7 (c7 - M) 22 (HYD.out.take (M) (by omega)) (HYD.out.drop2 (M) _ (by omega) (by omega)) (by omega) (by omega)) (by omega) (by rw [HJ.out]; simp)).mono ?_
      rintro e wE ⟨rfl, hb⟩
      have HBE := Lib.hid (HBD.out.trans ((((Below.refl wD.heap.size wD).alloc (Nat.le_refl _) _).trans (hb.mono (by simp))).mono HBD.out.size))
      clear hb
      refine hK _ _ ?_
      clear hK K
      refine wpAny_ready (rs := [29]) (by kernel_rfl) (by simp) ?_
      refine AllReady.cons rfl (fun K hK => ?_) AllReady.nil
      go_simp
      refine hK _ _ ?_
      clear hK K
      refine wpAny_ready (rs := [30]) (by kernel_rfl) (by simp) ?_
      refine AllReady.cons rfl (fun K hK => ?_) AllReady.nil
      go_simp
      refine hK _ _ ?_
      clear hK K
      refine wpAny_ready (rs := [31]) (by kernel_rfl) (by simp) ?_
      refine AllReady.cons rfl (fun K hK => ?_) AllReady.nil
      go_simp
      refine hK _ _ ?_
      clear hK K
      refine wpAny_ready (rs := [32]) (by kernel_rfl) (by simp) ?_
      refine AllReady.cons rfl (fun K hK => ?_) AllReady.nil
      go_simp
      refine (works_c _).mono ?_
      rintro e wF ⟨rfl, hb⟩
      have HBF := Lib.hid (HBE.out.trans (hb.mono HBE.out.size))
      clear hb
      refine hK _ _ ?_
      clear hK K
      refine wpAny_ready (rs := [33]) (by kernel_rfl) (by simp) ?_
      refine AllReady.cons rfl (fun K hK => ?_) AllReady.nil
      go_simp
      refine hK _ _ ?_
      clear hK K
      refine wpAny_ready (rs := [34]) (by kernel_rfl) (by simp) ?_
      refine AllReady.cons rfl (fun K hK => ?_) AllReady.nil
      go_simp
      refine hK _ _ ?_
      clear hK K
      refine wpAny_done (by kernel_rfl) ?_ _
      go_wp2_with fail
      go_ret
      exact ⟨rfl, HBF.out⟩
    · have y3 : n = 0 := by omega
      have y4 : n' = 0 := by omega
      subst y3; subst y4
      go_wp2_with fail
      refine wp_region_any (by kernel_rfl) ?_
      change wpAny _ _ _ _ _ _ _ (World.drew _)
      generalize w5.drew = wA at HBA HYA ⊢
      refine wpAny_take (i := 0) (v := .int .i64 0) rfl (by kernel_rfl) (by kernel_rfl) (by kernel_rfl) (fun _ _ _ h => h) (Or.inl ⟨by kernel_rfl, fun w => ?_⟩) ?_
      · go_simp
      refine wpAny_ready (rs := [1]) (by kernel_rfl) (by simp) ?_
      refine AllReady.cons rfl (fun K hK => ?_) AllReady.nil
      go_simp
      refine (num_c _ _).mono ?_
      rintro e w' ⟨rfl, rfl⟩
      refine hK _ _ ?_
      clear hK K
      refine wpAny_ready (rs := [2]) (by kernel_rfl) (by simp) ?_
      refine AllReady.cons rfl (fun K hK => ?_) AllReady.nil
      go_simp
      refine hK _ _ ?_
      clear hK K
      refine wpAny_ready (rs := [3]) (by kernel_rfl) (by simp) ?_
      refine AllReady.cons rfl (fun K hK => ?_) AllReady.nil
      go_simp
      refine hK _ _ ?_
      clear hK K
      refine wpAny_take (i := 4) (v := .int .u32 J) rfl (by kernel_rfl) (by kernel_rfl) (by kernel_rfl) (fun _ _ _ h => h) (Or.inl ⟨by kernel_rfl, fun w => ?_⟩) ?_
      · go_simp
      refine wpAny_take (i := 5) (v := (.slice (some ⟨g, 0, none⟩) (0 + 0) c7)) rfl (by kernel_rfl) (by kernel_rfl) (by kernel_rfl) (fun _ _ _ h => h) (Or.inl ⟨by kernel_rfl, fun w => ?_⟩) ?_
      · go_simp
      refine wpAny_ready (rs := [6]) (by kernel_rfl) (by simp) ?_
      refine AllReady.cons rfl (fun K hK => ?_) AllReady.nil
      go_simp
      refine hK _ _ ?_
      clear hK K
      refine wpAny_ready (rs := [7]) (by kernel_rfl) (by simp) ?_
      refine AllReady.cons rfl (fun K hK => ?_) AllReady.nil
      go_simp
      refine (sum_as _ 1 _ [l ++ l'] J _ (Prs.one c7 22 HYA.out (by omega)) (by omega) (by rw [HJ.out]; simp)).mono ?_
      rintro e wB ⟨rfl, hb⟩
      have hb' := ((Below.refl wA.heap.size wA).alloc (Nat.le_refl _) (.cells #[.slice (some ⟨g, 0, none⟩) (0 + 0) c7] 22)).trans (hb.mono (by simp))
      have HBB := Lib.hid (HBA.out.trans (hb'.mono HBA.out.size))
      have HYB := Lib.hid (HYA.out.below hb')
      clear hb hb' HBA HYA
      refine hK _ _ ?_
      clear hK K
      refine wpAny_ready (rs := [8]) (by kernel_rfl) (by simp) ?_
      refine AllReady.cons rfl (fun K hK => ?_) AllReady.nil
      go_simp
      refine hK _ _ ?_
      clear hK K
      refine wpAny_ready (rs := [9]) (by kernel_rfl) (by simp) ?_
      refine AllReady.cons rfl (fun K hK => ?_) AllReady.nil
      go_simp
      refine hK _ _ ?_
      clear hK K
      refine wpAny_ready (rs := [10]) (by kernel_rfl) (by simp) ?_
      refine AllReady.cons rfl (fun K hK => ?_) AllReady.nil
      go_simp
      refine hK _ _ ?_
      clear hK K
      refine wpAny_take (i := 11) (v := .slice a 0 c) rfl (by kernel_rfl) (by kernel_rfl) (by kernel_rfl) (fun _ _ _ h => h) (Or.inl ⟨by kernel_rfl, fun w => ?_⟩) ?_
      · go_simp
      refine wpAny_take (i := 14) (v := .slice a' 0 c') rfl (by kernel_rfl) (by kernel_rfl) (by kernel_rfl) (fun _ _ _ h => h) (Or.inl ⟨by kernel_rfl, fun w => ?_⟩) ?_
      · go_simp
      refine wpAny_take (i := 16) (v := .int .u32 J) rfl (by kernel_rfl) (by kernel_rfl) (by kernel_rfl) (fun _ _ _ h => h) (Or.inl ⟨by kernel_rfl, fun w => ?_⟩) ?_
      · go_simp
      refine wpAny_ready (rs := [12]) (by kernel_rfl) (by simp) ?_
      refine AllReady.cons rfl (fun K hK => ?_) AllReady.nil
      go_simp
      refine hK _ _ ?_
      clear hK K
      refine wpAny_ready (rs := [13]) (by kernel_rfl) (by simp) ?_
      refine AllReady.cons rfl (fun K hK => ?_) AllReady.nil
      go_simp
      refine (sum_as _ 1 _ [l] SA _ (Prs.one c 22 (H.out.below HBB.out) (by omega)) (by omega) (by rw [HSA.out]; simp)).mono ?_
      rintro e wC ⟨rfl, hb⟩
      have hb' := ((Below.refl wB.heap.size wB).alloc (Nat.le_refl _) (.cells #[.slice a 0 c] 22)).trans (hb.mono (by simp))
      have HBC := Lib.hid (HBB.out.trans (hb'.mono HBB.out.size))
      have HYC := Lib.hid (HYB.out.below hb')
      clear hb hb' HBB HYB
      refine hK _ _ ?_
      clear hK K
      refine wpAny_ready (rs := [15]) (by kernel_rfl) (by simp) ?_
      refine AllReady.cons rfl (fun K hK => ?_) AllReady.nil
      go_simp
      refine (more_as (sumB l) SA J a' 0 c' l' _ (H'.out.below HBC.out) (by omega) HSA.out (by rw [HJ.out]; rw [sum_more, sum_more, more_append])).mono ?_
      rintro e wD ⟨rfl, hb⟩
      have HBD := Lib.hid (HBC.out.trans (hb.mono HBC.out.size))
      have HYD := Lib.hid (HYC.out.below hb)
      clear hb HBC HYC
      refine hK _ _ ?_
      clear hK K
      refine wpAny_ready (rs := [17]) (by kernel_rfl) (by simp) ?_
      refine AllReady.cons rfl (fun K hK => ?_) AllReady.nil
      go_simp
      refine hK _ _ ?_
      clear hK K
      refine wpAny_ready (rs := [18]) (by kernel_rfl) (by simp) ?_
      refine AllReady.cons rfl (fun K hK => ?_) AllReady.nil
      go_simp
      refine hK _ _ ?_
      clear hK K
      refine wpAny_ready (rs := [19]) (by kernel_rfl) (by simp) ?_
      refine AllReady.cons rfl (fun K hK => ?_) AllReady.nil
      go_simp
      refine hK _ _ ?_
      clear hK K
      refine wpAny_take (i := 20) (v := (.slice (some ⟨g, 0, none⟩) (0 + 0) c7)) rfl (by kernel_rfl) (by kernel_rfl) (by kernel_rfl) (fun _ _ _ h => h) (Or.inl ⟨by kernel_rfl, fun w => ?_⟩) ?_
      · go_simp
      refine wpAny_take (i := 21) (v := .int .i64 0) rfl (by kernel_rfl) (by kernel_rfl) (by kernel_rfl) (fun _ _ _ h => h) (Or.inl ⟨by kernel_rfl, fun w => ?_⟩) ?_
      · go_simp
      refine wpAny_take (i := 22) (v := .slice (some ⟨g, 0, none⟩) 0 c7) rfl (by kernel_rfl) (by kernel_rfl) (by kernel_rfl) (fun _ _ _ h => h) (Or.inl ⟨by kernel_rfl, fun w => ?_⟩) ?_
      · go_simp
      refine wpAny_take (i := 23) (v := (.slice (some ⟨g, 0, none⟩) (0 + 0) c7)) rfl (by kernel_rfl) (by kernel_rfl) (by kernel_rfl) (fun _ _ _ h => h) (Or.inl ⟨by kernel_rfl, fun w => ?_⟩) ?_
      · go_simp
      refine wpAny_take (i := 24) (v := .int .i64 0) rfl (by kernel_rfl) (by kernel_rfl) (by kernel_rfl) (fun _ _ _ h => h) (Or.inl ⟨by kernel_rfl, fun w => ?_⟩) ?_
      · go_simp
      refine wpAny_take (i := 25) (v := .slice (some ⟨g, 0, none⟩) (0 + 0 - 0) (c7 - 0)) rfl (by kernel_rfl) (by kernel_rfl) (by kernel_rfl) (fun _ _ _ h => h) (Or.inl ⟨by kernel_rfl, fun w => ?_⟩) ?_
      · go_simp
      refine wpAny_take (i := 28) (v := .int .u32 J) rfl (by kernel_rfl) (by kernel_rfl) (by kernel_rfl) (fun _ _ _ h => h) (Or.inl ⟨by kernel_rfl, fun w => ?_⟩) ?_
      · go_simp
      refine wpAny_ready (rs := [26]) (by kernel_rfl) (by simp) ?_
      refine AllReady.cons rfl (fun K hK => ?_) AllReady.nil
      go_simp
      refine hK _ _ ?_
      clear hK K
      refine wpAny_ready (rs := [27]) (by kernel_rfl) (by simp) ?_
      refine AllReady.cons rfl (fun K hK => ?_) AllReady.nil
      go_simp
      refine (sum_as _ 2 _ [(l ++ l').take (0), (l ++ l').drop (0)] J _ (Prs.two c7 (c7 - 0) 22 (HYD.out.take (0) (by omega)) (HYD.out.drop2 (0) _ (by omega) (by omega)) (by omega) (by omega)) (by omega) (by rw [HJ.out]; simp)).mono ?_
      rintro e wE ⟨rfl, hb⟩
      have HBE := Lib.hid (HBD.out.trans ((((Below.refl wD.heap.size wD).alloc (Nat.le_refl _) _).trans (hb.mono (by simp))).mono HBD.out.size))
      clear hb
      refine hK _ _ ?_
      clear hK K
      refine wpAny_ready (rs := [29]) (by kernel_rfl) (by simp) ?_
      refine AllReady.cons rfl (fun K hK => ?_) AllReady.nil
      go_simp
      refine hK _ _ ?_
      clear hK K
      refine wpAny_ready (rs := [30]) (by kernel_rfl) (by simp) ?_
      refine AllReady.cons rfl (fun K hK => ?_) AllReady.nil
      go_simp
      refine hK _ _ ?_
      clear hK K
      refine wpAny_ready (rs := [31]) (by kernel_rfl) (by simp) ?_
      refine AllReady.cons rfl (fun K hK => ?_) AllReady.nil
      go_simp
      refine hK _ _ ?_
      clear hK K
      refine wpAny_ready (rs := [32]) (by kernel_rfl) (by simp) ?_
      refine AllReady.cons rfl (fun K hK => ?_) AllReady.nil
      go_simp
      refine (works_c _).mono ?_
      rintro e wF ⟨rfl, hb⟩
      have HBF := Lib.hid (HBE.out.trans (hb.mono HBE.out.size))
      clear hb
      refine hK _ _ ?_
      clear hK K
      refine wpAny_ready (rs := [33]) (by kernel_rfl) (by simp) ?_
      refine AllReady.cons rfl (fun K hK => ?_) AllReady.nil
      go_simp
      refine hK _ _ ?_
      clear hK K
      refine wpAny_ready (rs := [34]) (by kernel_rfl) (by simp) ?_
      refine AllReady.cons rfl (fun K hK => ?_) AllReady.nil
      go_simp
      refine hK _ _ ?_
      clear hK K
      refine wpAny_done (by kernel_rfl) ?_ _
      go_wp2_with fail
      go_ret
      exact ⟨rfl, HBF.out⟩
    · subst x3
      go_wp2_with fail
      refine wp_region_any (by kernel_rfl) ?_
      change wpAny _ _ _ _ _ _ _ (World.drew _)
      generalize w5.drew = wA at HBA HYA ⊢
      have z4 : ¬ ((n : Int) + n' < 0) := by omega
      have z7 : 0 ≤ (n : Int) + n' := by omega
      have z8 : ((n : Int) + n').toNat = n + n' := by omega
      refine wpAny_take (i := 0) (v := .int .i64 0) rfl (by kernel_rfl) (by kernel_rfl) (by kernel_rfl) (fun _ _ _ h => h) (Or.inl ⟨by kernel_rfl, fun w => ?_⟩) ?_
      · go_simp
      refine wpAny_ready (rs := [1]) (by kernel_rfl) (by simp) ?_
      refine AllReady.cons rfl (fun K hK => ?_) AllReady.nil
      go_simp
      refine (num_c _ _).mono ?_
      rintro e w' ⟨rfl, rfl⟩
      refine hK _ _ ?_
      clear hK K
      refine wpAny_ready (rs := [2]) (by kernel_rfl) (by simp) ?_
      refine AllReady.cons rfl (fun K hK => ?_) AllReady.nil
      go_simp
      refine hK _ _ ?_
      clear hK K
      refine wpAny_ready (rs := [3]) (by kernel_rfl) (by simp) ?_
      refine AllReady.cons rfl (fun K hK => ?_) AllReady.nil
      go_simp
      refine hK _ _ ?_
      clear hK K
      refine wpAny_take (i := 4) (v := .int .u32 J) rfl (by kernel_rfl) (by kernel_rfl) (by kernel_rfl) (fun _ _ _ h => h) (Or.inl ⟨by kernel_rfl, fun w => ?_⟩) ?_
      · go_simp
      refine wpAny_take (i := 5) (v := (.slice (some ⟨g, 0, none⟩) (n + n') (n + n'))) rfl (by kernel_rfl) (by kernel_rfl) (by kernel_rfl) (fun _ _ _ h => h) (Or.inl ⟨by kernel_rfl, fun w => ?_⟩) ?_
      · go_simp
      refine wpAny_ready (rs := [6]) (by kernel_rfl) (by simp) ?_
      refine AllReady.cons rfl (fun K hK => ?_) AllReady.nil
      go_simp
      refine hK _ _ ?_
      clear hK K
      refine wpAny_ready (rs := [7]) (by kernel_rfl) (by simp) ?_
      refine AllReady.cons rfl (fun K hK => ?_) AllReady.nil
      go_simp
      refine (sum_as _ 1 _ [l ++ l'] J _ (Prs.one (n + n') 22 HYA.out (by omega)) (by omega) (by rw [HJ.out]; simp)).mono ?_
      rintro e wB ⟨rfl, hb⟩
      have hb' := ((Below.refl wA.heap.size wA).alloc (Nat.le_refl _) (.cells #[.slice (some ⟨g, 0, none⟩) (n + n') (n + n')] 22)).trans (hb.mono (by simp))
      have HBB := Lib.hid (HBA.out.trans (hb'.mono HBA.out.size))
      have HYB := Lib.hid (HYA.out.below hb')
      clear hb hb' HBA HYA
      refine hK _ _ ?_
      clear hK K
      refine wpAny_ready (rs := [8]) (by kernel_rfl) (by simp) ?_
      refine AllReady.cons rfl (fun K hK => ?_) AllReady.nil
      go_simp
      refine hK _ _ ?_
      clear hK K
      refine wpAny_ready (rs := [9]) (by kernel_rfl) (by simp) ?_
      refine AllReady.cons rfl (fun K hK => ?_) AllReady.nil
      go_simp
      refine hK _ _ ?_
      clear hK K
      refine wpAny_ready (rs := [10]) (by kernel_rfl) (by simp) ?_
      refine AllReady.cons rfl (fun K hK => ?_) AllReady.nil
      go_simp
      refine hK _ _ ?_
      clear hK K
      refine wpAny_take (i := 11) (v := .slice a n c) rfl (by kernel_rfl) (by kernel_rfl) (by kernel_rfl) (fun _ _ _ h => h) (Or.inl ⟨by kernel_rfl, fun w => ?_⟩) ?_
      · go_simp
      refine wpAny_take (i := 14) (v := .slice a' n' c') rfl (by kernel_rfl) (by kernel_rfl) (by kernel_rfl) (fun _ _ _ h => h) (Or.inl ⟨by kernel_rfl, fun w => ?_⟩) ?_
      · go_simp
      refine wpAny_take (i := 16) (v := .int .u32 J) rfl (by kernel_rfl) (by kernel_rfl) (by kernel_rfl) (fun _ _ _ h => h) (Or.inl ⟨by kernel_rfl, fun w => ?_⟩) ?_
      · go_simp
      refine wpAny_ready (rs := [12]) (by kernel_rfl) (by simp) ?_
      refine AllReady.cons rfl (fun K hK => ?_) AllReady.nil
      go_simp
      refine hK _ _ ?_
      clear hK K
      refine wpAny_ready (rs := [13]) (by kernel_rfl) (by simp) ?_
      refine AllReady.cons rfl (fun K hK => ?_) AllReady.nil
      go_simp
      refine (sum_as _ 1 _ [l] SA _ (Prs.one c 22 (H.out.below HBB.out) (by omega)) (by omega) (by rw [HSA.out]; simp)).mono ?_
      rintro e wC ⟨rfl, hb⟩
      have hb' := ((Below.refl wB.heap.size wB).alloc (Nat.le_refl _) (.cells #[.slice a n c] 22)).trans (hb.mono (by simp))
      have HBC := Lib.hid (HBB.out.trans (hb'.mono HBB.out.size))
      have HYC := Lib.hid (HYB.out.below hb')
      clear hb hb' HBB HYB
      refine hK _ _ ?_
      clear hK K
      refine wpAny_ready (rs := [15]) (by kernel_rfl) (by simp) ?_
      refine AllReady.cons rfl (fun K hK => ?_) AllReady.nil
      go_simp
      refine (more_as (sumB l) SA J a' n' c' l' _ (H'.out.below HBC.out) (by omega) HSA.out (by rw [HJ.out]; rw [sum_more, sum_more, more_append])).mono ?_
      rintro e wD ⟨rfl, hb⟩
      have HBD := Lib.hid (HBC.out.trans (hb.mono HBC.out.size))
      have HYD := Lib.hid (HYC.out.below hb)
      clear hb HBC HYC
      refine hK _ _ ?_
      clear hK K
      refine wpAny_ready (rs := [17]) (by kernel_rfl) (by simp) ?_
      refine AllReady.cons rfl (fun K hK => ?_) AllReady.nil
      go_simp
      refine hK _ _ ?_
      clear hK K
      refine wpAny_ready (rs := [18]) (by kernel_rfl) (by simp) ?_
      refine AllReady.cons rfl (fun K hK => ?_) AllReady.nil
      go_simp
      refine hK _ _ ?_
      clear hK K
      refine wpAny_ready (rs := [19]) (by kernel_rfl) (by simp) ?_
      refine AllReady.cons rfl (fun K hK => ?_) AllReady.nil
      go_simp
      refine hK _ _ ?_
      clear hK K
      refine wpAny_take (i := 20) (v := (.slice (some ⟨g, 0, none⟩) (n + n') (n + n'))) rfl (by kernel_rfl) (by kernel_rfl) (by kernel_rfl) (fun _ _ _ h => h) (Or.inl ⟨by kernel_rfl, fun w => ?_⟩) ?_
      · go_simp
      refine wpAny_take (i := 21) (v := .int .i64 ((n : Int) + n')) rfl (by kernel_rfl) (by kernel_rfl) (by kernel_rfl) (fun _ _ _ h => h) (Or.inl ⟨by kernel_rfl, fun w => ?_⟩) ?_
      · go_simp
      refine wpAny_take (i := 22) (v := .slice (some ⟨g, 0, none⟩) (n + n') (n + n')) rfl (by kernel_rfl) (by kernel_rfl) (by kernel_rfl) (fun _ _ _ h => h) (Or.inl ⟨by kernel_rfl, fun w => ?_⟩) ?_
      · go_simp
      refine wpAny_take (i := 23) (v := (.slice (some ⟨g, 0, none⟩) (n + n') (n + n'))) rfl (by kernel_rfl) (by kernel_rfl) (by kernel_rfl) (fun _ _ _ h => h) (Or.inl ⟨by kernel_rfl, fun w => ?_⟩) ?_
      · go_simp
      refine wpAny_take (i := 24) (v := .int .i64 ((n : Int) + n')) rfl (by kernel_rfl) (by kernel_rfl) (by kernel_rfl) (fun _ _ _ h => h) (Or.inl ⟨by kernel_rfl, fun w => ?_⟩) ?_
      · go_simp
      refine wpAny_take (i := 25) (v := .slice (some ⟨g, 0, none⟩) (n + n' - (n + n')) ((n + n') - (n + n'))) rfl (by kernel_rfl) (by kernel_rfl) (by kernel_rfl) (fun _ _ _ h => h) (Or.inl ⟨by kernel_rfl, fun w => ?_⟩) ?_
      · go_simp
      refine wpAny_take (i := 28) (v := .int .u32 J) rfl (by kernel_rfl) (by kernel_rfl) (by kernel_rfl) (fun _ _ _ h => h) (Or.inl ⟨by kernel_rfl, fun w => ?_⟩) ?_
      · go_simp
      refine wpAny_ready (rs := [26]) (by kernel_rfl) (by simp) ?_
      refine AllReady.cons rfl (fun K hK => ?_) AllReady.nil
      go_simp
      refine hK _ _ ?_
      clear hK K
      refine wpAny_ready (rs := [27]) (by kernel_rfl) (by simp) ?_
      refine AllReady.cons rfl (fun K hK => ?_) AllReady.nil
      go_simp
      have hd0 : Bys wD (some ⟨g, 0, none⟩) 0 ((l ++ l').drop ((n + n'))) := by have := HYD.out.drop2 ((n + n')) (0) (by omega) (by omega); rwa [Nat.sub_self] at this
      refine (sum_as _ 2 _ [(l ++ l').take ((n + n')), (l ++ l').drop ((n + n'))] J _ (Prs.two (n + n') (0) 22 (HYD.out.take ((n + n')) (by omega)) (hd0) (by omega) (by omega)) (by omega) (by rw [HJ.out]; simp)).mono ?_
      rintro e wE ⟨rfl, hb⟩
      have HBE := Lib.hid (HBD.out.trans ((((Below.refl wD.heap.size wD).alloc (Nat.le_refl _) _).trans (hb.mono (by simp))).mono HBD.out.size))
      clear hb
      refine hK _ _ ?_
      clear hK K
      refine wpAny_ready (rs := [29]) (by kernel_rfl) (by simp) ?_
      refine AllReady.cons rfl (fun K hK => ?_) AllReady.nil
      go_simp
      refine hK _ _ ?_
      clear hK K
      refine wpAny_ready (rs := [30]) (by kernel_rfl) (by simp) ?_
      refine AllReady.cons rfl (fun K hK => ?_) AllReady.nil
      go_simp
      refine hK _ _ ?_
      clear hK K
      refine wpAny_ready (rs := [31]) (by kernel_rfl) (by simp) ?_
      refine AllReady.cons rfl (fun K hK => ?_) AllReady.nil
      go_simp
      refine hK _ _ ?_
      clear hK K
      refine wpAny_ready (rs := [32]) (by kernel_rfl) (by simp) ?_
      refine AllReady.cons rfl (fun K hK => ?_) AllReady.nil
      go_simp
      refine (works_c _).mono ?_
      rintro e wF ⟨rfl, hb⟩
      have HBF := Lib.hid (HBE.out.trans (hb.mono HBE.out.size))
      clear hb
      refine hK _ _ ?_
      clear hK K
      refine wpAny_ready (rs := [33]) (by kernel_rfl) (by simp) ?_
      refine AllReady.cons rfl (fun K hK => ?_) AllReady.nil
      go_simp
      refine hK _ _ ?_
      clear hK K
      refine wpAny_ready (rs := [34]) (by kernel_rfl) (by simp) ?_
      refine AllReady.cons rfl (fun K hK => ?_) AllReady.nil
      go_simp
      refine hK _ _ ?_
      clear hK K
      refine wpAny_done (by kernel_rfl) ?_ _
      go_wp2_with fail
      go_ret
      exact ⟨rfl, HBF.out⟩
    · have y5 : ¬ c7 < n + n' := by omega
      go_wp2_with fail
      refine wp_region_any (by kernel_rfl) ?_
      change wpAny _ _ _ _ _ _ _ (World.drew _)
      generalize w5.drew = wA at HBA HYA ⊢
      have z4 : ¬ ((n : Int) + n' < 0) := by omega
      have z7 : 0 ≤ (n : Int) + n' := by omega
      have z8 : ((n : Int) + n').toNat = n + n' := by omega
      have z3 : ¬ (c7 : Int) < (n : Int) + n' := by omega
      have z5 : c7 - (n + n') ≠ 0 := by omega
      refine wpAny_take (i := 0) (v := .int .i64 0) rfl (by kernel_rfl) (by kernel_rfl) (by kernel_rfl) (fun _ _ _ h => h) (Or.inl ⟨by kernel_rfl, fun w => ?_⟩) ?_
      · go_simp
      refine wpAny_ready (rs := [1]) (by kernel_rfl) (by simp) ?_
      refine AllReady.cons rfl (fun K hK => ?_) AllReady.nil
      go_simp
      refine (num_c _ _).mono ?_
      rintro e w' ⟨rfl, rfl⟩
      refine hK _ _ ?_
      clear hK K
      refine wpAny_ready (rs := [2]) (by kernel_rfl) (by simp) ?_
      refine AllReady.cons rfl (fun K hK => ?_) AllReady.nil
      go_simp
      refine hK _ _ ?_
      clear hK K
      refine wpAny_ready (rs := [3]) (by kernel_rfl) (by simp) ?_
      refine AllReady.cons rfl (fun K hK => ?_) AllReady.nil
      go_simp
      refine hK _ _ ?_
      clear hK K
      refine wpAny_take (i := 4) (v := .int .u32 J) rfl (by kernel_rfl) (by kernel_rfl) (by kernel_rfl) (fun _ _ _ h => h) (Or.inl ⟨by kernel_rfl, fun w => ?_⟩) ?_
      · go_simp
      refine wpAny_take (i := 5) (v := (.slice (some ⟨g, 0, none⟩) (n + n') c7)) rfl (by kernel_rfl) (by kernel_rfl) (by kernel_rfl) (fun _ _ _ h => h) (Or.inl ⟨by kernel_rfl, fun w => ?_⟩) ?_
      · go_simp
      refine wpAny_ready (rs := [6]) (by kernel_rfl) (by simp) ?_
      refine AllReady.cons rfl (fun K hK => ?_) AllReady.nil
      go_simp
      refine hK _ _ ?_
      clear hK K
      refine wpAny_ready (rs := [7]) (by kernel_rfl) (by simp) ?_
      refine AllReady.cons rfl (fun K hK => ?_) AllReady.nil
      go_simp
      refine (sum_as _ 1 _ [l ++ l'] J _ (Prs.one c7 22 HYA.out (by omega)) (by omega) (by rw [HJ.out]; simp)).mono ?_
      rintro e wB ⟨rfl, hb⟩
      have hb' := ((Below.refl wA.heap.size wA).alloc (Nat.le_refl _) (.cells #[.slice (some ⟨g, 0, none⟩) (n + n') c7] 22)).trans (hb.mono (by simp))
      have HBB := Lib.hid (HBA.out.trans (hb'.mono HBA.out.size))
      have HYB := Lib.hid (HYA.out.below hb')
      clear hb hb' HBA HYA
      refine hK _ _ ?_
      clear hK K
      refine wpAny_ready (rs := [8]) (by kernel_rfl) (by simp) ?_
      refine AllReady.cons rfl (fun K hK => ?_) AllReady.nil
      go_simp
      refine hK _ _ ?_
      clear hK K
      refine wpAny_ready (rs := [9]) (by kernel_rfl) (by simp) ?_
      refine AllReady.cons rfl (fun K hK => ?_) AllReady.nil
      go_simp
      refine hK _ _ ?_
      clear hK K
      refine wpAny_ready (rs := [10]) (by kernel_rfl) (by simp) ?_
      refine AllReady.cons rfl (fun K hK => ?_) AllReady.nil
      go_simp
      refine hK _ _ ?_
      clear hK K
      refine wpAny_take (i := 11) (v := .slice a n c) rfl (by kernel_rfl) (by kernel_rfl) (by kernel_rfl) (fun _ _ _ h => h) (Or.inl ⟨by kernel_rfl, fun w => ?_⟩) ?_
      · go_simp
      refine wpAny_take (i := 14) (v := .slice a' n' c') rfl (by kernel_rfl) (by kernel_rfl) (by kernel_rfl) (fun _ _ _ h => h) (Or.inl ⟨by kernel_rfl, fun w => ?_⟩) ?_
      · go_simp
      refine wpAny_take (i := 16) (v := .int .u32 J) rfl (by kernel_rfl) (by kernel_rfl) (by kernel_rfl) (fun _ _ _ h => h) (Or.inl ⟨by kernel_rfl, fun w => ?_⟩) ?_
      · go_simp
      refine wpAny_ready (rs := [12]) (by kernel_rfl) (by simp) ?_
      refine AllReady.cons rfl (fun K hK => ?_) AllReady.nil
      go_simp
      refine hK _ _ ?_
      clear hK K
      refine wpAny_ready (rs := [13]) (by kernel_rfl) (by simp) ?_
      refine AllReady.cons rfl (fun K hK => ?_) AllReady.nil
      go_simp
      refine (sum_as _ 1 _ [l] SA _ (Prs.one c 22 (H.out.below HBB.out) (by omega)) (by omega) (by rw [HSA.out]; simp)).mono ?_
      rintro e wC ⟨rfl, hb⟩
      have hb' := ((Below.refl wB.heap.size wB).alloc (Nat.le_refl _) (.cells #[.slice a n c] 22)).trans (hb.mono (by simp))
      have HBC := Lib.hid (HBB.out.trans (hb'.mono HBB.out.size))
      have HYC := Lib.hid (HYB.out.below hb')
      clear hb hb' HBB HYB
      refine hK _ _ ?_
      clear hK K
      refine wpAny_ready (rs := [15]) (by kernel_rfl) (by simp) ?_
      refine AllReady.cons rfl (fun K hK => ?_) AllReady.nil
      go_simp
      refine (more_as (sumB l) SA J a' n' c' l' _ (H'.out.below HBC.out) (by omega) HSA.out (by rw [HJ.out]; rw [sum_more, sum_more, more_append])).mono ?_
      rintro e wD ⟨rfl, hb⟩
      have HBD := Lib.hid (HBC.out.trans (hb.mono HBC.out.size))
      have HYD := Lib.hid (HYC.out.below hb)
      clear hb HBC HYC
      refine hK _ _ ?_
      clear hK K
      refine wpAny_ready (rs := [17]) (by kernel_rfl) (by simp) ?_
      refine AllReady.cons rfl (fun K hK => ?_) AllReady.nil
      go_simp
      refine hK _ _ ?_
      clear hK K
      refine wpAny_ready (rs := [18]) (by kernel_rfl) (by simp) ?_
      refine AllReady.cons rfl (fun K hK => ?_) AllReady.nil
      go_simp
      refine hK _ _ ?_
      clear hK K
      refine wpAny_ready (rs := [19]) (by kernel_rfl) (by simp) ?_
      refine AllReady.cons rfl (fun K hK => ?_) AllReady.nil
      go_simp
      refine hK _ _ ?_
      clear hK K
      refine wpAny_take (i := 20) (v := (.slice (some ⟨g, 0, none⟩) (n + n') c7)) rfl (by kernel_rfl) (by kernel_rfl) (by kernel_rfl) (fun _ _ _ h => h) (Or.inl ⟨by kernel_rfl, fun w => ?_⟩) ?_
      · go_simp
      refine wpAny_take (i := 21) (v := .int .i64 ((n : Int) + n')) rfl (by kernel_rfl) (by kernel_rfl) (by kernel_rfl) (fun _ _ _ h => h) (Or.inl ⟨by kernel_rfl, fun w => ?_⟩) ?_
      · go_simp
      refine wpAny_take (i := 22) (v := .slice (some ⟨g, 0, none⟩) (n + n') c7) rfl (by kernel_rfl) (by kernel_rfl) (by kernel_rfl) (fun _ _ _ h => h) (Or.inl ⟨by kernel_rfl, fun w => ?_⟩) ?_
      · go_simp
      refine wpAny_take (i := 23) (v := (.slice (some ⟨g, 0, none⟩) (n + n') c7)) rfl (by kernel_rfl) (by kernel_rfl) (by kernel_rfl) (fun _ _ _ h => h) (Or.inl ⟨by kernel_rfl, fun w => ?_⟩) ?_
      · go_simp
      refine wpAny_take (i := 24) (v := .int .i64 ((n : Int) + n')) rfl (by kernel_rfl) (by kernel_rfl) (by kernel_rfl) (fun _ _ _ h => h) (Or.inl ⟨by kernel_rfl, fun w => ?_⟩) ?_
      · go_simp
      refine wpAny_take (i := 25) (v := .slice (some ⟨g, (n + n'), none⟩) (n + n' - (n + n')) (c7 - (n + n'))) rfl (by kernel_rfl) (by kernel_rfl) (by kernel_rfl) (fun _ _ _ h => h) (Or.inl ⟨by kernel_rfl, fun w => ?_⟩) ?_
      · go_simp
      refine wpAny_take (i := 28) (v := .int .u32 J) rfl (by kernel_rfl) (by kernel_rfl) (by kernel_rfl) (fun _ _ _ h => h) (Or.inl ⟨by kernel_rfl, fun w => ?_⟩) ?_
      · go_simp
      refine wpAny_ready (rs := [26]) (by kernel_rfl) (by simp) ?_
      refine AllReady.cons rfl (fun K hK => ?_) AllReady.nil
      go_simp
      refine hK _ _ ?_
      clear hK K
      refine wpAny_ready (rs := [27]) (by kernel_rfl) (by simp) ?_
      refine AllReady.cons rfl (fun K hK => ?_) AllReady.nil
      go_simp
      have hd0 : Bys wD (some ⟨g, (n + n'), none⟩) 0 ((l ++ l').drop ((n + n'))) := by have := HYD.out.drop2 ((n + n')) ((n + n')) (by omega) (by omega); rwa [Nat.sub_self] at this
      refine (sum_as _ 2 _ [(l ++ l').take ((n + n')), (l ++ l').drop ((n + n'))] J _ (Prs.two c7 (c7 - (n + n')) 22 (HYD.out.take ((n + n')) (by omega)) (hd0) (by omega) (by omega)) (by omega) (by rw [HJ.out]; simp)).mono ?_
      rintro e wE ⟨rfl, hb⟩
      have HBE := Lib.hid (HBD.out.trans ((((Below.refl wD.heap.size wD).alloc (Nat.le_refl _) _).trans (hb.mono (by simp))).mono HBD.out.size))
      clear hb
      refine hK _ _ ?_
      clear hK K
      refine wpAny_ready (rs := [29]) (by kernel_rfl) (by simp) ?_
      refine AllReady.cons rfl (fun K hK => ?_) AllReady.nil
      go_simp
      refine hK _ _ ?_
      clear hK K
      refine wpAny_ready (rs := [30]) (by kernel_rfl) (by simp) ?_
      refine AllReady.cons rfl (fun K hK => ?_) AllReady.nil
      go_simp
      refine hK _ _ ?_
      clear hK K
      refine wpAny_ready (rs := [31]) (by kernel_rfl) (by simp) ?_
      refine AllReady.cons rfl (fun K hK => ?_) AllReady.nil
      go_simp
      refine hK _ _ ?_
      clear hK K
      refine wpAny_ready (rs := [32]) (by kernel_rfl) (by simp) ?_
      refine AllReady.cons rfl (fun K hK => ?_) AllReady.nil
      go_simp
      refine (works_c _).mono ?_
      rintro e wF ⟨rfl, hb⟩
      have HBF := Lib.hid (HBE.out.trans (hb.mono HBE.out.size))
      clear hb
      refine hK _ _ ?_
      clear hK K
      refine wpAny_ready (rs := [33]) (by kernel_rfl) (by simp) ?_
      refine AllReady.cons rfl (fun K hK => ?_) AllReady.nil
      go_simp
      refine hK _ _ ?_
      clear hK K
      refine wpAny_ready (rs := [34]) (by kernel_rfl) (by simp) ?_
      refine AllReady.cons rfl (fun K hK => ?_) AllReady.nil
      go_simp
      refine hK _ _ ?_
      clear hK K
      refine wpAny_done (by kernel_rfl) ?_ _
      go_wp2_with fail
      go_ret
      exact ⟨rfl, HBF.out⟩
  all_goals
    go_enter Try.func12, Try.ntmps12
    go_wp2_with fail
    refine (works_c _).mono ?_
    rintro e w4 ⟨rfl, B4⟩
    go_wp2_with fail
    go_ret
    exact ⟨rfl, B4⟩
end Go.Proofs.Ytodjbgcmlpmknaa
