/- Contracts: the reference's Open. -/
import Derived.Test.YtodjbgcmlpmknaaWn
namespace Go.Proofs.Ytodjbgcmlpmknaa
open Go.RowKit

theorem seal_eq (l : List By) (h : 4 ≤ l.length) : decide (sealB (l.take (l.length - 4)) = l) = openB l := by
  unfold openB
  rw [Bool.eq_iff_iff]
  simp only [decide_eq_true_eq, Bool.and_eq_true]
  constructor
  · intro e
    refine ⟨h, ?_⟩
    have := congrArg (List.drop (l.length - 4)) e
    unfold sealB at this
    rw [List.drop_append] at this
    simpa using this
  · rintro ⟨_, e⟩
    unfold sealB
    rw [e, List.take_append_drop]

theorem str_ne (a b : List By) : ((strOf a).toList != (strOf b).toList) = !decide (a = b) := by rw [bne, str_eq]
set_option maxHeartbeats 1000000 in
theorem ropen_short (a : Option Addr) (n c : Nat) (w : World) (hn : n < 4) :
    Calls Try.prog 24 #[.slice a n c] w fun e w' => e = .returned (.tuple #[.slice none 0 0, .int .i64 110]) ∧ w = w' := by
  have hq : (n : Int) < 4 := by omega
  go_enter Try.func24, Try.ntmps24
  go_wp2
  go_ret2
  exact ⟨rfl, rfl⟩

set_option maxHeartbeats 2000000 in
theorem ropen_long (a : Option Addr) (n c : Nat) (l : List By) (w : World) (h : Bys w a n l) (h4 : 4 ≤ n) (hn : n ≤ 1000000) (hc : n ≤ c) (u : Bool) (hu : u = openB l) :
    Calls Try.prog 24 #[.slice a n c] w fun e w' => Below w.heap.size w w' ∧ if u then ∃ v, e = .returned (.tuple #[v, .int .i64 0]) ∧ OwnB w' w.heap.size v (l.take (n - 4)) else e = .returned (.tuple #[.slice none 0 0, .int .i64 110]) := by
  have HU := Lib.hid hu; clear hu
  obtain ⟨g, off, rfl, hg, _⟩ := h.cells (by omega)
  have H := Lib.hid h; clear h
  have hsz := H.out.1
  have HSZ := Lib.hid hsz; clear hsz
  obtain ⟨m, rfl⟩ : ∃ m, n = m + 4 := ⟨n - 4, by omega⟩
  have k2 : ¬ c < m := by omega
  have k3 : ¬ (m : Int) + 4 < 4 := by omega
  have HE : Hid ((l.take m).length = m) := Lib.hid (by rw [List.length_take, HSZ.out]; omega)
  go_enter Try.func24, Try.ntmps24
  go_wp2_with (at_builtin; refine wpl_append_bys rfl _ _ rfl w.heap.size _ [] rfl (own_empty w) (some ⟨g, off, none⟩) m c (l.take m) rfl ((H.out.take m (by omega)).below ((Below.refl _ _).alloc (Nat.le_refl _) _)) ?c1 ?c2 ?_)
  case c1 => omega
  intro v w1 hown hg1 hnl
  have HB := Lib.hid (((Below.refl w.heap.size w).alloc (Nat.le_refl _) (.cells #[] 5)).grown hg1 (by simp) (fun k e => by simp [Value.ownBlock] at e; omega))
  have HO := Lib.hid hown
  clear hown hg1 hnl
  obtain ⟨a7, c7, hv, hc7, hy⟩ := HO.out.bys
  rw [HE.out] at hv hc7 hy
  subst hv
  have HY := Lib.hid hy; clear hy
  go_wp2_with fail
  have HSE : Hid (decide (sealB (l.take m) = l) = u) := Lib.hid (by have := seal_eq l (by rw [HSZ.out]; omega); rw [HSZ.out] at this; exact this.trans HU.out.symm)
  refine wp_region_any (by kernel_rfl) ?_
  change wpAny _ _ _ _ _ _ _ (World.drew _)
  have HBA : Hid (Below w.heap.size w w1.drew) := Lib.hid HB.out.drew
  have q1 := run_str w1.drew _ _ c _ (H.out.below HBA.out)
  refine wpAny_take (i := 0) (v := .slice a7 m c7) rfl (by kernel_rfl) (by kernel_rfl) (by kernel_rfl) (fun _ _ _ h => h) (Or.inl ⟨by kernel_rfl, fun w => ?_⟩) ?_
  · go_simp
  refine wpAny_take (i := 3) (v := .slice (some ⟨g, off, none⟩) (m + 4) c) rfl (by kernel_rfl) (by kernel_rfl) (by kernel_rfl) (fun _ _ _ h => h) (Or.inl ⟨by kernel_rfl, fun w => ?_⟩) ?_
  · go_simp
  refine wpAny_ready (rs := [1, 4]) (by kernel_rfl) (by simp) ?_
  refine AllReady.cons rfl (fun K hK => ?_) ?_
  · go_simp
    refine (rseal_c a7 m c7 (l.take m) _ (HY.out.below ((Below.refl _ _).drew)) (by omega)).mono ?_
    rintro e wB ⟨v6, rfl, ho, hb, -⟩
    obtain ⟨a6, c6, rfl, _, hy⟩ := ho.bys
    have HBB := Lib.hid (HBA.out.trans (hb.mono HBA.out.size))
    have q2 := run_str wB _ _ c6 _ hy
    have q3 := run_str wB _ _ c _ (H.out.below HBB.out)
    have HOB := Lib.hid ((HO.out.below ((Below.refl _ _).drew)).below hb)
    clear ho hb hy
    refine hK _ _ ?_
    clear hK K
    refine wpAny_ready (rs := [2, 4]) (by kernel_rfl) (by simp) ?_
    refine AllReady.cons rfl (fun K hK => ?_) ?_
    · go_simp
      refine hK _ _ ?_
      clear hK K
      refine wpAny_ready (rs := [4]) (by kernel_rfl) (by simp) ?_
      refine AllReady.cons rfl (fun K hK => ?_) AllReady.nil
      go_simp
      refine hK _ _ ?_
      clear hK K
      refine wpAny_ready (rs := [5]) (by kernel_rfl) (by simp) ?_
      refine AllReady.cons rfl (fun K hK => ?_) AllReady.nil
      go_simp
      refine hK _ _ ?_
      clear hK K
      refine wpAny_done (by kernel_rfl) ?_ _
      rw [str_eq, HSE.out]
      cases u
      · go_wp2_with fail
        go_ret2
        exact ⟨HBB.out, rfl⟩
      · go_wp2_with fail
        go_ret2
        exact ⟨HBB.out, _, rfl, HOB.out⟩
    refine AllReady.cons rfl (fun K hK => ?_) AllReady.nil
    go_simp
    refine hK _ _ ?_
    clear hK K
    refine wpAny_ready (rs := [2]) (by kernel_rfl) (by simp) ?_
    refine AllReady.cons rfl (fun K hK => ?_) AllReady.nil
    go_simp
    refine hK _ _ ?_
    clear hK K
    refine wpAny_ready (rs := [5]) (by kernel_rfl) (by simp) ?_
    refine AllReady.cons rfl (fun K hK => ?_) AllReady.nil
    go_simp
    refine hK _ _ ?_
    clear hK K
    refine wpAny_done (by kernel_rfl) ?_ _
    rw [str_eq, HSE.out]
    cases u
    · go_wp2_with fail
      go_ret2
      exact ⟨HBB.out, rfl⟩
    · go_wp2_with fail
      go_ret2
      exact ⟨HBB.out, _, rfl, HOB.out⟩
  refine AllReady.cons rfl (fun K hK => ?_) AllReady.nil
  go_simp
  refine hK _ _ ?_
  clear hK K
  refine wpAny_ready (rs := [1]) (by kernel_rfl) (by simp) ?_
  refine AllReady.cons rfl (fun K hK => ?_) AllReady.nil
  go_simp
  refine (rseal_c a7 m c7 (l.take m) _ (HY.out.below ((Below.refl _ _).drew)) (by omega)).mono ?_
  rintro e wB ⟨v6, rfl, ho, hb, -⟩
  obtain ⟨a6, c6, rfl, _, hy⟩ := ho.bys
  have HBB := Lib.hid (HBA.out.trans (hb.mono HBA.out.size))
  have q2 := run_str wB _ _ c6 _ hy
  have q3 := run_str wB _ _ c _ (H.out.below HBB.out)
  have HOB := Lib.hid ((HO.out.below ((Below.refl _ _).drew)).below hb)
  clear ho hb hy
  refine hK _ _ ?_
  clear hK K
  refine wpAny_ready (rs := [2]) (by kernel_rfl) (by simp) ?_
  refine AllReady.cons rfl (fun K hK => ?_) AllReady.nil
  go_simp
  refine hK _ _ ?_
  clear hK K
  refine wpAny_ready (rs := [5]) (by kernel_rfl) (by simp) ?_
  refine AllReady.cons rfl (fun K hK => ?_) AllReady.nil
  go_simp
  refine hK _ _ ?_
  clear hK K
  refine wpAny_done (by kernel_rfl) ?_ _
  rw [str_eq, HSE.out]
  cases u
  · go_wp2_with fail
    go_ret2
    exact ⟨HBB.out, rfl⟩
  · go_wp2_with fail
    go_ret2
    exact ⟨HBB.out, _, rfl, HOB.out⟩

/-- What Open gives, and its error. -/
def openL (l : List By) : List By := if openB l then l.take (l.length - 4) else []
def openE (l : List By) : Int := if openB l then 0 else 110
theorem own_nil (w : World) (base : Nat) : OwnB w base (.slice none 0 0) [] := World.ownsRow_nil w base 5 1
def OpenRes (B : Nat) (l : List By) (e : Ending) (w' : World) : Prop := ∃ a c, e = .returned (.tuple #[.slice a (openL l).length c, .int .i64 (openE l)]) ∧ OwnB w' B (.slice a (openL l).length c) (openL l)
theorem openB_short {l : List By} (h : l.length < 4) : openB l = false := by unfold openB; rw [decide_eq_false (by omega)]; rfl
theorem res_no {B : Nat} {l : List By} {e : Ending} {w' : World} (h : openB l = false) (he : e = .returned (.tuple #[.slice none 0 0, .int .i64 110])) : OpenRes B l e w' := by
  have h1 : openL l = [] := by simp [openL, h]
  have h2 : openE l = 110 := by simp [openE, h]
  unfold OpenRes
  rw [h1, h2]
  exact ⟨none, 0, he, own_nil _ _⟩
theorem res_yes {B : Nat} {l : List By} {e : Ending} {w' : World} {v : Value} (h : openB l = true) (he : e = .returned (.tuple #[v, .int .i64 0])) (ho : OwnB w' B v (l.take (l.length - 4))) : OpenRes B l e w' := by
  have h1 : openL l = l.take (l.length - 4) := by simp [openL, h]
  have h2 : openE l = 0 := by simp [openE, h]
  unfold OpenRes
  rw [h1, h2]
  obtain ⟨a, c, rfl, _, _⟩ := ho.bys
  exact ⟨a, c, he, ho⟩
theorem open_any (a : Option Addr) (n c : Nat) (l : List By) (w : World) (h : Bys w a n l) (hn : n ≤ 1000000) (hc : n ≤ c) :
    Calls Try.prog 21 #[.slice a n c] w fun e w' => Below w.heap.size w w' ∧ OpenRes w.heap.size l e w' := by
  have hl := h.1
  rcases Nat.lt_or_ge n 4 with h4 | h4
  · exact (open_short a n c w h4).mono fun e w' ⟨he, hb⟩ => ⟨hb, res_no (openB_short (by omega)) he⟩
  · refine (open_long a n c l w h h4 hn hc _ rfl).mono fun e w' ⟨hb, hr⟩ => ⟨hb, ?_⟩
    cases hu : openB l
    · rw [hu] at hr; exact res_no hu hr
    · rw [hu] at hr
      obtain ⟨v, he, ho⟩ := hr
      rw [← hl] at ho
      exact res_yes hu he ho
theorem ropen_any (a : Option Addr) (n c : Nat) (l : List By) (w : World) (h : Bys w a n l) (hn : n ≤ 1000000) (hc : n ≤ c) :
    Calls Try.prog 24 #[.slice a n c] w fun e w' => Below w.heap.size w w' ∧ OpenRes w.heap.size l e w' := by
  have hl := h.1
  rcases Nat.lt_or_ge n 4 with h4 | h4
  · exact (ropen_short a n c w h4).mono fun e w' ⟨he, hb⟩ => ⟨hb ▸ Below.refl _ _, res_no (openB_short (by omega)) he⟩
  · refine (ropen_long a n c l w h h4 hn hc _ rfl).mono fun e w' ⟨hb, hr⟩ => ⟨hb, ?_⟩
    cases hu : openB l
    · rw [hu] at hr; exact res_no hu hr
    · rw [hu] at hr
      obtain ⟨v, he, ho⟩ := hr
      rw [← hl] at ho
      exact res_yes hu he ho

/-! ### A row of bytes that is written -/
theorem OwnB.at_ {w : World} {base g n c : Nat} {l : List By} (h : OwnB w base (.slice (some ⟨g, 0, none⟩) n c) l) {k : Nat} {x : By} (hx : l[k]? = some x) : w.cell? ⟨g, k, none⟩ = some (.int .u8 (x.toNat : Int)) ∧ w.frozen? ⟨g, k, none⟩ = false := by
  obtain ⟨a, c', e, _, _⟩ := h.bys
  injection e with e1 e2 e3
  subst e2
  have hlt := (List.getElem?_eq_some_iff.1 hx).1
  refine ⟨?_, World.ownsRow.frozenAt (h : w.ownsRow _ _ _ _ _ _) k⟩
  rw [World.ownsRow.cellAt (h : w.ownsRow _ _ _ _ _ _) k (by omega)]
  simp [bl, hx]
theorem OwnB.put {w : World} {base g n c : Nat} {l : List By} (h : OwnB w base (.slice (some ⟨g, 0, none⟩) n c) l) (k : Nat) (x : By) : OwnB (w.setCell ⟨g, k, none⟩ (.int .u8 (x.toNat : Int))) base (.slice (some ⟨g, 0, none⟩) n c) (l.set k x) := by
  obtain ⟨a, c', e, _, _⟩ := h.bys
  injection e with e1 e2 e3
  subst e2
  have := (World.ownsRow.stored (h : w.ownsRow _ _ _ _ _ _) k (.int .u8 (x.toNat : Int))).1
  unfold OwnB
  rw [List.length_set]
  have hb : bl (l.set k x) = (bl l).set k (.int .u8 (x.toNat : Int)) := by simp [bl, List.map_set]
  rw [hb]
  exact this
theorem OwnB.only {w w' : World} {base g : Nat} {v : Value} {l : List By} (h : OwnB w base v l) (hg : Only g w w') (hlt : g < base) : OwnB w' base v l := by
  refine World.ownsRow.kept (h : w.ownsRow _ _ _ _ _ _) hg ?_
  cases hv : v.ownBlock with
  | none => exact .inl rfl
  | some k =>
    have := (World.ownsRow.lt (h : w.ownsRow _ _ _ _ _ _) k hv).1
    exact .inr (fun e => by injection e with e; omega)
theorem OwnB.base {w : World} {base g n c : Nat} {l : List By} (h : OwnB w base (.slice (some ⟨g, 0, none⟩) n c) l) : base ≤ g ∧ g < w.heap.size := World.ownsRow.lt (h : w.ownsRow _ _ _ _ _ _) g rfl
theorem OwnB.here {w : World} {base : Nat} {v : Value} {l : List By} (h : OwnB w base v l) (hn : v ≠ .slice none 0 0) : ∃ g c, v = .slice (some ⟨g, 0, none⟩) l.length c ∧ l.length ≤ c := by
  obtain ⟨a, c, hv, hc, hy⟩ := h.bys
  rcases h.2 with ⟨e, _⟩ | ⟨g, cap, cur, e, _⟩
  · exact absurd e hn
  · rw [e] at hv
    injection hv with h1 h2 h3
    subst h1
    exact ⟨g, cap, e, by rw [h3]; exact hc⟩

end Go.Proofs.Ytodjbgcmlpmknaa
