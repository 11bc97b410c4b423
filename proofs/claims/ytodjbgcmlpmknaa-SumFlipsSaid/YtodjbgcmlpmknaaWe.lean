/- The iterator over the bits of a word. -/
import Derived.Test.YtodjbgcmlpmknaaWd
import Derived.BigRegionIn
import Derived.Deep.RegionWith
namespace Go.Proofs.Ytodjbgcmlpmknaa
open Go.RowKit Go.Shelf
attribute [local go_sem] Oper.semAt_some

/-- The bits of a word that are 1, of the first k powers. -/
def pows (a : Wo) (k : Nat) : List Nat := (List.range k).filter fun i => a.getMsbD i
theorem pows_yes {a : Wo} {k : Nat} (h : a.getMsbD k = true) : pows a (k + 1) = pows a k ++ [k] := by
  simp [pows, List.range_succ, List.filter_append, h]
theorem pows_no {a : Wo} {k : Nat} (h : a.getMsbD k = false) : pows a (k + 1) = pows a k := by
  simp [pows, List.range_succ, List.filter_append, h]
theorem pows_len (a : Wo) (k : Nat) : (pows a k).length ≤ k := Nat.le_trans (List.length_filter_le _ _) (by simp)
theorem pows_pre (a : Wo) {k n : Nat} (h : k ≤ n) : pows a k <+: pows a n := by
  obtain ⟨m, rfl⟩ := Nat.exists_eq_add_of_le h
  simp [pows, List.range_add, List.filter_append]

theorem pow_at : ∀ k, k < 32 → (2147483648 : Int) / 2 ^ k = ((BitVec.twoPow 32 (31 - k)).toNat : Int) := by decide +kernel
theorem pow_ne : ∀ k, k < 32 → (BitVec.twoPow 32 (31 - k)).toNat ≠ 0 := by decide +kernel
theorem bit_at (a : Wo) (k : Nat) (hk : k < 32) : (bits .and .u32 (a.toNat : Int) (2147483648 / 2 ^ k) != 0) = a.getMsbD k := by
  rw [pow_at k hk, ba, BitVec.and_twoPow, BitVec.getMsbD_eq_getLsbD]
  have e : 32 - 1 - k = 31 - k := by omega
  rw [e]
  have := pow_ne k hk
  cases h : a.getLsbD (31 - k)
  · simp
  · simp only [if_true]
    simp only [decide_eq_true hk, Bool.true_and]
    rw [bne_iff_ne]; omega

set_option maxRecDepth 100000 in
set_option maxHeartbeats 2000000 in
theorem bits1_in (n : Nat) (l Bs : Nat) (a : Wo) (J Jx : List Nat → World → Prop)
    (hY : ∀ pre (x : Nat) W, x < 32 → J pre W → pre.length < 32 → YieldAt Fence.wide (n - 1) Try.prog l #[.int .i64 (x : Nat)] W fun e W' =>
      (e = .returned (.bool true) ∧ J (pre ++ [x]) W' ∧ W'.cell? ⟨Bs, 0, none⟩ = W.cell? ⟨Bs, 0, none⟩) ∨ (e = .returned (.bool false) ∧ Jx (pre ++ [x]) W'))
    (W : World) (hJd : ∀ pre W m, J pre W → J pre (W.drewN m)) (hJd1 : ∀ pre W, J pre W → J pre W.drew) (hBs : W.cell? ⟨Bs, 0, none⟩ = some (.int .u32 (a.toNat : Int))) (h0 : J [] W) :
    CallsIn Fence.wide n Try.prog 42 #[.func (.yield l) #[] #[], .pointer (some ⟨Bs, 0, none⟩)] W fun e W' => (∃ v, e = .returned v) ∧
      ((∃ ys, ys = pows a 32 ∧ J ys W') ∨ (∃ pre, pre <+: pows a 32 ∧ Jx pre W')) := by
  refine callsIn_of_wp Try.func42 rfl trivial ?_ rfl
  simp only [Try.ntmps42, List.size_toArray, List.length_cons, List.length_nil, Nat.reduceAdd, Nat.reduceSub, Array.replicate_succ, Array.replicate_zero, List.push_toArray, List.append_toArray, List.nil_append, List.cons_append]
  refine wpIn_wide.2 (wp_scope_straight ((wpIn_wide (n := n)).1 ?_))
  gi_wp2
  refine wpIn_label ?_
  gi_wp2
  gi_loopw [4] (fun i wr => ∃ k : Nat, k ≤ 32 ∧ i = .int .i64 k ∧ J (pows a k) wr ∧ wr.cell? ⟨Bs, 0, none⟩ = some (.int .u32 (a.toNat : Int)))
    (fun i _ => 32 - (intOf i).toNat)
  case atStart => exact ⟨0, Nat.zero_le _, rfl, h0, hBs⟩
  case round =>
    obtain ⟨k, hk, rfl, hJs, hc⟩ := hrel
    by_cases hlt : k < 32
    · have hq := bit_at a k hlt
      cases hs : a.getMsbD k
      · rw [hs] at hq
        have Hs := Lib.hid hs; clear hs
        gi_wp2
        refine wpIn_wide.2 ?_
        go_quiet (fail)
        have hJ1 := Lib.hid (hJd _ _ nq hJs)
        have hc1 : Hid ((wr.drewN nq).cell? ⟨Bs, 0, none⟩ = some (.int .u32 (a.toNat : Int))) := Lib.hid hc
        clear hq hc
        rw [← pows_no Hs.out] at hJ1
        gi_wp2
        go_roundw
        case rel => exact ⟨k + 1, by omega, by go_num, hJ1.out, hc1.out⟩
        case measure => simp [intOf]; omega
      · rw [hs] at hq
        have Hs := Lib.hid hs; clear hs
        obtain ⟨fn, tmps, assign, body, hy, hR⟩ := hY _ k wr.drew hlt (hJd1 _ _ hJs) (by have := pows_len a k; omega)
        gi_wp2
        refine wpIn_region_any (by kernel_rfl) ?_
        change wpAnyIn _ _ _ _ _ _ _ _ _ (World.drew _)
        refine wpAnyIn_take (i := 1) (v := .int .i64 (k : Int)) rfl rfl (by kernel_rfl) (by kernel_rfl) (by kernel_rfl) (fun _ _ _ h => h) ⟨Or.inl ⟨by rfl, fun w => ?_⟩, fun _ => rfl⟩ ?_
        · go_simp
        refine wpAnyIn_take (i := 2) (v := .int .u32 (2147483648 / 2 ^ k)) rfl rfl (by kernel_rfl) (by kernel_rfl) (by kernel_rfl) (fun _ _ _ h => h) ⟨Or.inl ⟨by rfl, fun w => ?_⟩, fun _ => rfl⟩ ?_
        · go_simp
        refine wpAnyIn_ready (rs := [0]) (by kernel_rfl) (by simp) ?_
        refine AllReadyIn.cons rfl (fun K hK => ?_) AllReadyIn.nil
        go_simp
        refine hK _ _ ?_
        clear hK K
        refine wpAnyIn_ready (rs := [3]) (by kernel_rfl) (by simp) ?_
        refine AllReadyIn.cons rfl (fun K hK => ?_) AllReadyIn.nil
        go_simp
        refine hK _ _ ?_
        clear hK K
        refine wpAnyIn_ready (rs := [4]) (by kernel_rfl) (by simp) ?_
        refine AllReadyIn.cons rfl (fun K hK => ?_) AllReadyIn.nil
        go_simp
        refine hK _ _ ?_
        clear hK K
        refine wpAnyIn_ready (rs := [5]) (by kernel_rfl) (by simp) ?_
        refine AllReadyIn.cons rfl (fun K hK => ?_) AllReadyIn.nil
        go_simp
        refine hK _ _ ?_
        clear hK K
        refine wpAnyIn_take (i := 6) (v := .func (.yield l) #[] #[]) rfl rfl (by kernel_rfl) (by kernel_rfl) (by kernel_rfl) (fun _ _ _ h => h) ⟨Or.inl ⟨by rfl, fun w => ?_⟩, fun _ => rfl⟩ ?_
        · go_simp
        refine wpAnyIn_take (i := 7) (v := .int .i64 (k : Int)) rfl rfl (by kernel_rfl) (by kernel_rfl) (by kernel_rfl) (fun _ _ _ h => h) ⟨Or.inl ⟨by rfl, fun w => ?_⟩, fun _ => rfl⟩ ?_
        · go_simp
        refine wpAnyIn_ready (rs := [8]) (by kernel_rfl) (by simp) ?_
        refine AllReadyIn.cons rfl (fun K hK => ?_) AllReadyIn.nil
        go_simp
        refine ⟨fun h => (by simp [Fence.wide] at h), hR.mono ?_⟩
        rw [← pows_yes Hs.out]
        have hcd : wr.drew.cell? ⟨Bs, 0, none⟩ = some (.int .u32 (a.toNat : Int)) := hc
        rintro e W3 (⟨rfl, hJ3, hc3⟩ | ⟨rfl, hJx3⟩)
        · have hJ3' := Lib.hid hJ3
          have hc3' := Lib.hid (hc3.trans hcd)
          clear hJ3 hc3 hcd hc hy hR hJs hq
          refine hK _ _ ?_
          clear hK K
          refine wpAnyIn_ready (rs := [9]) (by kernel_rfl) (by simp) ?_
          refine AllReadyIn.cons rfl (fun K hK => ?_) AllReadyIn.nil
          go_simp
          refine hK _ _ ?_
          clear hK K
          refine wpAnyIn_ready (rs := [10]) (by kernel_rfl) (by simp) ?_
          refine AllReadyIn.cons rfl (fun K hK => ?_) AllReadyIn.nil
          go_simp
          refine hK _ _ ?_
          clear hK K
          refine wpAnyIn_done (by kernel_rfl) ?_ _
          gi_wp2
          go_roundw
          case rel => exact ⟨k + 1, by omega, by go_num, hJ3'.out, hc3'.out⟩
          case measure => simp [intOf]; omega
        · have hJ3' := Lib.hid hJx3
          clear hJx3 hcd hc hy hR hJs hq
          refine hK _ _ ?_
          clear hK K
          refine wpAnyIn_ready (rs := [9]) (by kernel_rfl) (by simp) ?_
          refine AllReadyIn.cons rfl (fun K hK => ?_) AllReadyIn.nil
          go_simp
          refine hK _ _ ?_
          clear hK K
          refine wpAnyIn_ready (rs := [10]) (by kernel_rfl) (by simp) ?_
          refine AllReadyIn.cons rfl (fun K hK => ?_) AllReadyIn.nil
          go_simp
          refine hK _ _ ?_
          clear hK K
          refine wpAnyIn_done (by kernel_rfl) ?_ _
          gi_wp2
          rw [Exit.noGoto_normal]
          go_end0
          exact ⟨⟨_, rfl⟩, .inr ⟨_, pows_pre a (by omega), hJ3'.out⟩⟩
    · obtain rfl : k = 32 := by omega
      gi_wp2
      rw [Exit.noGoto_normal]
      go_end0
      exact ⟨⟨_, rfl⟩, .inl ⟨_, rfl, hJs⟩⟩

/-- Cell 0 of block g holds what it held. -/
def Cel (g : Nat) (W W' : World) : Prop := W'.cell? ⟨g, 0, none⟩ = W.cell? ⟨g, 0, none⟩
theorem cel_trans {g : Nat} {A B C : World} (h : Cel g A B) (k : Cel g B C) : Cel g A C := Eq.trans k h
theorem cel_b {g : Nat} {w : World} (hg : g < w.heap.size) (W : World) (l : Nat) (o o' : Obj) (hl : w.heap.size ≤ l) (_ : W.heap[l]? = some o) (_ : o.isCells = false) (_ : o.isWalk = false) : Cel g W (W.putObj l o') :=
  World.cell?_of_block (a := ⟨g, 0, none⟩) (World.putObj_heap_other (by simp; omega))

theorem bits_stops (n Bs : Nat) (a : Wo) (w : World) (hlt : Bs < w.heap.size) (h : w.cell? ⟨Bs, 0, none⟩ = some (.int .u32 (a.toNat : Int))) :
    SeqStopsK Fence.wide n Try.prog 42 #[.pointer (some ⟨Bs, 0, none⟩)] (fun x : Fin 32 => #[Value.int .i64 (x.val : Nat)]) (Cel Bs) (fun ys => ys.map Fin.val = pows a 32) (fun pre => pre.map Fin.val <+: pows a 32) 32 w := fun l J Jx W hW hJ hJx hY h0 => by
  have hr : ∀ pre W m, (∃ p : List (Fin 32), pre = p.map Fin.val ∧ J p W) → ∃ p : List (Fin 32), pre = p.map Fin.val ∧ J p (W.drewN m) := fun pre W m ⟨p, hp, hj⟩ =>
    ⟨p, hp, hJ p W _ none hj ⟨rfl, rfl, rfl, Nat.le_refl _, fun _ _ _ => rfl⟩ (fun r e => by cases e)⟩
  have hr1 : ∀ pre W, (∃ p : List (Fin 32), pre = p.map Fin.val ∧ J p W) → ∃ p : List (Fin 32), pre = p.map Fin.val ∧ J p W.drew := fun pre W ⟨p, hp, hj⟩ =>
    ⟨p, hp, hJ p W _ none hj ⟨rfl, rfl, rfl, Nat.le_refl _, fun _ _ _ => rfl⟩ (fun r e => by cases e)⟩
  refine (bits1_in n l Bs a (fun pre W => ∃ p : List (Fin 32), pre = p.map Fin.val ∧ J p W) (fun pre W => ∃ p : List (Fin 32), pre = p.map Fin.val ∧ Jx p W) ?_ W hr hr1 ((hW.cell (p := ⟨Bs, 0, none⟩) hlt).trans h) ⟨[], rfl, h0⟩).mono ?_
  · rintro pre x W1 hx ⟨p, rfl, hj⟩ hl
    refine (hY p ⟨x, hx⟩ W1 hj (by simpa using hl)).mono ?_
    rintro e W' (⟨he, hj', hk⟩ | ⟨he, hj'⟩)
    · exact .inl ⟨he, ⟨_, by simp, hj'⟩, hk⟩
    · exact .inr ⟨he, ⟨_, by simp, hj'⟩⟩
  · rintro e W' ⟨hv, ⟨ys, rfl, p, hp, hj⟩ | ⟨pre, hpre, p, rfl, hj⟩⟩
    · exact ⟨hv, .inl ⟨p, hp.symm, hj⟩⟩
    · exact ⟨hv, .inr ⟨p, hpre, hj⟩⟩

set_option maxHeartbeats 1000000 in
theorem bits_c (a : Wo) (w : World) :
    Calls Try.prog 32 #[.int .u32 (a.toNat : Int)] w fun e w' => e = .returned (.func (.func 42) #[] #[.pointer (some ⟨w.heap.size, 0, none⟩)]) ∧ w' = w.alloc (.cells #[.int .u32 (a.toNat : Int)] 24) := by
  have hmf : ∀ (fn : Fn) (first cap : Array Value) (w : World), (Instr.makeFunc fn first cap).run Try.prog w = .ok (.func fn first cap) w := fun _ _ _ _ => rfl
  go_enter Try.func32, Try.ntmps32
  go_wp2
  go_ret
  exact ⟨rfl, rfl⟩

/-- Where a product stands after these powers. -/
def atOf (l : List (Fin 32)) : Nat := l.foldl (fun m x => max m x.val) 0
def outOf (b : Wo) (l : List (Fin 32)) : Wo := (l.foldl (fun (s : Nat × Wo) x => (max s.1 x.val, s.2 ^^^ txn (max s.1 x.val) b)) (0, 0#32)).2
theorem at_snoc (l : List (Fin 32)) (x : Fin 32) : atOf (l ++ [x]) = max (atOf l) x.val := by simp [atOf, List.foldl_append]
theorem at_le (l : List (Fin 32)) : atOf l ≤ 31 := by
  have h : ∀ (l : List (Fin 32)) (m : Nat), m ≤ 31 → l.foldl (fun m x => max m x.val) m ≤ 31 := by
    intro l
    induction l with
    | nil => intro m hm; exact hm
    | cons x l ih => intro m hm; exact ih _ (by show max m x.val ≤ 31; have := x.isLt; omega)
  exact h l 0 (by omega)
theorem fst_out (b : Wo) (l : List (Fin 32)) : (l.foldl (fun (s : Nat × Wo) x => (max s.1 x.val, s.2 ^^^ txn (max s.1 x.val) b)) (0, 0#32)).1 = atOf l := by
  have h : ∀ (l : List (Fin 32)) (s : Nat × Wo), (l.foldl (fun (s : Nat × Wo) x => (max s.1 x.val, s.2 ^^^ txn (max s.1 x.val) b)) s).1 = l.foldl (fun m x => max m x.val) s.1 := by
    intro l
    induction l with
    | nil => intro s; rfl
    | cons x l ih => intro s; exact ih _
  exact h l _
theorem out_snoc (b : Wo) (l : List (Fin 32)) (x : Fin 32) : outOf b (l ++ [x]) = outOf b l ^^^ txn (max (atOf l) x.val) b := by
  unfold outOf
  rw [List.foldl_append]
  simp only [List.foldl_cons, List.foldl_nil]
  rw [fst_out]
/-- Over the bits of a it is the product. -/
theorem out_all (a b : Wo) (l : List (Fin 32)) (h : l.map Fin.val = pows a 32) : outOf b l = mul a b := by
  have key : ∀ k, k ≤ 32 → ∀ l : List (Fin 32), l.map Fin.val = pows a k → outOf b l = mulTo a b k ∧ (∀ x ∈ l, x.val < k) ∧ (k ≠ 0 → atOf l < k) := by
    intro k
    induction k with
    | zero =>
      intro _ l hl
      have : l = [] := by simpa [pows] using hl
      subst this
      exact ⟨rfl, by simp, by simp⟩
    | succ k ih =>
      intro hk l hl
      cases hb : a.getMsbD k
      · rw [pows_no hb] at hl
        obtain ⟨h1, h2, h3⟩ := ih (by omega) l hl
        refine ⟨by rw [mul_stay a b k hb]; exact h1, fun x hx => by have := h2 x hx; omega, fun _ => ?_⟩
        by_cases e : k = 0
        · subst e
          have : l = [] := by simpa [pows] using hl
          subst this; simp [atOf]
        · have := h3 e; omega
      · rw [pows_yes hb] at hl
        obtain ⟨l', x, rfl⟩ : ∃ l' x, l = l' ++ [x] := by
          rcases List.eq_nil_or_concat l with rfl | ⟨l', x, rfl⟩
          · simp at hl
          · exact ⟨l', x, by simp⟩
        rw [List.map_append] at hl
        have hx := List.append_inj' hl (by simp)
        have hxv : x.val = k := by simpa using hx.2
        obtain ⟨h1, h2, h3⟩ := ih (by omega) l' hx.1
        have hm : max (atOf l') x.val = k := by
          by_cases e : k = 0
          · subst e
            have : l' = [] := by simpa [pows] using hx.1
            subst this; simp [atOf, hxv]
          · have := h3 e; omega
        refine ⟨by rw [out_snoc, hm, h1, mulTo, hb]; rfl, fun y hy => ?_, fun _ => by rw [at_snoc, hm]; omega⟩
        rcases List.mem_append.1 hy with hy | hy
        · have := h2 y hy; omega
        · have : y = x := by simpa using hy
          subst this; omega
  exact (key 32 (Nat.le_refl _) l h).1
end Go.Proofs.Ytodjbgcmlpmknaa
