/- Contracts: the iterator over a set's spans. -/
import Derived.Test.YtlgpoaapmgcloaaSc
import Derived.Test.YtlgpoaapmgcloaaHg
namespace Go.Proofs.Ytlgpoaapmgcloaa
open Go.RowKit Go.Shelf
attribute [local go_sem] Oper.semAt_some
set_option linter.unusedSimpArgs false
set_option linter.unusedVariables false
set_option maxRecDepth 100000

theorem Tch.sps {S : Nat → Prop} {w w' : World} {a : Option Addr} {n : Nat} {l : List Sp} (h : Tch S w w') (hb : Sps w a n l) (hv : ∀ g off, a = some ⟨g, off, none⟩ → 0 < n → ¬ S g) : Sps w' a n l := by
  refine ⟨hb.1, fun i x hx => ?_⟩
  obtain ⟨g, off, e, hg, c0, c1⟩ := hb.2 i x hx
  have hn : 0 < n := by have := (List.getElem?_eq_some_iff.1 hx).1; rw [← hb.1]; omega
  have hk := h.block g hg (hv g off e hn)
  exact ⟨g, off, e, Nat.lt_of_lt_of_le hg h.size, (World.cell?_of_block (a := ⟨g, off + i * 2, none⟩) hk).trans c0, (World.cell?_of_block (a := ⟨g, off + i * 2 + 1, none⟩) hk).trans c1⟩
theorem Tch.boxed {S : Nat → Prop} {w w' : World} {B : Nat} {t : TypeId} {v : Value} (h : Tch S w w') (hb : Boxed w B t v) (hB : ¬ S B) : Boxed w' B t v := (h.block B hb.lt hB).trans hb
theorem boxed_below {w w' : World} {N B : Nat} {t : TypeId} {v : Value} (hb : Boxed w B t v) (h : Below N w w') (hB : B < N) : Boxed w' B t v := (h.block B hB).trans hb
/-- What the iterator keeps. -/
def ValIt (Bk : Nat) (a : Option Addr) (n c : Nat) (l : List Sp) (W : World) (U : Nat → Prop) : Prop :=
  Boxed W Bk 49 (.slice a n c) ∧ Sps W a n l ∧ ∀ g off, a = some ⟨g, off, none⟩ → 0 < n → ¬ U g
set_option maxHeartbeats 4000000 in
theorem vals_gives (Bk : Nat) (a : Option Addr) (n c : Nat) (l : List Sp) (hn : n ≤ 1000000) :
    Gives1 63 #[.pointer (some ⟨Bk, 0, none⟩)] l.length (fun _ k v _ => ∃ x, l[k]? = some x ∧ v = x.val) (ValIt Bk a n c l) True := by
  intro m0 l0 J Jx U W hIt hNo hJ hJx hY h0
  obtain ⟨hbox, hby, hUa⟩ := hIt
  have HBY := Lib.hid hby; have HUA := Lib.hid hUa
  have HJ := Lib.hid hJ; have HJX := Lib.hid hJx; have HY := Lib.hid hY; have H0 := Lib.hid h0
  have hcb := hbox.cell
  have hfb := hbox.frozen
  clear hbox hby hUa hJ hJx hY h0
  refine callsIn_of_wp Try.func63 rfl trivial ?_ rfl
  simp only [Try.ntmps63, List.size_toArray, List.length_cons, List.length_nil, Nat.reduceAdd, Nat.reduceSub, Array.replicate_succ, Array.replicate_zero, List.push_toArray, List.append_toArray, List.nil_append, List.cons_append]
  gi_wp2_with fail
  gi_loopw [7] (fun iv wr => ∃ i : Nat, i ≤ n ∧ iv = .int .i64 (i : Int) ∧ W.heap.size ≤ wr.heap.size ∧ Sps wr a n l ∧ J i wr) (fun iv _ => n - (intOf iv).toNat)
  case atStart => exact ⟨0, Nat.zero_le _, rfl, Nat.le_refl _, HBY.out, H0.out⟩
  case round =>
  obtain ⟨i, hi, rfl, hsz, hby, hj⟩ := hrel
  have HB := Lib.hid hby; have HJK := Lib.hid hj
  by_cases hlt : i < n
  · obtain ⟨x, hx⟩ : ∃ x, l[i]? = some x := ⟨l[i]'(by rw [hby.1]; exact hlt), List.getElem?_eq_getElem _⟩
    obtain ⟨g, off, rfl, hg, c0, c1⟩ := hby.2 i x hx
    have HX := Lib.hid hx
    have hal := (Below.refl wr.heap.size wr).alloc (Nat.le_refl _) (.cells #[.int .i64 x.f, .int .i64 x.t] 33)
    have HB2 := Lib.hid (hby.below hal)
    have HJ2 := Lib.hid (HJ.out i _ _ hal hj)
    have hsz2 : W.heap.size ≤ (wr.alloc (.cells #[.int .i64 x.f, .int .i64 x.t] 33)).heap.size := by rw [World.size_alloc]; omega
    have hcy : ∃ fn tmps assign body, (Instr.yield l0 #[.agg #[.int .i64 x.f, .int .i64 x.t]]).run Try.prog (wr.alloc (.cells #[.int .i64 x.f, .int .i64 x.t] 33)) = .ok (.round l0 fn tmps assign body) (wr.alloc (.cells #[.int .i64 x.f, .int .i64 x.t] 33)) ∧ RoundIn Fence.wide (m0 - 1) Try.prog l0 fn tmps assign body (wr.alloc (.cells #[.int .i64 x.f, .int .i64 x.t] 33)) fun e W' =>
        (e = .returned (.bool true) ∧ J (i + 1) W' ∧ Tch U (wr.alloc (.cells #[.int .i64 x.f, .int .i64 x.t] 33)) W') ∨ (e = .returned (.bool false) ∧ Jx (i + 1) W' ∧ Tch U (wr.alloc (.cells #[.int .i64 x.f, .int .i64 x.t] 33)) W') :=
      HY.out i _ _ hsz2 HJ2.out (by have := (List.getElem?_eq_some_iff.1 hx).1; exact this) ⟨x, hx, rfl⟩ (m0 - 1)
    obtain ⟨fn, tmps, assign, body, hy, hR⟩ := hcy
    have HR := Lib.hid hR
    clear hx hby hj hal hR
    gi_wp2_with fail
    refine ⟨fun h => (by simp [Fence.wide] at h), HR.out.mono ?_⟩
    clear hy c0 c1
    rintro e w7 (⟨rfl, hJ7, ht7⟩ | ⟨rfl, hJ7, -⟩)
    · have HJ7 := Lib.hid hJ7; have HT7 := Lib.hid ht7
      clear hJ7 ht7 HR
      gi_wp2_with fail
      exact ⟨⟨i + 1, by omega, by go_num, by have := HT7.out.size; omega, HT7.out.sps HB2.out (fun g2 off2 e hp => HUA.out g2 off2 e hp), HJ7.out⟩, by simp [intOf]; omega⟩
    · have HJ7 := Lib.hid hJ7
      clear hJ7 HR
      gi_wp2_with fail
      exact bodyPost_ret (results_none rfl _ _ _) rfl ⟨⟨_, rfl⟩, .inr ⟨i + 1, by have := HB2.out.1; omega, HJ7.out⟩⟩
  · obtain rfl : i = n := by omega
    have hji : ¬ ((i : Int) < (i : Int)) := by omega
    clear hby hj
    gi_wp2_with fail
    exact bodyPost_end (results_none rfl _ _ _) rfl ⟨⟨_, rfl⟩, .inl (by rw [HBY.out.1]; exact HJK.out)⟩
theorem values_c (a : Option Addr) (n c : Nat) (l : List Sp) (w : World) (hk : Sps w a n l) :
    Calls Try.prog 54 #[.slice a n c] w fun e w' => ∃ Bk, e = .returned (.func (.func 63) #[] #[.pointer (some ⟨Bk, 0, none⟩)]) ∧ w.heap.size ≤ Bk ∧ Boxed w' Bk 49 (.slice a n c) ∧ Sps w' a n l ∧ Below w.heap.size w w' := by
  have h1 := Boxed.new w 49 (.slice a n c)
  have hb := (Below.refl w.heap.size w).alloc (Nat.le_refl _) (.cells #[.slice a n c] 49)
  have HB := Lib.hid hb; have HS := Lib.hid h1; have HY := Lib.hid (hk.below hb)
  clear h1 hb hk
  go_enter Try.func54, Try.ntmps54
  go_wp2_with fail
  go_ret
  exact ⟨w.heap.size, rfl, Nat.le_refl _, HS.out, HY.out, HB.out⟩
theorem all_c (p : Nat) (l : List Sp) (a : Option Addr) (c : Nat) (w : World) (h : IsSet w p l a c) (hn : l.length ≤ 1000000) :
    Calls Try.prog 36 #[.pointer (some ⟨p, 0, none⟩)] w fun e w' => ∃ Bk a' c', e = .returned (.func (.func 63) #[] #[.pointer (some ⟨Bk, 0, none⟩)]) ∧ w.heap.size ≤ Bk ∧ Boxed w' Bk 49 (.slice a' l.length c') ∧ Sps w' a' l.length l ∧ (∀ g off, a' = some ⟨g, off, none⟩ → w.heap.size ≤ g) ∧ Below w.heap.size w w' := by
  have H := Lib.hid h
  obtain ⟨n, hnn⟩ : ∃ n, n = l.length := ⟨_, rfl⟩
  have hbk := h.blk
  have hrw := h.row
  rw [← hnn] at hbk hrw hn ⊢
  have c0 : w.cell? ⟨p, 0, none⟩ = some (.slice a n c) := hbk.cell (i := 0) rfl
  have HBK := Lib.hid hbk; have HRW := Lib.hid hrw; have HN := Lib.hid hnn
  clear h hbk hrw hnn
  go_enter Try.func36, Try.ntmps36
  go_wp2_with fail
  refine (none_c p a n c w HBK.out).mono ?_
  rintro e w' ⟨rfl, rfl⟩
  go_wp2_with fail
  refine (clone_sps a n c l w HRW.out hn).mono ?_
  rintro e w2 ⟨v, rfl, ho, hb2⟩
  obtain ⟨a2, c2, hv, hc2, hs2, hlo⟩ := ho.sps
  rw [← HN.out] at hv hs2
  subst hv
  have HS2 := Lib.hid hs2; have HB2 := Lib.hid hb2; have HLO := Lib.hid hlo
  have hz2 := hb2.size
  clear ho hs2 hb2 hlo c0
  go_wp2_with fail
  refine (values_c a2 n c2 l w2 HS2.out).mono ?_
  rintro e w3 ⟨Bk, rfl, hBk, hbx, hs3, hb3⟩
  have HBX := Lib.hid hbx; have HS3 := Lib.hid hs3
  have HB3 := Lib.hid (HB2.out.trans (hb3.mono HB2.out.size))
  clear hbx hs3 hb3
  go_wp2_with fail
  go_ret
  exact ⟨Bk, a2, c2, rfl, by omega, HBX.out, HS3.out, fun g off e => (HLO.out g off e).1, HB3.out⟩
end Go.Proofs.Ytlgpoaapmgcloaa
