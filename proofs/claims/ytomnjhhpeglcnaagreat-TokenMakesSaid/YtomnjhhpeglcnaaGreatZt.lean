/- Contracts: keys, one after another. Contracts: bytes of keys. -/
import Derived.Test.YtomnjhhpeglcnaaGreatZs
import Derived.Lib.ConvBytes
import Derived.Scope
import Derived.WalkMore
import Derived.AtR
import Derived.Deep.WholeRow
namespace Go.Proofs.YtomnjhhpeglcnaaGreat
open Go.RowKit Go.Shelf
attribute [local go_sem] Oper.semAt_some
set_option linter.unusedSimpArgs false
set_option linter.unusedVariables false
set_option maxRecDepth 100000

theorem conv_bytes (w : World) (s : ByteArray) : ∃ c w', (convert 9 40 (.string s)).run Tryz.prog w = .ok (.slice (some ⟨w.heap.size, 0, none⟩) s.size c) w' ∧ Bys w' (some ⟨w.heap.size, 0, none⟩) s.size (strB s) ∧ Below w.heap.size w w' ∧ w'.heap.size = w.heap.size + 1 ∧ s.size ≤ c := by
  refine ⟨_, _, Lib.run_convert_string_bytes w 9 40 5 s Tryz.underlying9 Tryz.underlying40 Tryz.underlying5, ⟨strB_len s, fun i c hi => ⟨w.heap.size, 0, rfl, by rw [Lib.bytesWorld_size]; omega, ?_⟩⟩, ⟨rfl, rfl, rfl, by rw [Lib.bytesWorld_size]; omega, fun j hj => Lib.bytesWorld_at_old w _ s j hj⟩, Lib.bytesWorld_size w _ s, grownCap_ge w _ _ _⟩
  have hlt := (List.getElem?_eq_some_iff.1 hi).1
  rw [strB_len] at hlt
  rw [Nat.zero_add, Lib.bytesWorld_cell w _ s i hlt]
  unfold strB at hi
  rw [List.getElem?_map, Option.map_eq_some_iff] at hi
  obtain ⟨b, hb, rfl⟩ := hi
  simp [List.getD, hb]
theorem wpl_conv_bytes {ops : Array Oper} {rest : List Oper} {o : Oper} {a : Act} {w : World} {Q : Exit → Act → World → Prop} (hgd : o.guard = none) (x : Operand) (ho : o.op = .convert 9 40 x) (s : ByteArray) (hx : a.eval x = .string s)
    (h : ∀ c w', Bys w' (some ⟨w.heap.size, 0, none⟩) s.size (strB s) → Below w.heap.size w w' → w'.heap.size = w.heap.size + 1 → s.size ≤ c → wpList Tryz.prog ops Q rest (a.put o.dst (.slice (some ⟨w.heap.size, 0, none⟩) s.size c)) w') : wpList Tryz.prog ops Q (o :: rest) a w := by
  refine wpList_plain hgd fun K hK => ?_
  obtain ⟨c, w', hrun, h1, h2, h3, h4⟩ := conv_bytes w s
  unfold Oper.wp execOp
  simp only [ho, Sem.run_bind, Sem.run_pure, Result.andThen_ok, hx, hrun]
  exact hK _ _ (h c w' h1 h2 h3 h4)
theorem Tch.boxed {S : Nat → Prop} {w w' : World} {B : Nat} {t : TypeId} {v : Value} (h : Tch S w w') (hb : Boxed w B t v) (hB : ¬ S B) : Boxed w' B t v := (h.block B hb.lt hB).trans hb
theorem boxed_below {w w' : World} {N B : Nat} {t : TypeId} {v : Value} (hb : Boxed w B t v) (h : Below N w w') (hB : B < N) : Boxed w' B t v := (h.block B hB).trans hb

section
variable {P : Program} {F : Fence} {n : Nat} {b : Frame} {a : Act} {k : List Item} {cs : List Frame} {w : World} {Q : Exit → Act → World → Prop}
theorem stepR_scope {c : Code} : step P (lone (b.atR a (.code (.scope c) :: k)) cs w) = .next (lone (b.atR a (.code c :: .inScope c :: k)) cs w) :=
  step_lone_go (by simp [stepG, stepG.exec, Frame.atR])
theorem stepR_inScope {c : Code} : step P (lone (b.atR a (.inScope c :: k)) cs w) = .next (lone (b.atR a k) cs w) :=
  step_lone_go (by simp [stepG, stepG.exec, Frame.atR])
/-- A scope through which the run goes without a goto, inside a fence. -/
theorem wpIn_scope_straight {c : Code} (h : c.wpIn F n P (Exit.noGoto Q) a w) : (Code.scope c).wpIn F n P Q a w := by
  intro b k cs hro hb hr
  have h0 : (lone (b.atR a (.code (.scope c) :: k)) cs w).fenced P F := fenced_calm hb hr rfl
  obtain ⟨e, a₁, w₁, hq, harr⟩ := h b (.inScope c :: k) cs hro hb hr
  cases e with
  | normal => exact ⟨.normal, a₁, w₁, hq, .head h0 stepR_scope (StepsIn.trans harr (.one (fenced_calm hb hr rfl) stepR_inScope))⟩
  | exit id =>
    have hx : exitTo id (.inScope c :: k) = exitTo id k := by simp [exitTo]
    exact ⟨.exit id, a₁, w₁, hq, fun k' hk => .head h0 stepR_scope (harr.1 k' (by rw [hx]; exact hk)), fun hr' hk => let ⟨k₁, h1, h2⟩ := harr.2 hr' (by rw [hx]; exact hk); ⟨k₁, h1, .head h0 stepR_scope h2⟩⟩
  | goto l => exact hq.elim
  | ret => exact ⟨_, a₁, w₁, hq, .of_steps (.one h0 stepR_scope) harr⟩
  | panic ch => exact ⟨_, a₁, w₁, hq, .of_steps (.one h0 stepR_scope) harr⟩
  | outgrown => exact ⟨_, a₁, w₁, hq, .of_steps (.one h0 stepR_scope) harr⟩
end

theorem prs3 {W w' : World} {a a' a'' : Option Addr} {n n' n'' c c' c'' : Nat} {t : TypeId} {l l' l'' : List By} (h : W.alloc (.cells #[.slice a n c, .slice a' n' c', .slice a'' n'' c''] t) = w') (h1 : Bys W a n l) (h2 : Bys W a' n' l') (h3 : Bys W a'' n'' l'') (hn : n ≤ 1000000000) (hn' : n' ≤ 1000000000) (hn'' : n'' ≤ 1000000000) :
    Prs w' (some ⟨W.heap.size, 0, none⟩) 3 [l, l', l''] ∧ Below W.heap.size W w' := by
  have hb := (alloc_facts h).2
  have e1 := h1.1
  have e2 := h2.1
  have e3 := h3.1
  subst h
  refine ⟨⟨rfl, fun i p hi => ?_⟩, hb⟩
  match i with
  | 0 =>
    simp at hi; subst hi
    exact ⟨by omega, W.heap.size, 0, a, c, rfl, by simp, by rw [e1]; exact blk0 rfl, by rw [e1]; exact h1.below hb⟩
  | 1 =>
    simp at hi; subst hi
    exact ⟨by omega, W.heap.size, 0, a', c', rfl, by simp, by rw [e2]; exact blk0 rfl, by rw [e2]; exact h2.below hb⟩
  | 2 =>
    simp at hi; subst hi
    exact ⟨by omega, W.heap.size, 0, a'', c'', rfl, by simp, by rw [e3]; exact blk0 rfl, by rw [e3]; exact h3.below hb⟩
  | j + 3 => simp at hi
/-- The last one of k keys. -/
def lastB (key label : List By) : Nat → List By
  | 0 => []
  | k + 1 => tagB key (lastB key label k ++ label ++ [BitVec.ofNat 8 (k + 1)])
theorem lastB_len (key label : List By) (k : Nat) : (lastB key label (k + 1)).length = 32 := tagB_len _ _
theorem lastB_le (key label : List By) (k : Nat) : (lastB key label k).length ≤ 32 := by
  cases k with
  | zero => simp [lastB]
  | succ k => rw [lastB_len]; exact Nat.le_refl _
/-- A value that is a key. -/
def KeyV (key label : List By) (B k : Nat) (v : Value) (W : World) : Prop := ∃ g, v = .slice (some ⟨g, 0, none⟩) 32 32 ∧ B ≤ g ∧ Bys W (some ⟨g, 0, none⟩) 32 (lastB key label (k + 1))
/-- What the iterator keeps. -/
structure KeySt (W : World) (Bk Bl : Nat) (a : Option Addr) (n c : Nat) (key : List By) (s : ByteArray) : Prop where
  kb : Boxed W Bk 40 (.slice a n c)
  lb : Boxed W Bl 9 (.string s)
  key : Bys W a n key
theorem KeySt.below {W W' : World} {Bk Bl : Nat} {a : Option Addr} {n c : Nat} {key : List By} {s : ByteArray} (h : KeySt W Bk Bl a n c key s) (hb : Below W.heap.size W W') : KeySt W' Bk Bl a n c key s :=
  ⟨boxed_below h.kb hb h.kb.lt, boxed_below h.lb hb h.lb.lt, h.key.below hb⟩
theorem KeySt.tch {S : Nat → Prop} {W W' : World} {Bk Bl : Nat} {a : Option Addr} {n c : Nat} {key : List By} {s : ByteArray} (h : KeySt W Bk Bl a n c key s) (ht : Tch S W W') (h1 : ¬ S Bk) (h2 : ¬ S Bl) (h3 : ∀ g off, a = some ⟨g, off, none⟩ → 0 < n → ¬ S g) : KeySt W' Bk Bl a n c key s :=
  ⟨ht.boxed h.kb h1, ht.boxed h.lb h2, ht.bys h.key h3⟩
def KeyIt (Bk Bl : Nat) (a : Option Addr) (n c : Nat) (key : List By) (s : ByteArray) (W : World) (U : Nat → Prop) : Prop :=
  KeySt W Bk Bl a n c key s ∧ ∀ i, U i → i < W.heap.size ∧ i ≠ Bk ∧ i ≠ Bl ∧ ∀ off, a = some ⟨i, off, none⟩ → ¬ 0 < n

set_option maxHeartbeats 4000000 in
theorem keys_gives (Bk Bl : Nat) (a : Option Addr) (n c : Nat) (key : List By) (s : ByteArray) (hn : n ≤ 1000000) (hs : s.size ≤ 1000000) :
    Gives1 84 #[.pointer (some ⟨Bk, 0, none⟩), .pointer (some ⟨Bl, 0, none⟩)] 255 (KeyV key (strB s)) (KeyIt Bk Bl a n c key s) True := by
  intro m0 l0 J Jx U W hIt _ hJ hJx hY h0
  obtain ⟨hst, hU⟩ := hIt
  have z := zero36
  obtain ⟨Z, hZ⟩ : ∃ Z, Z = bya (List.replicate 32 0#8) := ⟨_, rfl⟩
  rw [← hZ] at z
  have HZS : Hid (Z.size = 32) := Lib.hid (by rw [hZ]; rfl)
  clear hZ
  have HST := Lib.hid hst
  have HJ := Lib.hid hJ; have HJX := Lib.hid hJx; have HY := Lib.hid hY; have HU := Lib.hid hU; have H0 := Lib.hid h0
  clear hst hJ hJx hY hU h0
  refine callsIn_of_wp Tryz.func84 rfl trivial ?_ rfl
  simp only [Tryz.ntmps84, List.size_toArray, List.length_cons, List.length_nil, Nat.reduceAdd, Nat.reduceSub, Array.replicate_succ, Array.replicate_zero, List.push_toArray, List.append_toArray, List.nil_append, List.cons_append]
  gi_wp2_with fail
  refine wpIn_scope_straight ?_
  gi_wp2_with fail
  refine wpIn_label ?_
  gi_wp2_with fail
  gi_loopw [4, 7] (fun lv kv wr => ∃ (k : Nat) (al : Option Addr) (ml cl : Nat), k ≤ 255 ∧ kv = .int .i64 (k : Int) ∧ ml = (lastB key (strB s) k).length ∧ lv = .slice al ml cl ∧ Bys wr al ml (lastB key (strB s) k) ∧ (∀ g off, al = some ⟨g, off, none⟩ → W.heap.size ≤ g) ∧ KeySt wr Bk Bl a n c key s ∧ W.heap.size ≤ wr.heap.size ∧ J k wr) (fun _ kv _ => 255 - (intOf kv).toNat)
  case atStart => exact ⟨0, none, 0, 0, by omega, rfl, rfl, rfl, ⟨rfl, fun i c hi => by simp [lastB] at hi⟩, (fun g off e => nomatch e), HST.out, Nat.le_refl _, H0.out⟩
  case round =>
  obtain ⟨k, al, ml, cl, hk, rfl, hml, rfl, hly, hlg, hst, hsz, hj⟩ := hrel
  have HLY := Lib.hid hly; have HLG := Lib.hid hlg; have HS := Lib.hid hst; have HJK := Lib.hid hj; have HML := Lib.hid hml
  have hml2 : ml ≤ 32 := by rw [hml]; exact lastB_le _ _ _
  clear hly hlg hst hj hml
  by_cases hlt : k < 255
  · have hc1 := HS.out.kb.cell
    have hc2 := HS.out.kb.frozen
    have hc3 := HS.out.lb.cell
    have hc4 := HS.out.lb.frozen
    have hw8 : IntKind.u8.wrap ((k : Int) + 1) = (k : Int) + 1 := by rw [show ((k : Int) + 1) = ((k + 1 : Nat) : Int) by omega, IntWalk.u8_in _ (by omega)]
    obtain ⟨c2, w2, hcv, hy2, hb2, hz2, hc2⟩ := conv_bytes wr s
    have hal := (Below.refl w2.heap.size w2).alloc (Nat.le_refl _) (.cells #[.int .u8 ((k : Int) + 1)] 5)
    have HB2 := Lib.hid hb2
    have HY2 := Lib.hid (hy2.below hal)
    have HLa := Lib.hid ((HLY.out.below hb2).below hal)
    clear hy2 hb2
    gi_wp2_with fail
    generalize hw4 : World.alloc _ _ = w4
    have HY1 : Hid (Bys (w2.alloc (.cells #[.int .u8 ((k : Int) + 1)] 5)) (some ⟨wr.heap.size + 1, 0, none⟩) 1 [BitVec.ofNat 8 (k + 1)]) := Lib.hid (by
      have := Bys.lit (W := w2) (cs := #[.int .u8 ((k : Int) + 1)]) (l := [BitVec.ofNat 8 (k + 1)]) (n := 1) 5 (by simp [bl, Nat.mod_eq_of_lt (show k + 1 < 256 by omega)]) rfl
      rw [hz2] at this
      exact this)
    obtain ⟨hpr, hb4⟩ := prs3 hw4 HLa.out HY2.out HY1.out (by omega) (by omega) (by omega)
    have hz4 : (w2.alloc (.cells #[.int .u8 ((k : Int) + 1)] 5)).heap.size = wr.heap.size + 1 + 1 := by simp [hz2]
    rw [hz4] at hpr
    have HB4 := Lib.hid (HB2.out.trans ((hal.trans (hb4.mono (by rw [hz4]; omega))).mono (by omega)))
    have HPR := Lib.hid hpr
    have HK4 := Lib.hid (HS.out.key.below HB4.out)
    clear hw4 hpr hb4 hal hz4 HY1 HLa HY2 HB2 hcv
    refine ⟨trivial, fun h => (by simp [Fence.wide] at h), (callsIn_wide.2 (tag_c a n c key _ 3 3 [lastB key (strB s) k, strB s, [BitVec.ofNat 8 (k + 1)]] w4 HK4.out hn HPR.out (by decide) ?_)).mono ?_⟩
    · simp only [List.flatten_cons, List.flatten_nil, List.append_nil, List.length_append, strB_len, List.length_cons, List.length_nil]
      have := lastB_le key (strB s) k
      omega
    rintro e w5 ⟨rfl, hb5⟩
    have eT : tagB key [lastB key (strB s) k, strB s, [BitVec.ofNat 8 (k + 1)]].flatten = lastB key (strB s) (k + 1) := by simp [lastB]
    rw [eT]
    have HB5 := Lib.hid (HB4.out.trans (hb5.mono HB4.out.size))
    have hT32 := lastB_len key (strB s) k
    obtain ⟨T, hT⟩ : ∃ T, T = lastB key (strB s) (k + 1) := ⟨_, rfl⟩
    rw [← hT] at hT32 ⊢
    have HTE := Lib.hid hT
    have HT32 := Lib.hid hT32
    have HPK := HPR
    clear hT hT32 eT hb5 HPR HK4
    clear hc1 hc2 hc3 hc4
    have hTs : (bya T).size = 32 := by rw [bya_size, HT32.out]
    have hst := run_storeCells_new (P := Tryz.prog) w5 134 Z (bya T) (by rw [hTs]; exact info104) (by rw [hTs, HZS.out]) (bya_one _)
    have HB6 := Lib.hid (HB5.out.alloc HB5.out.size (.cells (bya T) 134))
    have HBT : Hid (Bys (w5.alloc (.cells (bya T) 134)) (some ⟨w5.heap.size, 0, none⟩) 32 (lastB key (strB s) (k + 1))) := Lib.hid (by rw [← HTE.out]; have := bys_blk (Blk.new w5 134 (bya T)); rw [HT32.out] at this; exact this)
    have hz6 : (w5.alloc (.cells (bya T) 134)).heap.size = w5.heap.size + 1 := by simp
    have hz5 := HB5.out.size
    obtain ⟨g, hg⟩ : ∃ g, g = w5.heap.size := ⟨_, rfl⟩
    have hgW : W.heap.size ≤ g := by omega
    have HG := Lib.hid hg
    generalize hw6 : w5.alloc (.cells (bya T) 134) = w6 at hst HB6 HBT hz6
    rw [← hg] at HBT
    have HS6 := Lib.hid (HS.out.below HB6.out)
    have HJ6 := Lib.hid (HJ.out _ _ _ HB6.out HJK.out)
    have hcy : ∃ fn tmps assign body, (Instr.yield l0 #[.slice (some ⟨w5.heap.size, 0, none⟩) 32 32]).run Tryz.prog w6 = .ok (.round l0 fn tmps assign body) w6 ∧ RoundIn Fence.wide (m0 - 1) Tryz.prog l0 fn tmps assign body w6 fun e W' =>
        (e = .returned (.bool true) ∧ J (k + 1) W' ∧ Tch U w6 W') ∨ (e = .returned (.bool false) ∧ Jx (k + 1) W' ∧ Tch U w6 W') := by
      rw [← hg]
      exact HY.out k _ w6 (by omega) HJ6.out hlt ⟨g, rfl, hgW, HBT.out⟩ (m0 - 1)
    obtain ⟨fn, tmps, assign, body, hy, hR⟩ := hcy
    have HR := Lib.hid hR; clear hR hw6 hg
    clear HJK HS HB4 HB5 HLY HLG HTE
    gi_wp2_with fail
    refine ⟨fun h => (by simp [Fence.wide] at h), HR.out.mono ?_⟩
    clear hy hst
    rintro e w7 (⟨rfl, hJ7, ht7⟩ | ⟨rfl, hJ7, -⟩)
    · have HJ7 := Lib.hid hJ7; have HT7 := Lib.hid ht7
      have HS7 := Lib.hid (HS6.out.tch ht7 (fun e => (HU.out _ e).2.1 rfl) (fun e => (HU.out _ e).2.2.1 rfl) (fun g off e hp e2 => (HU.out _ e2).2.2.2 off e hp))
      have HBT7 := Lib.hid (ht7.bys HBT.out (fun g2 off e _ e2 => by injection e with e; injection e with e1 _; have := (HU.out _ e2).1; omega))
      have hz7 := ht7.size
      rw [← HG.out]
      clear hJ7 ht7 HR
      gi_wp2_with fail
      go_roundw
      case rel => exact ⟨k + 1, some ⟨g, 0, none⟩, 32, 32, by omega, by go_num, (lastB_len _ _ _).symm, rfl, HBT7.out, fun g2 off e => by injection e with e; injection e with e1 _; omega, HS7.out, by omega, HJ7.out⟩
      case measure => simp [intOf]; omega
    · have HJ7 := Lib.hid hJ7
      clear hJ7 HR
      gi_wp2_with fail
      rw [Exit.noGoto_normal]
      refine bodyPost_end (results_none rfl _ _ _) rfl ?_
      exact ⟨⟨_, rfl⟩, .inr ⟨_, by omega, HJ7.out⟩⟩
  · obtain rfl : k = 255 := by omega
    gi_wp2_with fail
    rw [Exit.noGoto_normal]
    refine bodyPost_end (results_none rfl _ _ _) rfl ?_
    exact ⟨⟨_, rfl⟩, .inl HJK.out⟩
end Go.Proofs.YtomnjhhpeglcnaaGreat

namespace Go.Proofs.YtomnjhhpeglcnaaGreat
open Go.RowKit Go.Shelf
attribute [local go_sem] Oper.semAt_some
set_option linter.unusedSimpArgs false
set_option linter.unusedVariables false
set_option maxRecDepth 100000

theorem keys_c (a : Option Addr) (n c : Nat) (key : List By) (s : ByteArray) (w : World) (hk : Bys w a n key) :
    Calls Tryz.prog 78 #[.slice a n c, .string s] w fun e w' => ∃ Bk Bl, e = .returned (.func (.func 84) #[] #[.pointer (some ⟨Bk, 0, none⟩), .pointer (some ⟨Bl, 0, none⟩)]) ∧ w.heap.size ≤ Bk ∧ w.heap.size ≤ Bl ∧ KeySt w' Bk Bl a n c key s ∧ Below w.heap.size w w' := by
  have hmf : ∀ (fn : Fn) (first cap : Array Value) (w : World), (Instr.makeFunc fn first cap).run Tryz.prog w = .ok (.func fn first cap) w := fun _ _ _ _ => rfl
  have h1 := (Boxed.new w 40 (.slice a n c)).alloc (.cells #[.string s] 9)
  have h2 := Boxed.new (w.alloc (.cells #[.slice a n c] 40)) 9 (.string s)
  have hb := ((Below.refl w.heap.size w).alloc (Nat.le_refl _) (.cells #[.slice a n c] 40)).alloc (by simp) (.cells #[.string s] 9)
  have HB := Lib.hid hb
  have HS : Hid (KeySt ((w.alloc (.cells #[.slice a n c] 40)).alloc (.cells #[.string s] 9)) w.heap.size (w.heap.size + 1) a n c key s) := Lib.hid ⟨h1, by simpa using h2, hk.below hb⟩
  clear h1 h2 hb hk
  go_enter Tryz.func78, Tryz.ntmps78
  go_wp2_with fail
  go_ret
  exact ⟨w.heap.size, w.heap.size + 1, rfl, Nat.le_refl _, by omega, HS.out, HB.out⟩
theorem wplIn_append_bys {F : Fence} {n : Nat} {ops : Array Oper} {rest : List Oper} {o : Oper} {a : Act} {w : World} {Q : Exit → Act → World → Prop} (hgd : o.guard = none) (s x : Operand)
    (hop : o.op = .call { callee := .builtin .append, args := #[s, x], argTypes := #[40, 40] })
    (base : Nat) (v : Value) (l : List By) (hs : a.eval s = v) (hown : OwnB w base v l) (A : Option Addr) (m c : Nat) (news : List By) (hx : a.eval x = .slice A m c) (hr : Bys w A m news)
    (hsz : l.length + m ≤ 1000000000000) (hbase : base ≤ w.heap.size)
    (h : ∀ v' w', OwnB w' base v' (l ++ news) → w.grownBy w' v.ownBlock → (v ≠ .slice none 0 0 → v' ≠ .slice none 0 0) → wpListIn F n Tryz.prog ops Q rest (a.put o.dst v') w') : wpListIn F n Tryz.prog ops Q (o :: rest) a w := by
  refine wpListIn_plain hgd fun K hK' => ?_
  obtain ⟨v', w', hrun, h2, h3, h4⟩ := run_append_bys w base v l hown o.type A m c news hr hsz hbase
  unfold Oper.wpIn
  refine ⟨?_, ?_⟩
  · simp [Oper.about, hop, resolve, Target.leads, Sem.run_pure]
  · rw [Oper.semAt_plain F _ _ (by rw [hop]; intro c hc'; cases hc')]
    simp [execOp, hop, resolve, invoke, builtin, hs, hx, hrun, Result.andThen]
    exact hK' _ _ (h v' w' h2 h3 h4)
/-- What lies behind k keys. -/
structure OutSt (w W : World) (Bo Bn Bx : Nat) (l : List By) : Prop where
  out : ∃ v, Boxed W Bo 40 v ∧ OwnB W Bx v l ∧ (l = [] → v = .slice none 0 0)
  num : Boxed W Bn 3 (.int .i64 32)
  bel : Below w.heap.size w W
theorem OutSt.tch {S : Nat → Prop} {w X Y : World} {Bo Bn Bx : Nat} {l : List By} (h : OutSt w X Bo Bn Bx l) (ht : Tch S X Y) (h1 : ¬ S Bo) (h2 : ¬ S Bn) (h3 : ∀ i, S i → w.heap.size ≤ i) (h4 : ∀ i, S i → i < Bx) : OutSt w Y Bo Bn Bx l := by
  obtain ⟨v, hv, ho, hn⟩ := h.out
  exact ⟨⟨v, ht.boxed hv h1, ht.own ho (fun i e e2 => by have := (own_lt ho i e).1; have := h4 i e2; omega), hn⟩, ht.boxed h.num h2, h.bel.trans (ht.below h.bel.size h3)⟩
set_option maxHeartbeats 4000000 in
theorem derive_in (m0 : Nat) (a : Option Addr) (n c : Nat) (key : List By) (s : ByteArray) (w : World) (hk : Bys w a n key) (hn : n ≤ 1000000) (hs : s.size ≤ 1000000) :
    CallsIn Fence.wide m0 Tryz.prog 57 #[.slice a n c, .string s, .int .i64 32] w fun e w' => ∃ v, e = .returned (.tuple #[v, .int .i64 0]) ∧ OwnB w' w.heap.size v (lastB key (strB s) 1) ∧ Below w.heap.size w w' := by
  have HK := Lib.hid hk; clear hk
  refine callsIn_of_wp_marks Tryz.func57 rfl trivial ?_ rfl
  simp only [Tryz.ntmps57, List.size_toArray, List.length_cons, List.length_nil, Nat.reduceAdd, Nat.reduceSub, Array.replicate_succ, Array.replicate_zero, List.push_toArray, List.append_toArray, List.nil_append, List.cons_append]
  have b1 := Boxed.new w 3 (.int .i64 32)
  have hc1 := b1.cell
  have hf1 := b1.frozen
  gi_wp2_with fail
  obtain ⟨w2, hw2⟩ : ∃ w2, w2 = (w.alloc (.cells #[.int .i64 32] 3)).alloc (.cells #[.slice none 0 0] 40) := ⟨_, rfl⟩
  have hz2 : w2.heap.size = w.heap.size + 2 := by rw [hw2]; simp
  have bO : Boxed w2 (w.heap.size + 1) 40 (.slice none 0 0) := by rw [hw2]; have := Boxed.new (w.alloc (.cells #[.int .i64 32] 3)) 40 (.slice none 0 0); simpa using this
  have bN : Boxed w2 w.heap.size 3 (.int .i64 32) := by rw [hw2]; exact b1.alloc _
  have hb2 : Below w.heap.size w w2 := by rw [hw2]; exact ((Below.refl w.heap.size w).alloc (Nat.le_refl _) _).alloc (by simp) _
  rw [← hw2]
  clear hw2 hc1 hf1 b1
  have HK2 := Lib.hid (HK.out.below hb2)
  refine ⟨trivial, fun h => (by simp [Fence.wide] at h), (callsIn_wide.2 (keys_c a n c key s w2 HK2.out)).mono ?_⟩
  rintro e w3 ⟨Bk, Bl, rfl, hBk, hBl, hst, hb3⟩
  have HS3 := Lib.hid hst
  have HO3 : Hid (OutSt w w3 (w.heap.size + 1) w.heap.size (w3.heap.size + 2) []) := Lib.hid ⟨⟨_, boxed_below bO hb3 bO.lt, own_nil _ _, fun _ => rfl⟩, boxed_below bN hb3 bN.lt, hb2.trans (hb3.mono hb2.size)⟩
  have hkl : Bk < w3.heap.size ∧ Bl < w3.heap.size := ⟨hst.kb.lt, hst.lb.lt⟩
  have hz3 : w.heap.size + 2 ≤ w3.heap.size := by have := hb3.size; omega
  have hkx : ∀ off, a = some ⟨w.heap.size + 1, off, none⟩ → ¬ 0 < n := by
    intro off e h0
    obtain ⟨g, off', e', hg, _⟩ := HK.out.cells h0
    rw [e] at e'
    injection e' with e'
    injection e' with e1
    omega
  have hkx3 : ∀ off, a = some ⟨w3.heap.size + 1, off, none⟩ → ¬ 0 < n := by
    intro off e h0
    obtain ⟨g, off', e', hg, _⟩ := HK.out.cells h0
    rw [e] at e'
    injection e' with e'
    injection e' with e1
    omega
  have HKX := Lib.hid hkx; have HKX3 := Lib.hid hkx3
  clear hst hb3 bO bN hb2 HK2 hkx hkx3
  gi_wp2_with fail
  refine range_gives1 (p := 19) (keys_gives Bk Bl a n c key s hn hs) rfl (enters_of Tryz.func84 (by kernel_rfl) rfl)
    (fun i => i = w.heap.size + 1)
    (fun X hb hz => ⟨HS3.out.below hb, fun i hi => by
      rcases hi with rfl | rfl
      · exact ⟨by omega, by omega, by omega, HKX.out⟩
      · exact ⟨by omega, by omega, by omega, HKX3.out⟩⟩)
    (fun i hi => .inl (by omega))
    (fun k v X Y ht h => by
      obtain ⟨g, rfl, hg, hy⟩ := h
      exact ⟨g, rfl, hg, ht.bys hy (fun g2 off e _ e2 => by injection e with e; injection e with e1 _; omega)⟩)
    (fun k X => k ≤ 1 ∧ OutSt w X (w.heap.size + 1) w.heap.size (w3.heap.size + 2) (lastB key (strB s) k))
    (fun c k X => c = .exit 0 ∧ OutSt w X (w.heap.size + 1) w.heap.size (w3.heap.size + 2) (lastB key (strB s) 1))
    (fun k X Y ht h => ⟨h.1, h.2.tch ht (fun e => by omega) (fun e => by omega) (fun i e => by omega) (fun i e => by omega)⟩)
    (fun c k X Y ht h => ⟨h.1, h.2.tch ht (fun e => by omega) (fun e => by omega) (fun i e => by omega) (fun i e => by omega)⟩)
    (.inl trivial)
    ⟨by omega, HO3.out⟩
    (fun v => { tmps := #[.slice a n c, .string s, .int .i64 32, undef, undef, .pointer (some ⟨w.heap.size, 0, none⟩), .slice none 0 0, .int .i64 0, .pointer (some ⟨w.heap.size + 1, 0, none⟩), v, .int .i64 32, .bool false, .bool false, .int .i64 32, .bool false, .bool false, .slice a n c, .string s, .func (.func 84) #[] #[.pointer (some ⟨Bk, 0, none⟩), .pointer (some ⟨Bl, 0, none⟩)], v, undef, undef, undef, undef, undef, undef, undef, undef, undef, undef, undef], defers := [] })
    ?assign ?body ?done ?stop
  case assign =>
    intro l1 v X K hK
    simp only [List.setIfInBounds_toArray, List.set_cons_zero, List.set_cons_succ] at hK ⊢
    gi_wp2
    exact hK
  case body =>
    intro l1 k v W hzW hI hk hv
    obtain ⟨hk1, hO⟩ := hI
    have hO' := hO
    obtain ⟨u, hu, hown, hnil⟩ := hO.out
    have hcn := hO.num.cell
    have hcu := hu.cell
    have hfu := hu.frozen
    have HO := Lib.hid hO'
    by_cases hk0 : k = 0
    · subst hk0
      have e0 := hnil rfl
      subst e0
      obtain ⟨g, rfl, hg, hy⟩ := hv
      have HY := Lib.hid hy
      clear hO hO' hown hnil hy
      gi_wp2_with (gi_at_builtin; refine wplIn_append_bys rfl _ _ rfl (w3.heap.size + 2) (.slice none 0 0) [] rfl (own_nil _ _) (some ⟨g, 0, none⟩) 32 32 _ rfl HY.out (by simp) hzW ?_)
      intro v' w4 hown4 hg4
      obtain ⟨a4, c4, hv4, -, -⟩ := hown4.bys
      obtain ⟨n4, hn4⟩ : ∃ n4, v' = .slice a4 n4 c4 := ⟨_, hv4⟩
      clear hv4
      subst hn4
      have hB4 : Below W.heap.size W w4 := (Below.refl _ W).grown hg4 (Nat.le_refl _) (fun k e => by simp [Value.ownBlock] at e)
      have hu4 := boxed_below hu hB4 hu.lt
      have hc4 := hu4.cell
      have hf4 := hu4.frozen
      have HU4 := Lib.hid hu4; have HB4 := Lib.hid hB4; have HOW := Lib.hid hown4
      have HN4 := Lib.hid (boxed_below HO.out.num hB4 HO.out.num.lt)
      clear hu hown4 hg4 hB4 hu4 hcn hcu hfu
      gi_wp2_with fail
      have hT : Tch (fun i => i = w.heap.size + 1) W (w4.setCell ⟨w.heap.size + 1, 0, none⟩ (.slice a4 n4 c4)) := Tch.setCell (S := fun i => i = w.heap.size + 1) (Tch.of_below HB4.out (Nat.le_refl _) _) (p := ⟨w.heap.size + 1, 0, none⟩) (.inl rfl) _
      have hT4 : Tch (fun i => i = w.heap.size + 1) w4 (w4.setCell ⟨w.heap.size + 1, 0, none⟩ (.slice a4 n4 c4)) := Tch.setCell (S := fun i => i = w.heap.size + 1) (Tch.refl _ w4) (p := ⟨w.heap.size + 1, 0, none⟩) (.inl rfl) _
      refine ⟨hT, by omega, ⟨(.slice a4 n4 c4), Boxed.set _ HU4.out, hT4.own HOW.out (fun i e e2 => by have := (own_lt HOW.out i e).1; omega), fun e => by have := lastB_len key (strB s) 0; rw [e] at this; simp at this⟩, hT4.boxed HN4.out (by omega), (HO.out.bel.trans (HB4.out.mono HO.out.bel.size)).setCell (by simp) _⟩
    · obtain rfl : k = 1 := by omega
      obtain ⟨au, cu, rfl, hcu2, hyu⟩ := hown.bys
      have h32 := lastB_len key (strB s) 0
      rw [Nat.zero_add] at h32
      rw [h32] at hcu hcu2
      clear hO hO' hu hown hnil hyu
      gi_wp2_with fail
      exact ⟨Tch.refl _ _, rfl, HO.out⟩
  case done =>
    intro D W hD _ _ hi hK
    have := hi.1
    omega
  case stop =>
    rintro D c k W hD hk ⟨rfl, hO⟩ hK
    obtain ⟨v, hu, hown, -⟩ := hO.out
    obtain ⟨au, cu, rfl, hcu2, hyu⟩ := hown.bys
    have h32 := lastB_len key (strB s) 0
    rw [Nat.zero_add] at h32
    rw [h32] at hu hcu2 hyu
    have hcn := hO.num.cell
    have hcu := hu.cell
    have HO := Lib.hid hO; have HK := Lib.hid hK; have HYU := Lib.hid hyu
    have hC : (32 : Int) ≤ (cu : Int) := by omega
    clear hO hu hown hK hyu h32
    gi_wp2_with fail
    refine ⟨trivial, fun h => (by simp [Fence.wide] at h), (callsIn_wide.2 (clone_c _ 32 cu _ W HYU.out (by omega))).mono ?_⟩
    rintro e w5 ⟨v5, rfl, ho5, hb5⟩
    have HO5 := Lib.hid ho5; have HB5 := Lib.hid hb5
    have HK5 := Lib.hid ((hb5.block D (Array.getElem?_eq_some_iff.1 HK.out).1).trans HK.out)
    have hDW : D < W.heap.size := (Array.getElem?_eq_some_iff.1 HK.out).1
    clear ho5 hb5 hcn hcu
    gi_wp2_with fail
    refine ⟨by simp, .inl ⟨_, _, rfl, run_takeDeferred HK5.out, ?_⟩⟩
    have hT := (Tch.refl (fun i => i = D) w5).putObj1 (r := D) (.inl rfl) (.deferred none)
    refine ⟨_, results_tmp2 rfl _ _ _, v5, rfl, ?_, ?_⟩
    · exact own_low (hT.own HO5.out (fun i e e2 => by have := (own_lt HO5.out i e).1; omega)) HO.out.bel.size
    · exact (HO.out.bel.trans (HB5.out.mono HO.out.bel.size)).trans (hT.below (by have := HO.out.bel.size; have := HB5.out.size; omega) (fun i e => by omega))
theorem derive_c (a : Option Addr) (n c : Nat) (key : List By) (s : ByteArray) (w : World) (hk : Bys w a n key) (hn : n ≤ 1000000) (hs : s.size ≤ 1000000) :
    Calls Tryz.prog 57 #[.slice a n c, .string s, .int .i64 32] w fun e w' => ∃ v, e = .returned (.tuple #[v, .int .i64 0]) ∧ OwnB w' w.heap.size v (lastB key (strB s) 1) ∧ Below w.heap.size w w' :=
  callsIn_wide.1 (derive_in 0 a n c key s w hk hn hs)
end Go.Proofs.YtomnjhhpeglcnaaGreat
