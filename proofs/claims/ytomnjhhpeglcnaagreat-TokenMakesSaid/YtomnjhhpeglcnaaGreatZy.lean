/- Contracts: what is given up with, and caught. Contracts: the bytes of a text. Contracts: lists put together, numbers that may be. Contracts: a token's bytes under a key. Contracts: a token is made. Contracts: a token is opened: parts. -/
import Derived.Test.YtomnjhhpeglcnaaGreatZw
import Derived.Test.YtomnjhhpeglcnaaGreatZx
namespace Go.Proofs.YtomnjhhpeglcnaaGreat
open Go.RowKit
set_option linter.unusedSimpArgs false
set_option linter.unusedVariables false
set_option maxRecDepth 100000

/-- What is given up with. -/
def gaveT (x : Int) : List PanicEntry := [{ v := .iface 32 (.int .i64 x), recovered := false }]
theorem mustT_yes (x : Int) (w : World) : Calls Tryz.prog 31 #[.bool true, .int .i64 x] w fun e w' => e = .returned (.tuple #[]) ∧ w = w' := by
  go_enter Tryz.func31, Tryz.ntmps31
  go_wp2
  go_end0
  exact ⟨rfl, rfl⟩
theorem mustT_no (x : Int) (w : World) : Calls Tryz.prog 31 #[.bool false, .int .i64 x] w fun e w' => e = .panicked (gaveT x) ∧ w = w' := by
  go_enter Tryz.func31, Tryz.ntmps31
  go_wp2
  exact ⟨rfl, rfl, rfl⟩
theorem caughtT_idle (v1 v2 : Value) (w : World) :
    CallsD Tryz.prog 29 #[v1, v2] .returning w fun e u' w' => e = .returned (.tuple #[]) ∧ u' = .returning ∧ w' = w := by
  refine callsD_of_wpS Tryz.func29 rfl fun c₀ cs hu => ?_
  simp only [Tryz.ntmps29, List.size_toArray, List.length_cons, List.length_nil, Nat.reduceAdd, Nat.reduceSub, Array.replicate_succ, Array.replicate_zero, List.push_toArray, List.append_toArray, List.nil_append, List.cons_append]
  apply wpS_seq
  apply wpS_region
  simp [wpOpsS, go_sem, recoverD, hu, Exit.thenS]
  refine wpS_of_wp ?_
  go_wp2
  cases c₀
  simp_all [bodyPostS, results, Tryz.results29]
theorem caughtT_c (b2 : Nat) (x y : Int) (f : Nat) (caps : Array Value) (older : List PanicEntry) (w : World) (hx : Blk w b2 32 #[.int .i64 x]) (hen : ∀ args W, (callFunc f args).run Tryz.prog W = .ok (.enter f args) W)
    (R : World → Prop) (hc : ∀ w1, Blk w1 b2 32 #[.int .i64 y] → Tch (fun i => i = b2) w w1 → Calls Tryz.prog f caps w1 fun e w2 => e = .returned (.tuple #[]) ∧ R w2) :
    CallsD Tryz.prog 29 #[.pointer (some ⟨b2, 0, none⟩), .func (.func f) #[] caps] (.panicking ({ v := .iface 32 (.int .i64 y), recovered := false } :: older)) w fun e u' w' =>
      e = .returned (.tuple #[]) ∧ u' = .panicking ({ v := .iface 32 (.int .i64 y), recovered := true } :: older) ∧ R w' := by
  have hta : ∀ W, (Instr.typeAssert (.iface 32 (.int .i64 y)) 20 32 false).run Tryz.prog W = .ok (.int .i64 y) W := fun _ => by kernel_rfl
  have hc0 : w.cell? ⟨b2, 0, none⟩ = some (.int .i64 x) := hx.cell (i := 0) rfl
  have hf0 := hx.frozen 0
  refine callsD_of_wpS Tryz.func29 rfl fun c₀ cs hu => ?_
  simp only [Tryz.ntmps29, List.size_toArray, List.length_cons, List.length_nil, Nat.reduceAdd, Nat.reduceSub, Array.replicate_succ, Array.replicate_zero, List.push_toArray, List.append_toArray, List.nil_append, List.cons_append]
  apply wpS_seq
  apply wpS_region
  simp [wpOpsS, go_sem, recoverD, hu, Exit.thenS]
  refine wpS_of_wp ?_
  have hC := Lib.hid (hc _ (hx.set 0 (.int .i64 y)) ((Tch.refl (fun i => i = b2) w).setCell (p := ⟨b2, 0, none⟩) (.inl rfl) (.int .i64 y)))
  clear hc hx
  go_wp2_with fail
  refine hC.out.mono ?_
  rintro e w2 ⟨rfl, hr⟩
  have HR := Lib.hid hr
  clear hr hta hc0 hf0
  go_wp2_with fail
  cases c₀
  refine ⟨rfl, _, rfl, _, results_none rfl _ _ _, rfl, rfl, HR.out⟩
theorem clear_c (b : Nat) (v : Value) (w : World) (h : Blk w b 40 #[v]) :
    Calls Tryz.prog 46 #[.pointer (some ⟨b, 0, none⟩)] w fun e w' => e = .returned (.tuple #[]) ∧ Blk w' b 40 #[.slice none 0 0] ∧ Tch (fun i => i = b) w w' := by
  have c0 : w.cell? ⟨b, 0, none⟩ = some v := h.cell (i := 0) rfl
  have f0 := h.frozen 0
  have H := Lib.hid h
  clear h
  go_enter Tryz.func46, Tryz.ntmps46
  go_wp2_with fail
  go_end0
  exact ⟨rfl, H.out.set 0 _, (Tch.refl (fun i => i = b) w).setCell (p := ⟨b, 0, none⟩) (.inl rfl) _⟩
end Go.Proofs.YtomnjhhpeglcnaaGreat

namespace Go.Proofs.YtomnjhhpeglcnaaGreat
open Go.RowKit
set_option linter.unusedSimpArgs false
set_option linter.unusedVariables false
set_option maxRecDepth 100000

/-- A way out that is no panic. -/
def NoPan (Q : Exit → Act → World → Prop) : Exit → Act → World → Prop := fun e a w => (∀ c, e ≠ .panic c) ∧ Q e a w
theorem NoPan.no {Q : Exit → Act → World → Prop} {c : List PanicEntry} {a : Act} {w : World} {p : Prop} (h : NoPan Q (.panic c) a w) : p := absurd rfl (h.1 c)
theorem NoPan.norm {Q : Exit → Act → World → Prop} {a : Act} {w : World} (h : Q .normal a w) : NoPan Q .normal a w := ⟨fun c => by simp, h⟩
/-- What Unspell holds. -/
structure UnsSt (w W : World) (v : Value) (b : List By) : Prop where
  bv : Blk W w.heap.size 40 #[v]
  be : Blk W (w.heap.size + 1) 32 #[.int .i64 0]
  own : OwnB W (w.heap.size + 2) v b
  bel : Below w.heap.size w W
theorem getD_strB {s : ByteArray} {i : Nat} (h : i < s.size) : (strB s)[i]? = some (s[i]'h).toBitVec := by
  unfold strB
  have h' : i < s.data.size := h
  rw [List.getElem?_map, Array.getElem?_toList, Array.getElem?_eq_getElem h']
  rfl
theorem drop_strB {s : ByteArray} {i : Nat} (h : i < s.size) : (strB s).drop i = (s[i]'h).toBitVec :: (strB s).drop (i + 1) := by
  have h1 := getD_strB h
  obtain ⟨h2, h3⟩ := List.getElem?_eq_some_iff.1 h1
  rw [List.drop_eq_getElem_cons h2, h3]
set_option maxHeartbeats 4000000 in
theorem unspell_c (s : ByteArray) (w : World) (hs : s.size ≤ 1000000) :
    Calls Tryz.prog 24 #[.string s] w fun e w' => Below w.heap.size w w' ∧
      ((∃ v l, unspellB (strB s) = some l ∧ e = .returned (.tuple #[v, .int .i64 0]) ∧ OwnB w' w.heap.size v l) ∨ (unspellB (strB s) = none ∧ e = .returned (.tuple #[.slice none 0 0, .int .i64 160]))) := by
  have hmf : ∀ (fn : Fn) (first cap : Array Value) (w : World), (Instr.makeFunc fn first cap).run Tryz.prog w = .ok (.func fn first cap) w := fun _ _ _ _ => rfl
  have HEN := Lib.hid (enters_f Tryz.func46 (by kernel_rfl) rfl)
  have HS0 : Hid (UnsSt w ((w.alloc (.cells #[.slice none 0 0] 40)).alloc (.cells #[.int .i64 0] 32)) (.slice none 0 0) []) := Lib.hid ⟨(Blk.new _ _ _).alloc _, Blk.new2 _ _ _ _, own_nil _ _, ((Below.refl w.heap.size w).alloc (Nat.le_refl _) _).alloc (by simp) _⟩
  obtain ⟨l, hl⟩ : ∃ l, l = strB s := ⟨_, rfl⟩
  have HL := Lib.hid hl
  have hll : l.length = s.size := by rw [hl, strB_len]
  rw [← hl]
  clear hl
  have fin : ∀ W v b, UnsSt w W v b → unspellB l = none → ∀ (y : Int), True := fun _ _ _ _ _ _ => trivial
  clear fin
  go_enter_defers Tryz.func24, Tryz.ntmps24
  go_wp2_with fail
  generalize ((w.alloc (.cells #[.slice none 0 0] 40)).alloc (.cells #[.int .i64 0] 32)) = w1 at HS0 ⊢
  go_loopw [4, 5, 11] (fun nv hv iv wr => ∃ (i n h : Nat) (b : List By) (v : Value), i ≤ s.size ∧ nv = .int .i64 (n : Int) ∧ hv = .int .i64 (h : Int) ∧ iv = .int .i64 (i : Int) ∧ h ≤ 7 ∧ n < 2 ^ h ∧ rawG 0 0 l = (rawG n h (l.drop i)).map (fun x => (b ++ x.1, x.2)) ∧ b.length ≤ i ∧ UnsSt w wr v b) (fun _ _ iv _ => s.size - (intOf iv).toNat)
  case atStart => exact ⟨0, 0, 0, [], .slice none 0 0, Nat.zero_le _, rfl, rfl, rfl, by omega, by decide, by simp, by simp, HS0.out⟩
  case round =>
  clear HS0
  obtain ⟨i, n, h, b, v, hi, rfl, rfl, rfl, hh, hn, hraw, hbl, hst⟩ := hrel
  have HST := Lib.hid hst; have HRAW := Lib.hid hraw
  clear hst hraw
  by_cases hlt : i < s.size
  · have hdr := drop_strB hlt
    rw [← HL.out] at hdr
    obtain ⟨c, hc⟩ : ∃ c, c = (s[i]'hlt).toBitVec := ⟨_, rfl⟩
    have hcn : (s[i]'hlt).toNat = c.toNat := by rw [hc]; rfl
    rw [← hc] at hdr
    have HDR := Lib.hid hdr; have HCN := Lib.hid hcn
    clear hdr hcn hc
    go_wp2_with fail
    rw [HCN.out]
    refine (Tryz.strings_IndexByte _ _ _).mono ?_
    rintro e w' ⟨rfl, rfl⟩
    rw [show ((c.toNat : Int).toNat) = c.toNat by omega]
    rcases valS_at c with ⟨hv1, hv2⟩ | ⟨x, hv1, hx32, -, hv2⟩
    · rw [show (⟨#[97, 98, 99, 100, 101, 102, 103, 104, 105, 106, 107, 108, 109, 110, 111, 112, 113, 114, 115, 116, 117, 118, 119, 120, 121, 122, 50, 51, 52, 53, 54, 55]⟩ : ByteArray) = signsB from rfl, hv2]
      go_wp2_with fail
      refine (mustT_no _ _).mono ?_
      rintro e w3 ⟨rfl, rfl⟩
      have HN : Hid (unspellB l = none) := Lib.hid (by
        unfold unspellB
        rw [HRAW.out, HDR.out, rawG_none _ _ _ hv1]
        rfl)
      refine leaves_cons (f := 29) (args := #[.pointer (some ⟨w.heap.size + 1, 0, none⟩), .func (.func 46) #[] #[.pointer (some ⟨w.heap.size, 0, none⟩)]]) (by simp) (by simp [go_sem]) ?_
      refine (caughtT_c (w.heap.size + 1) 0 160 46 _ [] _ HST.out.be HEN.out (fun W => Blk W w.heap.size 40 #[.slice none 0 0] ∧ Blk W (w.heap.size + 1) 32 #[.int .i64 160] ∧ Below w.heap.size w W) ?_).mono ?_
      · intro w4 hb4 ht4
        refine (clear_c w.heap.size v w4 (ht4.blk HST.out.bv (by omega))).mono ?_
        rintro e w5 ⟨rfl, hb5, ht5⟩
        exact ⟨rfl, hb5, ht5.blk hb4 (by omega), (HST.out.bel.trans (ht4.below HST.out.bel.size (fun i e => by omega))).trans (ht5.below (by have := HST.out.bel.size; have := ht4.size; omega) (fun i e => by omega))⟩
      · rintro e u' w5 ⟨rfl, rfl, hb5, he5, hl5⟩
        have k0 : w5.cell? ⟨w.heap.size, 0, none⟩ = some (.slice none 0 0) := hb5.cell (i := 0) rfl
        have k1 : w5.cell? ⟨w.heap.size + 1, 0, none⟩ = some (.int .i64 160) := he5.cell (i := 0) rfl
        refine ⟨.tuple #[.slice none 0 0, .int .i64 160], ?_, hl5, .inr ⟨HN.out, rfl⟩⟩
        simp [results, Tryz.results24, go_sem, k0, k1]
    · rw [show (⟨#[97, 98, 99, 100, 101, 102, 103, 104, 105, 106, 107, 108, 109, 110, 111, 112, 113, 114, 115, 116, 117, 118, 119, 120, 121, 122, 50, 51, 52, 53, 54, 55]⟩ : ByteArray) = signsB from rfl, hv2]
      go_wp2_with fail
      refine (mustT_yes _ _).mono ?_
      rintro e w3 ⟨rfl, rfl⟩
      have hn7 : n < 128 := Nat.lt_of_lt_of_le hn (by have := Nat.pow_le_pow_right (show 0 < 2 by decide) hh; simpa using this)
      have hor := or_digit n x 5 hx32 (by omega)
      obtain ⟨M, hM⟩ : ∃ M, M = n * 2 ^ 5 + x := ⟨_, rfl⟩
      rw [← hM, show ((n * 2 ^ 5 : Nat) : Int) = (n : Int) * 32 by omega] at hor
      have hMb : M < 4096 := by omega
      have HM := Lib.hid hM
      have HV1 := Lib.hid hv1
      clear hM hv1 hv2
      by_cases h3 : 3 ≤ h
      · obtain ⟨k, rfl⟩ : ∃ k, h = k + 3 := ⟨h - 3, by omega⟩
        have bc : w'.cell? ⟨w.heap.size, 0, none⟩ = some v := HST.out.bv.cell (i := 0) rfl
        go_wp2_with fail
        rw [show ((k : Int) + 3 + 5 - 8) = (k : Int) by omega]
        have hk4 : k ≤ 4 := by omega
        obtain ⟨X, hX⟩ : ∃ X, X = M / 2 ^ k := ⟨_, rfl⟩
        have hX8 : X < 256 := by
          rcases (by omega : k = 0 ∨ k = 1 ∨ k = 2 ∨ k = 3 ∨ k = 4) with rfl | rfl | rfl | rfl | rfl <;> simp only [Nat.reducePow, Nat.reduceAdd] at hn hX <;> (have := HM.out; omega)
        have hwx : IntKind.u8.wrap ((M : Int) / 2 ^ k) = (X : Int) := by
          rw [show ((M : Int) / 2 ^ k) = ((M / 2 ^ k : Nat) : Int) by simp, ← hX]
          exact IntWalk.u8_in _ (by omega)
        have hr2 := HRAW.out
        rw [HDR.out, rawG_high _ _ _ HV1.out h3, show n * 32 + x = M by have := HM.out; omega, show k + 3 - 3 = k by omega, ← hX] at hr2
        have HR2 : Hid (rawG 0 0 l = (rawG (M % 2 ^ k) k (l.drop (i + 1))).map (fun y => ((b ++ [BitVec.ofNat 8 X]) ++ y.1, y.2))) := Lib.hid (by
          rw [hr2]
          cases rawG (M % 2 ^ k) k (l.drop (i + 1)) <;> simp)
        have HX := Lib.hid hX
        have hlow := and_low M k (by omega) (by omega)
        have hw1 : wrap64 (wrap64 (2 ^ k) - 1) = ((2 ^ k - 1 : Nat) : Int) := by
          have h1 : 2 ^ k ≤ 2 ^ 4 := Nat.pow_le_pow_right (by decide) (by omega)
          have h2 : 0 < 2 ^ k := Nat.pow_pos (by decide)
          have e : (2 : Int) ^ k = ((2 ^ k : Nat) : Int) := by simp
          rw [e, show wrap64 ((2 ^ k : Nat) : Int) = ((2 ^ k : Nat) : Int) from IntWalk.wrap64_in _ (by omega), IntWalk.wrap64_in _ (by omega)]
          omega
        have HLOW := Lib.hid hlow; have HW1 := Lib.hid hw1
        have hbx : (BitVec.ofNat 8 X).toNat = X := by simp; omega
        have HBX := Lib.hid hbx
        clear hX hr2 hlow hw1 hbx HRAW
        have HST2 : Hid (UnsSt w w'.drew v b) := Lib.hid ⟨HST.out.bv.drew, HST.out.be.drew, HST.out.own.below (Below.refl w'.heap.size w').drew, HST.out.bel.drew⟩
        refine wp_mono (Q := NoPan _) ?_ (fun _ _ _ h => h.2)
        refine wp_region_any (by kernel_rfl) ?_
        change wpAny _ _ _ _ _ _ _ (World.drew _)
        generalize w'.drew = w3 at HST2 ⊢
        clear bc HST
        have hbase : w.heap.size + 2 ≤ w3.heap.size := by have := HST2.out.be.lt; omega
        have hal := (Below.refl w3.heap.size w3).alloc (Nat.le_refl _) (.cells #[.int .u8 (X : Int)] 5)
        have HOa := Lib.hid (HST2.out.own.below hal)
        have HYa : Hid (Bys (w3.alloc (.cells #[.int .u8 (X : Int)] 5)) (some ⟨w3.heap.size, 0, none⟩) 1 [BitVec.ofNat 8 X]) := Lib.hid (Bys.lit 5 (by simp [bl, HBX.out]) rfl)
        have HBv := Lib.hid (HST2.out.bv.below hal HST2.out.bv.lt)
        have HBe := Lib.hid (HST2.out.be.below hal HST2.out.be.lt)
        have HBl := Lib.hid (HST2.out.bel.trans (hal.mono HST2.out.bel.size))
        have bc0 : w3.cell? ⟨w.heap.size, 0, none⟩ = some v := HST2.out.bv.cell (i := 0) rfl
        have bc1 : (w3.alloc (.cells #[.int .u8 (X : Int)] 5)).cell? ⟨w.heap.size, 0, none⟩ = some v := HBv.out.cell (i := 0) rfl
        clear hal HST2
        refine wpAny_take (i := 1) (v := .int .i64 (M : Int)) rfl (by kernel_rfl) (by kernel_rfl) (by kernel_rfl) (fun _ _ _ h => NoPan.no h) (Or.inl ⟨by kernel_rfl, fun w => ?_⟩) ?_
        · go_simp
        try simp only [Act.put, List.getElem_toArray, List.getElem_cons_succ, List.getElem_cons_zero, List.setIfInBounds_toArray, List.set_cons_zero, List.set_cons_succ]
        refine wpAny_take (i := 2) (v := .int .i64 (k : Int)) rfl (by kernel_rfl) (by kernel_rfl) (by kernel_rfl) (fun _ _ _ h => NoPan.no h) (Or.inl ⟨by kernel_rfl, fun w => ?_⟩) ?_
        · go_simp
        try simp only [Act.put, List.getElem_toArray, List.getElem_cons_succ, List.getElem_cons_zero, List.setIfInBounds_toArray, List.set_cons_zero, List.set_cons_succ]
        refine wpAny_take (i := 3) (v := .int .i64 ((M : Int) / 2 ^ k)) rfl (by kernel_rfl) (by kernel_rfl) (by kernel_rfl) (fun _ _ _ h => NoPan.no h) (Or.inl ⟨by kernel_rfl, fun w => ?_⟩) ?_
        · go_simp
        try simp only [Act.put, List.getElem_toArray, List.getElem_cons_succ, List.getElem_cons_zero, List.setIfInBounds_toArray, List.set_cons_zero, List.set_cons_succ]
        refine wpAny_take (i := 4) (v := .int .u8 (X : Int)) rfl (by kernel_rfl) (by kernel_rfl) (by kernel_rfl) (fun _ _ _ h => NoPan.no h) (Or.inl ⟨by kernel_rfl, fun w => ?_⟩) ?_
        · go_simp
        try simp only [Act.put, List.getElem_toArray, List.getElem_cons_succ, List.getElem_cons_zero, List.setIfInBounds_toArray, List.set_cons_zero, List.set_cons_succ]
        refine wpAny_ready (rs := [0, 5]) (by kernel_rfl) (by simp) ?_
        refine AllReady.cons (by rfl) ?_ ?_
        · intro K hK
          go_simp
          refine hK _ _ ?_
          clear hK K
          refine wpAny_ready (rs := [5]) (by kernel_rfl) (by simp) ?_
          refine AllReady.cons (by rfl) ?_ AllReady.nil
          intro K hK
          go_simp
          refine hK _ _ ?_
          clear hK K
          refine wpAny_ready (rs := [6]) (by kernel_rfl) (by simp) ?_
          refine all_ready_yes (by rfl) (by kernel_rfl) ?_ AllReady.nil
          intro K hK
          refine wp_append_bys (.tmp 31) (.tmp 36) rfl (w.heap.size + 2) v b rfl HOa.out (some ⟨w3.heap.size, 0, none⟩) 1 1 [BitVec.ofNat 8 X] rfl HYa.out (by omega) (by simp; omega) ?_
          intro v' w4 ho4 hg4 _
          have hk4b : Blk w4 w.heap.size 40 #[v] := HBv.out.grown hg4 (fun e => by have := (own_lt HOa.out _ e.symm).1; omega)
          have hk4e : Blk w4 (w.heap.size + 1) 32 #[.int .i64 0] := HBe.out.grown hg4 (fun e => by have := (own_lt HOa.out _ e.symm).1; omega)
          have d0 : w4.cell? ⟨w.heap.size, 0, none⟩ = some v := hk4b.cell (i := 0) rfl
          have f0 := hk4b.frozen 0
          obtain ⟨a4, c4, hv4, -, -⟩ := ho4.bys
          obtain ⟨n4, hn4⟩ : ∃ n4, v' = .slice a4 n4 c4 := ⟨_, hv4⟩
          clear hv4
          subst hn4
          have HST4 : Hid (UnsSt w (w4.setCell ⟨w.heap.size, 0, none⟩ (.slice a4 n4 c4)) (.slice a4 n4 c4) (b ++ [BitVec.ofNat 8 X])) := Lib.hid (by
            have ht := Tch.setCell (S := fun i => i = w.heap.size) (Tch.refl _ w4) (p := ⟨w.heap.size, 0, none⟩) (.inl rfl) (.slice a4 n4 c4)
            refine ⟨hk4b.set 0 _, ht.blk hk4e (by omega), ht.own ho4 (fun i e e2 => by have := (own_lt ho4 i e).1; omega), ?_⟩
            have := HBl.out.grown hg4 HBl.out.size (fun k e => by have := (own_lt HOa.out _ e).1; omega)
            exact this.setCell (Nat.le_refl _) _)
          clear hk4b hk4e ho4 hg4
          simp only [Act.put, List.getElem_toArray, List.getElem_cons_succ, List.getElem_cons_zero, List.setIfInBounds_toArray, List.set_cons_zero, List.set_cons_succ]
          refine hK _ _ ?_
          clear hK K
          refine wpAny_ready (rs := [7]) (by kernel_rfl) (by simp) ?_
          refine AllReady.cons (by rfl) ?_ AllReady.nil
          intro K hK
          go_simp
          refine hK _ _ ?_
          clear hK K
          refine wpAny_done (by kernel_rfl) ?_ _
          refine NoPan.norm ?_
          go_wp2_with fail
          rw [HW1.out, HLOW.out]
          generalize w4.setCell ⟨w.heap.size, 0, none⟩ (.slice a4 n4 c4) = w5 at HST4 ⊢
          go_roundw
          case rel => exact ⟨i + 1, M % 2 ^ k, k, b ++ [BitVec.ofNat 8 X], .slice a4 n4 c4, by omega, rfl, rfl, by go_num, by omega, Nat.mod_lt _ (Nat.pow_pos (by decide)), HR2.out, by simp; omega, HST4.out⟩
          case measure => simp [intOf]; omega
        refine AllReady.cons (by rfl) ?_ AllReady.nil
        intro K hK
        go_simp
        refine hK _ _ ?_
        clear hK K
        refine wpAny_ready (rs := [0]) (by kernel_rfl) (by simp) ?_
        refine AllReady.cons (by rfl) ?_ AllReady.nil
        intro K hK
        go_simp
        refine hK _ _ ?_
        clear hK K
        refine wpAny_ready (rs := [6]) (by kernel_rfl) (by simp) ?_
        refine all_ready_yes (by rfl) (by kernel_rfl) ?_ AllReady.nil
        intro K hK
        refine wp_append_bys (.tmp 31) (.tmp 36) rfl (w.heap.size + 2) v b rfl HOa.out (some ⟨w3.heap.size, 0, none⟩) 1 1 [BitVec.ofNat 8 X] rfl HYa.out (by omega) (by simp; omega) ?_
        intro v' w4 ho4 hg4 _
        have hk4b : Blk w4 w.heap.size 40 #[v] := HBv.out.grown hg4 (fun e => by have := (own_lt HOa.out _ e.symm).1; omega)
        have hk4e : Blk w4 (w.heap.size + 1) 32 #[.int .i64 0] := HBe.out.grown hg4 (fun e => by have := (own_lt HOa.out _ e.symm).1; omega)
        have d0 : w4.cell? ⟨w.heap.size, 0, none⟩ = some v := hk4b.cell (i := 0) rfl
        have f0 := hk4b.frozen 0
        obtain ⟨a4, c4, hv4, -, -⟩ := ho4.bys
        obtain ⟨n4, hn4⟩ : ∃ n4, v' = .slice a4 n4 c4 := ⟨_, hv4⟩
        clear hv4
        subst hn4
        have HST4 : Hid (UnsSt w (w4.setCell ⟨w.heap.size, 0, none⟩ (.slice a4 n4 c4)) (.slice a4 n4 c4) (b ++ [BitVec.ofNat 8 X])) := Lib.hid (by
          have ht := Tch.setCell (S := fun i => i = w.heap.size) (Tch.refl _ w4) (p := ⟨w.heap.size, 0, none⟩) (.inl rfl) (.slice a4 n4 c4)
          refine ⟨hk4b.set 0 _, ht.blk hk4e (by omega), ht.own ho4 (fun i e e2 => by have := (own_lt ho4 i e).1; omega), ?_⟩
          have := HBl.out.grown hg4 HBl.out.size (fun k e => by have := (own_lt HOa.out _ e).1; omega)
          exact this.setCell (Nat.le_refl _) _)
        clear hk4b hk4e ho4 hg4
        simp only [Act.put, List.getElem_toArray, List.getElem_cons_succ, List.getElem_cons_zero, List.setIfInBounds_toArray, List.set_cons_zero, List.set_cons_succ]
        refine hK _ _ ?_
        clear hK K
        refine wpAny_ready (rs := [7]) (by kernel_rfl) (by simp) ?_
        refine AllReady.cons (by rfl) ?_ AllReady.nil
        intro K hK
        go_simp
        refine hK _ _ ?_
        clear hK K
        refine wpAny_done (by kernel_rfl) ?_ _
        refine NoPan.norm ?_
        go_wp2_with fail
        rw [HW1.out, HLOW.out]
        generalize w4.setCell ⟨w.heap.size, 0, none⟩ (.slice a4 n4 c4) = w5 at HST4 ⊢
        go_roundw
        case rel => exact ⟨i + 1, M % 2 ^ k, k, b ++ [BitVec.ofNat 8 X], .slice a4 n4 c4, by omega, rfl, rfl, by go_num, by omega, Nat.mod_lt _ (Nat.pow_pos (by decide)), HR2.out, by simp; omega, HST4.out⟩
        case measure => simp [intOf]; omega
      · have hr2 := HRAW.out
        rw [HDR.out, rawG_low _ _ _ HV1.out h3, show n * 32 + x = M by have := HM.out; omega] at hr2
        have HR2 := Lib.hid hr2
        clear hr2 HRAW
        go_wp2_with fail
        go_roundw
        case rel => exact ⟨i + 1, M, h + 5, b, v, by omega, by go_num, by go_num, by go_num, by omega, (by have := HM.out; rw [this, Nat.pow_add]; omega), HR2.out, by omega, HST.out⟩
        case measure => simp [intOf]; omega
  · obtain rfl : i = s.size := by omega
    have hr2 := HRAW.out
    rw [List.drop_of_length_le (by omega), rawG] at hr2
    simp only [Option.map_some, List.append_nil] at hr2
    by_cases hok : n = 0 ∧ h < 5
    · obtain ⟨rfl, hh5⟩ := hok
      have HU : Hid (unspellB l = some b) := Lib.hid (by unfold unspellB; rw [hr2]; simp [hh5])
      clear hr2
      obtain ⟨av, cv, hvv, -, -⟩ := HST.out.own.bys
      obtain ⟨nv, hnv⟩ : ∃ nv, v = .slice av nv cv := ⟨_, hvv⟩
      clear hvv
      subst hnv
      have bc : wr.cell? ⟨w.heap.size, 0, none⟩ = some (.slice av nv cv) := HST.out.bv.cell (i := 0) rfl
      have bf := HST.out.bv.frozen 0
      have ec : wr.cell? ⟨w.heap.size + 1, 0, none⟩ = some (.int .i64 0) := HST.out.be.cell (i := 0) rfl
      have ef := HST.out.be.frozen 0
      have h5i : (h : Int) < 5 := by omega
      go_wp2_with fail
      refine (mustT_yes _ _).mono ?_
      rintro e w3 ⟨rfl, rfl⟩
      have HST2 : Hid (UnsSt w ((wr.setCell ⟨w.heap.size, 0, none⟩ (.slice av nv cv)).setCell ⟨w.heap.size + 1, 0, none⟩ (.int .i64 0)) (.slice av nv cv) b) := Lib.hid (by
        have ht := Tch.setCell (S := fun i => i = w.heap.size) (Tch.refl _ wr) (p := ⟨w.heap.size, 0, none⟩) (.inl rfl) (.slice av nv cv)
        have ht2 := Tch.setCell (S := fun i => i = w.heap.size + 1) (Tch.refl _ (wr.setCell ⟨w.heap.size, 0, none⟩ (.slice av nv cv))) (p := ⟨w.heap.size + 1, 0, none⟩) (.inl rfl) (.int .i64 0)
        exact ⟨ht2.blk (HST.out.bv.set 0 (.slice av nv cv)) (by omega), (ht.blk HST.out.be (by omega)).set 0 _, ht2.own (ht.own HST.out.own (fun i e e2 => by have := (own_lt HST.out.own i e).1; omega)) (fun i e e2 => by have := (own_lt HST.out.own i e).1; omega), (HST.out.bel.setCell (Nat.le_refl _) _).setCell (by simp) _⟩)
      go_wp2_with fail
      generalize (wr.setCell ⟨w.heap.size, 0, none⟩ (.slice av nv cv)).setCell ⟨w.heap.size + 1, 0, none⟩ (.int .i64 0) = w4 at HST2 ⊢
      refine leaves_cons (f := 29) (args := #[.pointer (some ⟨w.heap.size + 1, 0, none⟩), .func (.func 46) #[] #[.pointer (some ⟨w.heap.size, 0, none⟩)]]) (by simp) (by simp [go_sem]) ?_
      refine (caughtT_idle _ _ _).mono ?_
      rintro e u' w5 ⟨rfl, rfl, rfl⟩
      have k0 : w5.cell? ⟨w.heap.size, 0, none⟩ = some (.slice av nv cv) := HST2.out.bv.cell (i := 0) rfl
      have k1 : w5.cell? ⟨w.heap.size + 1, 0, none⟩ = some (.int .i64 0) := HST2.out.be.cell (i := 0) rfl
      refine ⟨.tuple #[.slice av nv cv, .int .i64 0], ?_, HST2.out.bel, .inl ⟨.slice av nv cv, b, HU.out, rfl, own_low HST2.out.own (by omega)⟩⟩
      simp [results, Tryz.results24, go_sem, k0, k1]
    · have HN : Hid (unspellB l = none) := Lib.hid (by unfold unspellB; rw [hr2]; simp only [Option.bind_some]; rw [if_neg hok])
      clear hr2
      by_cases h0 : n = 0
      · subst h0
        have h5i : ¬ (h : Int) < 5 := by omega
        go_wp2_with fail
        refine (mustT_no _ _).mono ?_
        rintro e w3 ⟨rfl, rfl⟩
        refine leaves_cons (f := 29) (args := #[.pointer (some ⟨w.heap.size + 1, 0, none⟩), .func (.func 46) #[] #[.pointer (some ⟨w.heap.size, 0, none⟩)]]) (by simp) (by simp [go_sem]) ?_
        refine (caughtT_c (w.heap.size + 1) 0 160 46 _ [] _ HST.out.be HEN.out (fun W => Blk W w.heap.size 40 #[.slice none 0 0] ∧ Blk W (w.heap.size + 1) 32 #[.int .i64 160] ∧ Below w.heap.size w W) ?_).mono ?_
        · intro w4 hb4 ht4
          refine (clear_c w.heap.size v w4 (ht4.blk HST.out.bv (by omega))).mono ?_
          rintro e w5 ⟨rfl, hb5, ht5⟩
          exact ⟨rfl, hb5, ht5.blk hb4 (by omega), (HST.out.bel.trans (ht4.below HST.out.bel.size (fun i e => by omega))).trans (ht5.below (by have := HST.out.bel.size; have := ht4.size; omega) (fun i e => by omega))⟩
        · rintro e u' w5 ⟨rfl, rfl, hb5, he5, hl5⟩
          have k0 : w5.cell? ⟨w.heap.size, 0, none⟩ = some (.slice none 0 0) := hb5.cell (i := 0) rfl
          have k1 : w5.cell? ⟨w.heap.size + 1, 0, none⟩ = some (.int .i64 160) := he5.cell (i := 0) rfl
          refine ⟨.tuple #[.slice none 0 0, .int .i64 160], ?_, hl5, .inr ⟨HN.out, rfl⟩⟩
          simp [results, Tryz.results24, go_sem, k0, k1]
      · have h0i : ¬ (n : Int) = 0 := by omega
        go_wp2_with fail
        refine (mustT_no _ _).mono ?_
        rintro e w3 ⟨rfl, rfl⟩
        refine leaves_cons (f := 29) (args := #[.pointer (some ⟨w.heap.size + 1, 0, none⟩), .func (.func 46) #[] #[.pointer (some ⟨w.heap.size, 0, none⟩)]]) (by simp) (by simp [go_sem]) ?_
        refine (caughtT_c (w.heap.size + 1) 0 160 46 _ [] _ HST.out.be HEN.out (fun W => Blk W w.heap.size 40 #[.slice none 0 0] ∧ Blk W (w.heap.size + 1) 32 #[.int .i64 160] ∧ Below w.heap.size w W) ?_).mono ?_
        · intro w4 hb4 ht4
          refine (clear_c w.heap.size v w4 (ht4.blk HST.out.bv (by omega))).mono ?_
          rintro e w5 ⟨rfl, hb5, ht5⟩
          exact ⟨rfl, hb5, ht5.blk hb4 (by omega), (HST.out.bel.trans (ht4.below HST.out.bel.size (fun i e => by omega))).trans (ht5.below (by have := HST.out.bel.size; have := ht4.size; omega) (fun i e => by omega))⟩
        · rintro e u' w5 ⟨rfl, rfl, hb5, he5, hl5⟩
          have k0 : w5.cell? ⟨w.heap.size, 0, none⟩ = some (.slice none 0 0) := hb5.cell (i := 0) rfl
          have k1 : w5.cell? ⟨w.heap.size + 1, 0, none⟩ = some (.int .i64 160) := he5.cell (i := 0) rfl
          refine ⟨.tuple #[.slice none 0 0, .int .i64 160], ?_, hl5, .inr ⟨HN.out, rfl⟩⟩
          simp [results, Tryz.results24, go_sem, k0, k1]
end Go.Proofs.YtomnjhhpeglcnaaGreat

namespace Go.Proofs.YtomnjhhpeglcnaaGreat
open Go.RowKit
set_option linter.unusedSimpArgs false
set_option linter.unusedVariables false
set_option maxRecDepth 100000

set_option maxHeartbeats 2000000 in
theorem tjoined_c (a : Option Addr) (n cp : Nat) (ps : List (List By)) (w : World) (hl : Prs w a n ps) (hn : n ≤ 1000000) (hf : ps.flatten.length ≤ 1000000000) :
    Calls Tryz.prog 60 #[.slice a n cp] w fun e w' => ∃ v, e = .returned v ∧ OwnB w' w.heap.size v ps.flatten ∧ Below w.heap.size w w' := by
  have HL := Lib.hid hl; clear hl
  have HF := Lib.hid hf; clear hf
  go_enter Tryz.func60, Tryz.ntmps60
  go_wp2
  go_loopw [2, 7] (fun vv i wr => ∃ k' : Nat, k' ≤ n ∧ i = .int .i64 k' ∧ OwnB wr w.heap.size vv (ps.take k').flatten ∧ Below w.heap.size w wr) (fun _ i _ => n - (intOf i).toNat)
  case atStart => exact ⟨0, Nat.zero_le _, rfl, own_nil _ _, Below.refl _ _⟩
  case round =>
    obtain ⟨k', hk', rfl, ho, hb⟩ := hrel
    have HO' := Lib.hid ho; have HB' := Lib.hid hb
    clear ho hb
    by_cases hlt' : k' < n
    · obtain ⟨p, hp⟩ : ∃ p, ps[k']? = some p := ⟨ps[k']'(by rw [HL.out.1]; exact hlt'), List.getElem?_eq_getElem _⟩
      obtain ⟨hpl, g, off, a', c', rfl, hg, hcell, hbys⟩ := (HL.out.below HB'.out).2 k' p hp
      have HY := Lib.hid hbys; clear hbys
      have HP := Lib.hid hp; clear hp
      obtain ⟨aa, cc, hvv, _, _⟩ := HO'.out.bys
      obtain ⟨m', hm'⟩ : ∃ m', m' = (ps.take k').flatten.length := ⟨_, rfl⟩
      rw [← hm'] at hvv
      subst hvv
      have HM' := Lib.hid hm'; clear hm'
      have hle : (ps.take k').flatten.length + p.length ≤ 1000000000 := by
        have := flat_take _ _ _ HP.out
        have h2 := flat_le ps (k' + 1)
        rw [this, List.length_append] at h2
        exact Nat.le_trans h2 HF.out
      have HLE := Lib.hid hle; clear hle
      go_wp2_with (at_builtin; refine wpl_append_bys rfl _ _ rfl w.heap.size _ _ rfl HO'.out a' p.length c' p rfl HY.out ?c1 ?c2 ?_)
      case c1 => exact Nat.le_trans HLE.out (by decide)
      case c2 => exact HB'.out.size
      intro v w3 hown hg3 _
      have HB3 := Lib.hid (HB'.out.trans (own_grown HO'.out hg3 (Nat.le_refl _) HB'.out.size))
      rw [← flat_take _ _ _ HP.out] at hown
      have HO3 := Lib.hid hown
      clear hown hg3 hcell
      go_wp2_with fail
      go_roundw
      case rel => exact ⟨k' + 1, by omega, by go_num, HO3.out, HB3.out⟩
      case measure => simp [intOf]; omega
    · obtain rfl : k' = n := by omega
      have e : Hid (ps.take k' = ps) := Lib.hid (List.take_of_length_le (by rw [HL.out.1]; exact Nat.le_refl _))
      go_wp2
      go_ret
      exact ⟨_, rfl, by rw [← e.out]; exact HO'.out, HB'.out⟩
/-- May a number be? -/
def may31 (n : Int) : Bool := decide (0 ≤ n ∧ n ≤ 2147483647)
set_option maxHeartbeats 2000000 in
theorem tin_c (a : Option Addr) (n c : Nat) (zs : List Int) (w : World) (hl : I64s w a n zs) (hn : n ≤ 1000000) :
    Calls Tryz.prog 43 #[.slice a n c] w fun e w' => e = .returned (.bool (zs.all may31)) ∧ w = w' := by
  have HL := Lib.hid hl; clear hl
  go_enter Tryz.func43, Tryz.ntmps43
  go_wp2
  go_loop [7] (fun i => ∃ k : Nat, k ≤ n ∧ i = .int .i64 k ∧ (zs.take k).all may31 = true) (fun i => n - (intOf i).toNat)
  case atStart => exact ⟨0, Nat.zero_le _, rfl, rfl⟩
  case round =>
    obtain ⟨k, hk, rfl, hall⟩ := hrel
    by_cases hlt : k < n
    · obtain ⟨x, hx⟩ : ∃ x, zs[k]? = some x := ⟨zs[k]'(by rw [HL.out.1]; exact hlt), List.getElem?_eq_getElem _⟩
      obtain ⟨g, off, rfl, hg, hcell⟩ := HL.out.2 k x hx
      have HX := Lib.hid hx; have HALL := Lib.hid hall
      clear hx hall
      have hstep : (zs.take (k + 1)).all may31 = may31 x := by
        rw [List.take_add_one, HX.out, List.all_append, HALL.out]; simp
      have HSTEP := Lib.hid hstep; clear hstep
      by_cases h1 : x < 0
      · go_wp2
        go_ret
        have hf : zs.all may31 = false := by
          rw [List.all_eq_false]
          exact ⟨x, List.mem_of_getElem? HX.out, by unfold may31; simp; omega⟩
        rw [hf]
        exact ⟨rfl, rfl⟩
      · by_cases h2 : 2147483647 < x
        · go_wp2
          go_ret
          have hf : zs.all may31 = false := by
            rw [List.all_eq_false]
            exact ⟨x, List.mem_of_getElem? HX.out, by unfold may31; simp; omega⟩
          rw [hf]
          exact ⟨rfl, rfl⟩
        · go_wp2
          go_round
          case rel => exact ⟨k + 1, by omega, by go_num, by rw [HSTEP.out]; unfold may31; simp; omega⟩
          case measure => simp [intOf]; omega
    · obtain rfl : k = n := by omega
      have e : zs.take k = zs := List.take_of_length_le (by rw [HL.out.1]; exact Nat.le_refl _)
      rw [e] at hall
      go_wp2
      go_ret
      exact ⟨rfl, rfl⟩
end Go.Proofs.YtomnjhhpeglcnaaGreat

namespace Go.Proofs.YtomnjhhpeglcnaaGreat
open Go.RowKit
set_option linter.unusedSimpArgs false
set_option linter.unusedVariables false
set_option maxRecDepth 100000

def labelT : ByteArray := ⟨#[116, 111, 107, 101, 110]⟩
def keyM (s : ByteArray) : List By := lastB (strB s) (strB labelT) 1
/-- Bytes and their tag under a master. -/
def taggedB (s : ByteArray) (h : List By) : List By := h ++ (tagB (keyM s) h).take 16
def KS.at_ (k : KS) (j : Nat) : ByteArray := k.ms.getD j emptyS
theorem KS.cell {w : World} {p : Nat} {k : KS} (h : IsKeys w p k) {j : Nat} (hj : j < k.ms.length) : w.cell? ⟨p, 2 + j, none⟩ = some (.string (k.at_ j)) := by
  have hl := h.len
  obtain ⟨c0, c1, c2, c3, c4⟩ := kc_cells h.blk
  rcases (by omega : j = 0 ∨ j = 1 ∨ j = 2) with rfl | rfl | rfl
  · exact c2
  · exact c3
  · exact c4
theorem KS.at_may {w : World} {p : Nat} {k : KS} (h : IsKeys w p k) {j : Nat} (hj : j < k.ms.length) : mayM (k.at_ j) = true := by
  unfold KS.at_
  rw [List.getD_eq_getElem?_getD, List.getElem?_eq_getElem hj]
  exact h.may _ (List.getElem_mem _)
theorem wp_conv_bytes {o : Oper} {a : Act} {w : World} {K : Act → World → Prop} {Q : Exit → Act → World → Prop} (x : Operand) (ho : o.op = .convert 9 40 x) (s : ByteArray) (hx : a.eval x = .string s)
    (h : ∀ c w', Bys w' (some ⟨w.heap.size, 0, none⟩) s.size (strB s) → Below w.heap.size w w' → w'.heap.size = w.heap.size + 1 → s.size ≤ c → K (a.put o.dst (.slice (some ⟨w.heap.size, 0, none⟩) s.size c)) w') : o.wp Tryz.prog a w K Q := by
  obtain ⟨c, w', hrun, h1, h2, h3, h4⟩ := conv_bytes w s
  unfold Oper.wp execOp
  simp only [ho, Sem.run_bind, Sem.run_pure, Result.andThen_ok, hx, hrun]
  exact h c w' h1 h2 h3 h4
set_option maxHeartbeats 4000000 in
theorem with_c (p : Nat) (k : KS) (j : Nat) (N m s i : Int) (w : World) (h : IsKeys w p k) (hj : j < k.ms.length) (hN : N - (k.first : Int) = (j : Int)) (hf : k.first ≤ 1000000000) (hok : okN [N, m, s, i] = true) :
    Calls Tryz.prog 37 #[.pointer (some ⟨p, 0, none⟩), .int .i64 N, .agg #[.int .i64 m, .int .i64 s, .int .i64 i]] w fun e w' => ∃ v, e = .returned v ∧ OwnB w' w.heap.size v (taggedB (k.at_ j) (laidN [N, m, s, i])) ∧ Below w.heap.size w w' := by
  have H := Lib.hid h; have HOK := Lib.hid hok
  have hj3 : j < 3 := Nat.lt_of_lt_of_le hj h.len
  have hmay := KS.at_may h hj
  obtain ⟨M, hM⟩ : ∃ M, M = k.at_ j := ⟨_, rfl⟩
  have HM := Lib.hid hM
  have hml : M.size ≤ 64 := by rw [hM]; unfold mayM at hmay; rw [decide_eq_true_eq] at hmay; exact hmay.2
  obtain ⟨L, hL⟩ : ∃ L, L = laidN [N, m, s, i] := ⟨_, rfl⟩
  have HL := Lib.hid hL
  have hLl : L.length ≤ 36 := by rw [hL]; exact laidN_len hok
  rw [← hM, ← hL]
  clear h hok hmay hM hL
  have HB0 := Lib.hid ((Below.refl w.heap.size w).alloc (Nat.le_refl _) (.cells #[.int .i64 m, .int .i64 s, .int .i64 i] 31))
  have HT0 := Lib.hid (Blk.new w 31 #[.int .i64 m, .int .i64 s, .int .i64 i])
  go_enter Tryz.func37, Tryz.ntmps37
  go_wp2_with fail
  generalize w.alloc (.cells #[.int .i64 m, .int .i64 s, .int .i64 i] 31) = w0 at HB0 HT0 ⊢
  refine (wnew_c _).mono ?_
  rintro e w1 ⟨rfl, hw1, hb1⟩
  have HW1 := Lib.hid hw1
  have HB1 := Lib.hid (HB0.out.trans (hb1.mono HB0.out.size))
  have HT1 := Lib.hid (HT0.out.below hb1 HT0.out.lt)
  obtain ⟨P, hP⟩ : ∃ P, P = w0.heap.size := ⟨_, rfl⟩
  have HP := Lib.hid hP
  rw [← hP] at HW1 ⊢
  have hPw : w.heap.size ≤ P := by have := HB0.out.size; omega
  have c0 : w1.cell? ⟨w.heap.size, 0, none⟩ = some (.int .i64 m) := HT1.out.cell (i := 0) rfl
  have c1 : w1.cell? ⟨w.heap.size, 1, none⟩ = some (.int .i64 s) := HT1.out.cell (i := 1) rfl
  have c2 : w1.cell? ⟨w.heap.size, 2, none⟩ = some (.int .i64 i) := HT1.out.cell (i := 2) rfl
  clear hw1 hb1 hP
  go_wp2_with fail
  have hal := (Below.refl w1.heap.size w1).alloc (Nat.le_refl _) (.cells #[.int .i64 N, .int .i64 m, .int .i64 s, .int .i64 i] 2)
  have HI := Lib.hid (I64s.lit (W := w1) (cs := #[.int .i64 N, .int .i64 m, .int .i64 s, .int .i64 i]) (zs := [N, m, s, i]) (n := 4) 2 rfl rfl)
  have HWa := Lib.hid (HW1.out.below hal)
  have HBa := Lib.hid (HB1.out.trans (hal.mono HB1.out.size))
  have hP1 : P < w1.heap.size := HW1.out.lt
  generalize w1.alloc (.cells #[.int .i64 N, .int .i64 m, .int .i64 s, .int .i64 i] 2) = wa at HI HWa HBa ⊢
  clear hal c0 c1 c2
  refine (wnumber_c P _ [] _ 4 4 [N, m, s, i] wa HWa.out HI.out (by decide) (by decide) ?ap HOK.out).mono ?_
  case ap =>
    rintro g off e _ hg
    injection e with e
    injection e with e1 e2
    rcases hg with hg | hg
    · omega
    · simp [Value.ownBlock] at hg
  rintro e w2 ⟨rfl, v2, hw2, ht2, -⟩
  rw [List.nil_append, ← HL.out] at hw2
  have HW2 := Lib.hid hw2
  have HB2 := Lib.hid (HBa.out.trans (ht2.below HBa.out.size (fun i hi => by
    rcases hi with hi | hi
    · omega
    · simp [Value.ownBlock] at hi)))
  clear hw2 ht2 HI HWa HBa HB1 HW1 HT1 HT0 HB0
  have HK2 := Lib.hid (H.out.below HB2.out)
  have HB3 := Lib.hid HB2.out.drew
  have HW3 := Lib.hid (HW2.out.below (Below.refl w2.heap.size w2).drew)
  have HK3 := Lib.hid (HK2.out.below (Below.refl w2.heap.size w2).drew)
  have hji : (j : Int) < 3 := by omega
  have w64 : IntKind.i64.wrap (j : Int) = (j : Int) := IntWalk.i64_in _ (by omega)
  go_wp2_with fail
  refine wp_region_any (by kernel_rfl) ?_
  change wpAny _ _ _ _ _ _ _ (World.drew _)
  clear HB2 HW2 HK2
  generalize w2.drew = w3 at HB3 HW3 HK3 ⊢
  have c0 : w3.cell? ⟨p, 0, none⟩ = some (.int .i64 (k.first : Int)) := (kc_cells HK3.out.blk).1
  have c1 : w3.cell? ⟨p, 2 + j, none⟩ = some (.string M) := by rw [HM.out]; exact KS.cell HK3.out hj
  refine wpAny_take (i := 0) (v := .pointer (some ⟨p, 0, none⟩)) rfl (by kernel_rfl) (by kernel_rfl) (by kernel_rfl) (fun _ _ _ h => h) (Or.inl ⟨by kernel_rfl, fun w => ?_⟩) ?_
  · go_simp
  try simp only [Act.put, List.getElem_toArray, List.getElem_cons_succ, List.getElem_cons_zero, List.setIfInBounds_toArray, List.set_cons_zero, List.set_cons_succ]
  refine wpAny_take (i := 1) (v := .int .i64 N) rfl (by kernel_rfl) (by kernel_rfl) (by kernel_rfl) (fun _ _ _ h => h) (Or.inl ⟨by kernel_rfl, fun w => ?_⟩) ?_
  · go_simp
  try simp only [Act.put, List.getElem_toArray, List.getElem_cons_succ, List.getElem_cons_zero, List.setIfInBounds_toArray, List.set_cons_zero, List.set_cons_succ]
  refine wpAny_take (i := 2) (v := .pointer (some ⟨p, 0, none⟩)) rfl (by kernel_rfl) (by kernel_rfl) (by kernel_rfl) (fun _ _ _ h => h) (Or.inl ⟨by kernel_rfl, fun w => ?_⟩) ?_
  · go_simp
  try simp only [Act.put, List.getElem_toArray, List.getElem_cons_succ, List.getElem_cons_zero, List.setIfInBounds_toArray, List.set_cons_zero, List.set_cons_succ]
  refine wpAny_take (i := 3) (v := .pointer (some ⟨p, 0, none⟩)) rfl (by kernel_rfl) (by kernel_rfl) (by kernel_rfl) (fun _ _ _ h => h) (Or.inl ⟨by kernel_rfl, fun w => ?_⟩) ?_
  · go_simp
  try simp only [Act.put, List.getElem_toArray, List.getElem_cons_succ, List.getElem_cons_zero, List.setIfInBounds_toArray, List.set_cons_zero, List.set_cons_succ]
  refine wpAny_take (i := 4) (v := .pointer (some ⟨p, 0, none⟩)) rfl (by kernel_rfl) (by kernel_rfl) (by kernel_rfl) (fun _ _ _ h => h) (Or.inl ⟨by kernel_rfl, fun w => ?_⟩) ?_
  · go_simp
  try simp only [Act.put, List.getElem_toArray, List.getElem_cons_succ, List.getElem_cons_zero, List.setIfInBounds_toArray, List.set_cons_zero, List.set_cons_succ]
  refine wpAny_take (i := 5) (v := .pointer (some ⟨p, 0, none⟩)) rfl (by kernel_rfl) (by kernel_rfl) (by kernel_rfl) (fun _ _ _ h => h) (Or.inl ⟨by kernel_rfl, fun w => ?_⟩) ?_
  · go_simp
  try simp only [Act.put, List.getElem_toArray, List.getElem_cons_succ, List.getElem_cons_zero, List.setIfInBounds_toArray, List.set_cons_zero, List.set_cons_succ]
  refine wpAny_take (i := 8) (v := .pointer (some ⟨p, 0, none⟩)) rfl (by kernel_rfl) (by kernel_rfl) (by kernel_rfl) (fun _ _ _ h => h) (Or.inl ⟨by kernel_rfl, fun w => ?_⟩) ?_
  · go_simp
  try simp only [Act.put, List.getElem_toArray, List.getElem_cons_succ, List.getElem_cons_zero, List.setIfInBounds_toArray, List.set_cons_zero, List.set_cons_succ]
  refine wpAny_take (i := 9) (v := .pointer (some ⟨p, 2, none⟩)) rfl (by kernel_rfl) (by kernel_rfl) (by kernel_rfl) (fun _ _ _ h => h) (Or.inl ⟨by kernel_rfl, fun w => ?_⟩) ?_
  · go_simp
  try simp only [Act.put, List.getElem_toArray, List.getElem_cons_succ, List.getElem_cons_zero, List.setIfInBounds_toArray, List.set_cons_zero, List.set_cons_succ]
  refine wpAny_ready (rs := [6]) (by kernel_rfl) (by simp) ?_
  refine AllReady.cons (by rfl) ?_ AllReady.nil
  intro K hK
  go_simp
  refine hK _ _ ?_
  clear hK K
  refine wpAny_take (i := 7) (v := .int .i64 (j : Int)) rfl (by kernel_rfl) (by kernel_rfl) (by kernel_rfl) (fun _ _ _ h => h) (Or.inl ⟨by kernel_rfl, fun w => ?_⟩) ?_
  · go_simp
  try simp only [Act.put, List.getElem_toArray, List.getElem_cons_succ, List.getElem_cons_zero, List.setIfInBounds_toArray, List.set_cons_zero, List.set_cons_succ]
  refine wpAny_take (i := 10) (v := .pointer (some ⟨p, 2 + j, none⟩)) rfl (by kernel_rfl) (by kernel_rfl) (by kernel_rfl) (fun _ _ _ h => h) (Or.inl ⟨by kernel_rfl, fun w => ?_⟩) ?_
  · go_simp
  try simp only [Act.put, List.getElem_toArray, List.getElem_cons_succ, List.getElem_cons_zero, List.setIfInBounds_toArray, List.set_cons_zero, List.set_cons_succ]
  refine wpAny_ready (rs := [11]) (by kernel_rfl) (by simp) ?_
  refine AllReady.cons (by rfl) ?_ AllReady.nil
  intro K hK
  go_simp
  refine hK _ _ ?_
  clear hK K
  refine wpAny_ready (rs := [12]) (by kernel_rfl) (by simp) ?_
  refine all_ready_yes (by rfl) (by kernel_rfl) ?_ AllReady.nil
  intro K hK
  with_reducible refine wp_conv_bytes (.tmp 35) ?_ M ?_ ?_
  · rfl
  · kernel_rfl
  intro cc w4 hy4 hb4 hz4 hc4
  have HY4 := Lib.hid hy4
  have HB4 := Lib.hid (HB3.out.trans (hb4.mono HB3.out.size))
  have HW4 := Lib.hid (HW3.out.below hb4)
  clear hy4 hb4 c0 c1
  simp only [Act.put, List.getElem_toArray, List.getElem_cons_succ, List.getElem_cons_zero, List.setIfInBounds_toArray, List.set_cons_zero, List.set_cons_succ]
  refine hK _ _ ?_
  clear hK K
  refine wpAny_ready (rs := [13]) (by kernel_rfl) (by simp) ?_
  refine AllReady.cons (by rfl) ?_ AllReady.nil
  intro K hK
  go_simp
  refine (derive_c _ M.size cc (strB M) labelT w4 HY4.out (by omega) (by decide)).mono ?_
  rintro e w5 ⟨v5, rfl, ho5, hb5⟩
  have hk5 : keyM M = lastB (strB M) (strB labelT) 1 := rfl
  rw [← hk5] at ho5
  have hlk : (keyM M).length = 32 := lastB_len _ _ _
  obtain ⟨K0, hK0⟩ : ∃ K0, K0 = keyM M := ⟨_, rfl⟩
  have HK0 := Lib.hid hK0
  rw [← hK0] at ho5 hlk
  obtain ⟨a5, c5, hv5, hc5, hy5⟩ := ho5.bys
  rw [hlk] at hv5 hy5
  subst hv5
  have HY5 := Lib.hid hy5
  have HB5 := Lib.hid (HB4.out.trans (hb5.mono HB4.out.size))
  have HW5 := Lib.hid (HW4.out.below hb5)
  clear ho5 hy5 hb5 hz4 hc5 hk5 hK0
  refine hK _ _ ?_
  clear hK K
  refine wpAny_take (i := 14) (v := .tuple #[.slice a5 32 c5, .int .i64 0]) rfl (by kernel_rfl) (by kernel_rfl) (by kernel_rfl) (fun _ _ _ h => h) (Or.inl ⟨by kernel_rfl, fun w => ?_⟩) ?_
  · go_simp
  try simp only [Act.put, List.getElem_toArray, List.getElem_cons_succ, List.getElem_cons_zero, List.setIfInBounds_toArray, List.set_cons_zero, List.set_cons_succ]
  refine wpAny_take (i := 15) (v := .slice a5 32 c5) rfl (by kernel_rfl) (by kernel_rfl) (by kernel_rfl) (fun _ _ _ h => h) (Or.inl ⟨by kernel_rfl, fun w => ?_⟩) ?_
  · go_simp
  try simp only [Act.put, List.getElem_toArray, List.getElem_cons_succ, List.getElem_cons_zero, List.setIfInBounds_toArray, List.set_cons_zero, List.set_cons_succ]
  refine wpAny_take (i := 16) (v := .int .i64 0) rfl (by kernel_rfl) (by kernel_rfl) (by kernel_rfl) (fun _ _ _ h => h) (Or.inl ⟨by kernel_rfl, fun w => ?_⟩) ?_
  · go_simp
  try simp only [Act.put, List.getElem_toArray, List.getElem_cons_succ, List.getElem_cons_zero, List.setIfInBounds_toArray, List.set_cons_zero, List.set_cons_succ]
  refine wpAny_ready (rs := [17]) (by kernel_rfl) (by simp) ?_
  refine AllReady.cons (by rfl) ?_ AllReady.nil
  intro K hK
  go_simp
  refine hK _ _ ?_
  clear hK K
  refine wpAny_ready (rs := [18]) (by kernel_rfl) (by simp) ?_
  refine AllReady.cons (by rfl) ?_ AllReady.nil
  intro K hK
  go_simp
  refine hK _ _ ?_
  clear hK K
  refine wpAny_done (by kernel_rfl) ?_ _
  clear w64 hji HY4 HW4 HB4 HB3 HW3 HK3
  go_wp2_with fail
  refine (wall_c P v2 L w5 HW5.out (by omega)).mono ?_
  rintro e w6 ⟨v6, rfl, ho6, hb6⟩
  obtain ⟨a6, c6, hv6, hc6, hy6⟩ := ho6.bys
  obtain ⟨n6, hn6⟩ : ∃ n6, n6 = L.length := ⟨_, rfl⟩
  rw [← hn6] at hv6 hy6
  have HN6 := Lib.hid hn6
  have hn6b : n6 ≤ 36 := by omega
  clear hn6
  subst hv6
  have hal6 := (Below.refl w6.heap.size w6).alloc (Nat.le_refl _) (.cells #[.slice a6 n6 c6] 40)
  have HPR := Lib.hid (Prs.one c6 40 hy6 (by omega))
  have HB6 := Lib.hid ((HB5.out.trans (hb6.mono HB5.out.size)).trans (hal6.mono (by have := HB5.out.size; have := hb6.size; omega)))
  have HW6 := Lib.hid ((HW5.out.below hb6).below hal6)
  have HY6 := Lib.hid ((HY5.out.below hb6).below hal6)
  clear ho6 hy6 hb6 hal6 HB5 HW5 HY5 hc6
  go_wp2_with fail
  generalize w6.alloc (.cells #[.slice a6 n6 c6] 40) = w7 at HPR HB6 HW6 HY6 ⊢
  refine (short_c a5 32 c5 K0 16 _ 1 1 [L] w7 HY6.out (by omega) (by decide) (by decide) HPR.out (by decide) (by simp; omega)).mono ?_
  rintro e w8 ⟨v8, rfl, ho8, hb8⟩
  obtain ⟨G, hG⟩ : ∃ G, G = (tagB K0 [L].flatten).take 16 := ⟨_, rfl⟩
  have HG : Hid (G = (tagB K0 L).take 16) := Lib.hid (by rw [hG]; simp)
  have hGl : G.length = 16 := by rw [hG, List.length_take, tagB_len]; rfl
  rw [← hG] at ho8
  obtain ⟨a8, c8, hv8, hc8, hy8⟩ := ho8.bys
  rw [hGl] at hv8 hy8
  subst hv8
  have HY8 := Lib.hid hy8
  have HB8 := Lib.hid (HB6.out.trans (hb8.mono HB6.out.size))
  have HW8 := Lib.hid (HW6.out.below hb8)
  clear ho8 hy8 hb8 hc8 hG HB6 HW6 HPR HY6
  go_wp2_with fail
  refine (wall_c P v2 L w8 HW8.out (by omega)).mono ?_
  rintro e w9 ⟨v9, rfl, ho9, hb9⟩
  obtain ⟨a9, c9, hv9, hc9, hy9⟩ := ho9.bys
  rw [← HN6.out] at hv9 hy9
  subst hv9
  have hy8' := HY8.out.below hb9
  have hal9 := (Below.refl w9.heap.size w9).alloc (Nat.le_refl _) (.cells #[.slice a9 n6 c9, .slice a8 16 c8] 40)
  have HPR := Lib.hid (Prs.two c9 c8 40 hy9 hy8' (by omega) (by omega))
  have HB9 := Lib.hid ((HB8.out.trans (hb9.mono HB8.out.size)).trans (hal9.mono (by have := HB8.out.size; have := hb9.size; omega)))
  clear ho9 hy9 hy8' hb9 hal9 hc9 HB8 HW8 HY8
  go_wp2_with fail
  generalize w9.alloc (.cells #[.slice a9 n6 c9, .slice a8 16 c8] 40) = wb at HPR HB9 ⊢
  refine (tjoined_c _ 2 2 [L, G] wb HPR.out (by decide) (by simp; omega)).mono ?_
  rintro e wc ⟨vc, rfl, hoc, hbc⟩
  have HOC := Lib.hid (own_low hoc HB9.out.size)
  have HBC := Lib.hid (HB9.out.trans (hbc.mono HB9.out.size))
  clear hoc hbc
  go_wp2_with fail
  go_ret
  refine ⟨vc, rfl, ?_, HBC.out⟩
  have := HOC.out
  rw [show [L, G].flatten = L ++ G by simp, HG.out, HK0.out] at this
  exact this
end Go.Proofs.YtomnjhhpeglcnaaGreat

namespace Go.Proofs.YtomnjhhpeglcnaaGreat
open Go.RowKit
set_option linter.unusedSimpArgs false
set_option linter.unusedVariables false
set_option maxRecDepth 100000

/-- A token. -/
structure Tok where
  m : Int
  s : Int
  i : Int
def Tok.val (t : Tok) : Value := .agg #[.int .i64 t.m, .int .i64 t.s, .int .i64 t.i]
def Tok.ok (t : Tok) : Bool := decide (0 ≤ t.m ∧ t.m < 16) && may31 t.s && may31 t.i
def KS.head (n : Nat) (t : Tok) : List By := laidN [(n : Int), t.m, t.s, t.i]
/-- A token's bytes under the newest key. -/
def KS.bytes (k : KS) (t : Tok) : List By := taggedB (k.at_ (k.ms.length - 1)) (KS.head k.newest t)
theorem Tok.okN {t : Tok} (h : t.ok = true) (n : Nat) (hn : n ≤ 2000000000) : okN [(n : Int), t.m, t.s, t.i] = true := by
  unfold Tok.ok may31 at h
  simp at h
  simp [Go.Proofs.YtomnjhhpeglcnaaGreat.okN, numOk]
  omega
theorem taggedB_len (s : ByteArray) (h : List By) : (taggedB s h).length = h.length + 16 := by
  unfold taggedB
  rw [List.length_append, List.length_take, tagB_len]; rfl
theorem KS.head_len {t : Tok} (h : t.ok = true) (n : Nat) (hn : n ≤ 2000000000) : (KS.head n t).length ≤ 36 := laidN_len (Tok.okN h n hn)
set_option maxHeartbeats 1000000 in
theorem make_none (v : Value) (t : Tok) (w : World) (h : ∀ W, Below w.heap.size w W → Calls Tryz.prog 32 #[v] W fun e w' => e = .returned (.bool true) ∧ W = w') :
    Calls Tryz.prog 16 #[v, t.val] w fun e w' => e = .returned (.tuple #[.string emptyS, .int .i64 1]) ∧ Below w.heap.size w w' := by
  have HB := Lib.hid ((Below.refl w.heap.size w).alloc (Nat.le_refl _) (.cells #[.int .i64 t.m, .int .i64 t.s, .int .i64 t.i] 31))
  have H := Lib.hid (h _ HB.out)
  clear h
  unfold Tok.val
  go_enter Tryz.func16, Tryz.ntmps16
  go_wp2_with fail
  refine H.out.mono ?_
  rintro e w' ⟨rfl, rfl⟩
  go_wp2_with fail
  go_ret2
  exact ⟨rfl, HB.out⟩
set_option maxHeartbeats 4000000 in
theorem make_bad (p : Nat) (k : KS) (t : Tok) (w : World) (h : IsKeys w p k) (ht : t.ok = false) :
    Calls Tryz.prog 16 #[.pointer (some ⟨p, 0, none⟩), t.val] w fun e w' => e = .returned (.tuple #[.string emptyS, .int .i64 2]) ∧ Below w.heap.size w w' := by
  have HB := Lib.hid ((Below.refl w.heap.size w).alloc (Nat.le_refl _) (.cells #[.int .i64 t.m, .int .i64 t.s, .int .i64 t.i] 31))
  have HT := Lib.hid (Blk.new w 31 #[.int .i64 t.m, .int .i64 t.s, .int .i64 t.i])
  have H := Lib.hid (h.below HB.out)
  clear h
  unfold Tok.val
  go_enter Tryz.func16, Tryz.ntmps16
  go_wp2_with fail
  generalize w.alloc (.cells #[.int .i64 t.m, .int .i64 t.s, .int .i64 t.i] 31) = w1 at HB HT H ⊢
  have c0 : w1.cell? ⟨w.heap.size, 0, none⟩ = some (.int .i64 t.m) := HT.out.cell (i := 0) rfl
  have c1 : w1.cell? ⟨w.heap.size, 1, none⟩ = some (.int .i64 t.s) := HT.out.cell (i := 1) rfl
  have c2 : w1.cell? ⟨w.heap.size, 2, none⟩ = some (.int .i64 t.i) := HT.out.cell (i := 2) rfl
  refine (tnone_no p k.first k.ms.length _ _ _ _ H.out.blk H.out.pos).mono ?_
  rintro e w' ⟨rfl, rfl⟩
  by_cases h1 : t.m < 0
  · go_wp2_with fail
    go_ret2
    exact ⟨rfl, HB.out⟩
  · by_cases h2 : 16 ≤ t.m
    · go_wp2_with fail
      go_ret2
      exact ⟨rfl, HB.out⟩
    · have hin : [t.s, t.i].all may31 = false := by
        unfold Tok.ok at ht
        rw [decide_eq_true (by omega), Bool.true_and] at ht
        simpa using ht
      have HIN := Lib.hid hin
      have HI := Lib.hid (I64s.lit (W := w1) (cs := #[.int .i64 t.s, .int .i64 t.i]) (zs := [t.s, t.i]) (n := 2) 2 rfl rfl)
      have HB2 := Lib.hid (HB.out.alloc HB.out.size (.cells #[.int .i64 t.s, .int .i64 t.i] 2))
      clear hin ht
      go_wp2_with fail
      refine (tin_c _ 2 2 [t.s, t.i] _ HI.out (by decide)).mono ?_
      rintro e w' ⟨rfl, rfl⟩
      rw [HIN.out]
      clear c0 c1 c2
      go_wp2_with fail
      go_ret2
      exact ⟨rfl, HB2.out⟩
/-- What abides while a token is made. -/
def MakeS (p : Nat) (k : KS) (t : Tok) (B : Nat) (W : World) : Prop := Blk W B 31 #[.int .i64 t.m, .int .i64 t.s, .int .i64 t.i] ∧ IsKeys W p k
set_option maxHeartbeats 4000000 in
theorem make_c (p : Nat) (k : KS) (t : Tok) (w : World) (h : IsKeys w p k) (hf : k.first ≤ 1000000000) (ht : t.ok = true) :
    Calls Tryz.prog 16 #[.pointer (some ⟨p, 0, none⟩), t.val] w fun e w' => e = .returned (.tuple #[.string (strOf (spellB (k.bytes t))), .int .i64 0]) ∧ Below w.heap.size w w' := by
  have HB := Lib.hid ((Below.refl w.heap.size w).alloc (Nat.le_refl _) (.cells #[.int .i64 t.m, .int .i64 t.s, .int .i64 t.i] 31))
  have HT := Lib.hid (Blk.new w 31 #[.int .i64 t.m, .int .i64 t.s, .int .i64 t.i])
  have H := Lib.hid (h.below HB.out)
  have HTO := Lib.hid ht
  clear h
  unfold Tok.val
  go_enter Tryz.func16, Tryz.ntmps16
  go_wp2_with fail
  generalize w.alloc (.cells #[.int .i64 t.m, .int .i64 t.s, .int .i64 t.i] 31) = w1 at HB HT H ⊢
  have c0 : w1.cell? ⟨w.heap.size, 0, none⟩ = some (.int .i64 t.m) := HT.out.cell (i := 0) rfl
  have c1 : w1.cell? ⟨w.heap.size, 1, none⟩ = some (.int .i64 t.s) := HT.out.cell (i := 1) rfl
  have c2 : w1.cell? ⟨w.heap.size, 2, none⟩ = some (.int .i64 t.i) := HT.out.cell (i := 2) rfl
  refine (tnone_no p k.first k.ms.length _ _ _ _ H.out.blk H.out.pos).mono ?_
  rintro e w' ⟨rfl, rfl⟩
  have hb : ¬ t.m < 0 ∧ ¬ 16 ≤ t.m ∧ may31 t.s = true ∧ may31 t.i = true := by
    unfold Tok.ok at ht; simp at ht; refine ⟨by omega, by omega, ht.1.2, ht.2⟩
  obtain ⟨h1, h2, h3, h4⟩ := hb
  have HIN : Hid ([t.s, t.i].all may31 = true) := Lib.hid (by simp [h3, h4])
  have HI := Lib.hid (I64s.lit (W := w1) (cs := #[.int .i64 t.s, .int .i64 t.i]) (zs := [t.s, t.i]) (n := 2) 2 rfl rfl)
  have hal := (Below.refl w1.heap.size w1).alloc (Nat.le_refl _) (.cells #[.int .i64 t.s, .int .i64 t.i] 2)
  have HB2 := Lib.hid (HB.out.alloc HB.out.size (.cells #[.int .i64 t.s, .int .i64 t.i] 2))
  have HT2 := Lib.hid (HT.out.below hal HT.out.lt)
  have H2 := Lib.hid (H.out.below hal)
  clear hal ht h3 h4
  go_wp2_with fail
  refine (tin_c _ 2 2 [t.s, t.i] _ HI.out (by decide)).mono ?_
  rintro e w'' ⟨rfl, hww⟩
  rw [HIN.out, ← hww]
  clear c0 c1 c2 hww
  generalize w1.alloc (.cells #[.int .i64 t.s, .int .i64 t.i] 2) = w2 at HB2 HT2 H2 ⊢
  clear H HB HI HT
  generalize hgs : w.heap.size = B at HT2 ⊢
  go_wp2_with fail
  have hgs2 := Lib.hid hgs
  clear hgs
  have info36 : (Tryz.prog.info? 31).map (·.size) = some 3 := by kernel_rfl
  have hkb : ∀ W W', MakeS p k t B W → Below W.heap.size W W' → MakeS p k t B W' := fun W W' h hb => ⟨h.1.below hb h.1.lt, h.2.below hb⟩
  have HKB := Lib.hid hkb
  have hS0 : (fun W => MakeS p k t B W ∧ Below w.heap.size w W) w2.drew := ⟨⟨HT2.out.drew, H2.out.below (Below.refl w2.heap.size w2).drew⟩, HB2.out.drew⟩
  clear hkb HT2 H2 HB2
  refine wp_region_held_drew (S := (fun W => MakeS p k t B W ∧ Below w.heap.size w W)) (by kernel_rfl) hS0 ?_
  intro hS0'
  refine wpAnyH_take (i := 0) (v := .pointer (some ⟨p, 0, none⟩)) rfl (by kernel_rfl) (by kernel_rfl) (by kernel_rfl) (fun _ _ _ h => h) (Or.inl ⟨by kernel_rfl, fun w hSw => ?_⟩) hS0' ?_
  · go_simp
  try simp only [Act.put, List.getElem_toArray, List.getElem_cons_succ, List.getElem_cons_zero, List.setIfInBounds_toArray, List.set_cons_zero, List.set_cons_succ]
  refine wpAnyH_take (i := 1) (v := .pointer (some ⟨p, 0, none⟩)) rfl (by kernel_rfl) (by kernel_rfl) (by kernel_rfl) (fun _ _ _ h => h) (Or.inl ⟨by kernel_rfl, fun w hSw => ?_⟩) hS0' ?_
  · go_simp
  try simp only [Act.put, List.getElem_toArray, List.getElem_cons_succ, List.getElem_cons_zero, List.setIfInBounds_toArray, List.set_cons_zero, List.set_cons_succ]
  refine wpAnyH_take (i := 3) (v := .agg #[.int .i64 t.m, .int .i64 t.s, .int .i64 t.i]) rfl (by kernel_rfl) (by kernel_rfl) (by kernel_rfl) (fun _ _ _ h => h) ?_ hS0' ?_
  · exact yieldsIf_load_blk (by kernel_rfl) 31 (.tmp 3) (by kernel_rfl) B (by kernel_rfl) 31 #[.int .i64 t.m, .int .i64 t.s, .int .i64 t.i] _ (fun _ h => h.1.1) Tryz.underlying31 rfl info36
  try simp only [Act.put, List.getElem_toArray, List.getElem_cons_succ, List.getElem_cons_zero, List.setIfInBounds_toArray, List.set_cons_zero, List.set_cons_succ]
  refine wpAnyH_ready (rs := [2]) (by kernel_rfl) (by simp) ?_
  refine AllReadyH.cons (by rfl) ?_ AllReadyH.nil
  intro K hK
  go_simp
  refine (newestk_c p k _ hS0'.1.2 hf).mono ?_
  rintro e w4 ⟨rfl, hb4⟩
  refine hK.out _ _ ⟨HKB.out _ _ hS0'.1 hb4, hS0'.2.trans (hb4.mono hS0'.2.size)⟩ (fun hS1 => ?_)
  clear hK K
  refine wpAnyH_ready (rs := [4]) (by kernel_rfl) (by simp) ?_
  refine AllReadyH.cons (by rfl) ?_ AllReadyH.nil
  intro K hK
  go_simp
  refine (with_c p k (k.ms.length - 1) (k.newest : Int) t.m t.s t.i _ hS1.1.2 (by have := hS1.1.2.pos; omega) (by have := hS1.1.2.pos; unfold KS.newest; omega) hf (Tok.okN HTO.out _ (by have := hS1.1.2.len; unfold KS.newest; omega))).mono ?_
  rintro e w5 ⟨v5, rfl, ho5, hb5⟩
  have e5 : taggedB (k.at_ (k.ms.length - 1)) (laidN [(k.newest : Int), t.m, t.s, t.i]) = k.bytes t := rfl
  rw [e5] at ho5
  have hbl : (k.bytes t).length ≤ 52 := by unfold KS.bytes; rw [taggedB_len]; have := KS.head_len HTO.out k.newest (by have := hS1.1.2.len; unfold KS.newest; omega); omega
  obtain ⟨L, hL⟩ : ∃ L, L = k.bytes t := ⟨_, rfl⟩
  have HL := Lib.hid hL
  rw [← hL] at ho5 hbl
  obtain ⟨a5, c5, hv5, hc5, hy5⟩ := ho5.bys
  obtain ⟨n5, hn5⟩ : ∃ n5, n5 = L.length := ⟨_, rfl⟩
  rw [← hn5] at hv5 hy5 hbl
  subst hv5
  have HY5 := Lib.hid hy5
  clear hL hn5 hy5 hc5 e5
  refine hK.out _ _ ⟨HKB.out _ _ hS1.1 hb5, hS1.2.trans (hb5.mono hS1.2.size)⟩ (fun hS2 => ?_)
  clear hK K
  refine wpAnyH_ready (rs := [5]) (by kernel_rfl) (by simp) ?_
  refine AllReadyH.cons (by rfl) ?_ AllReadyH.nil
  intro K hK
  go_simp
  refine (spell_c a5 n5 c5 L _ HY5.out (by omega)).mono ?_
  rintro e w6 ⟨rfl, hb6⟩
  refine hK.out _ _ ⟨HKB.out _ _ hS2.1 hb6, hS2.2.trans (hb6.mono hS2.2.size)⟩ (fun hS3 => ?_)
  clear hK K
  refine wpAnyH_ready (rs := [6]) (by kernel_rfl) (by simp) ?_
  refine AllReadyH.cons (by rfl) ?_ AllReadyH.nil
  intro K hK
  go_simp
  refine hK.out _ _ hS3 (fun hS4 => ?_)
  clear hK K
  refine wpAnyH_ready (rs := [7]) (by kernel_rfl) (by simp) ?_
  refine AllReadyH.cons (by rfl) ?_ AllReadyH.nil
  intro K hK
  go_simp
  refine hK.out _ _ hS4 (fun hS5 => ?_)
  clear hK K
  refine wpAnyH_done (by kernel_rfl) ?_ _
  go_wp2_with fail
  go_ret2
  exact ⟨by rw [← HL.out]; rfl, hS5.2⟩
end Go.Proofs.YtomnjhhpeglcnaaGreat

namespace Go.Proofs.YtomnjhhpeglcnaaGreat
open Go.RowKit
set_option linter.unusedSimpArgs false
set_option linter.unusedVariables false
set_option maxRecDepth 100000

def most31 : Int := 2147483647
def Tok.zero : Tok := ⟨0, 0, 0⟩
/-- What bytes open to. -/
def openTB (k : KS) (b : List By) : Tok × Int :=
  if (rnum ⟨b, 0⟩ most31).2.2 ≠ 0 then (Tok.zero, 161)
  else if (rnum (rnum ⟨b, 0⟩ most31).1 15).2.2 ≠ 0 then (Tok.zero, 161)
  else if (rnum (rnum (rnum ⟨b, 0⟩ most31).1 15).1 most31).2.2 ≠ 0 then (Tok.zero, 161)
  else if (rnum (rnum (rnum (rnum ⟨b, 0⟩ most31).1 15).1 most31).1 most31).2.2 ≠ 0 then (Tok.zero, 161)
  else if (rnum (rnum (rnum (rnum ⟨b, 0⟩ most31).1 15).1 most31).1 most31).1.l.length ≠ 16 then (Tok.zero, 161)
  else if ¬ (k.first ≤ (rnum ⟨b, 0⟩ most31).2.1 ∧ (rnum ⟨b, 0⟩ most31).2.1 ≤ k.newest) then (Tok.zero, 162)
  else if taggedB (k.at_ ((rnum ⟨b, 0⟩ most31).2.1 - k.first)) (laidN [((rnum ⟨b, 0⟩ most31).2.1 : Int), ((rnum (rnum ⟨b, 0⟩ most31).1 15).2.1 : Int), ((rnum (rnum (rnum ⟨b, 0⟩ most31).1 15).1 most31).2.1 : Int), ((rnum (rnum (rnum (rnum ⟨b, 0⟩ most31).1 15).1 most31).1 most31).2.1 : Int)]) = b
  then (⟨((rnum (rnum ⟨b, 0⟩ most31).1 15).2.1 : Int), ((rnum (rnum (rnum ⟨b, 0⟩ most31).1 15).1 most31).2.1 : Int), ((rnum (rnum (rnum (rnum ⟨b, 0⟩ most31).1 15).1 most31).1 most31).2.1 : Int)⟩, 0)
  else (Tok.zero, 161)
/-- What a text opens to. -/
def KS.open_ (k : KS) (s : List By) : Tok × Int :=
  if 200 < s.length then (Tok.zero, 3) else match unspellB s with
    | none => (Tok.zero, 160)
    | some b => openTB k b
theorem rnum_e (s : RS) (most : Int) (hs : s.e = 0) : (rnum s most).2.2 = 0 → (rnum s most).1.e = 0 := by
  unfold rnum
  rw [if_neg (by simp [hs])]
  split
  · simp
  · split
    · simp
    · simp
theorem rnum_len (s : RS) (most : Int) : (rnum s most).1.l.length ≤ s.l.length := by
  unfold rnum
  split
  · simp
  · split
    · simp
    · split
      · simp [RS.fail]
      · simp
theorem rnum_top (s : RS) (most : Int) (hm : 0 ≤ most) : ((rnum s most).2.1 : Int) ≤ most := by
  unfold rnum
  split
  · simpa using hm
  · split
    · simpa using hm
    · split
      · simpa using hm
      · rename_i h; simp only; omega

set_option maxHeartbeats 1000000 in
/-- Open's own number. -/
theorem numT_c (bx p : Nat) (s : RS) (most : Int) (w : World) (h : IsRd w p s) (hl : s.l.length ≤ 1000000000) (hb : w.cell? ⟨bx, 0, none⟩ = some (.pointer (some ⟨p, 0, none⟩))) :
    Calls Tryz.prog 34 #[.int .i64 most, .pointer (some ⟨bx, 0, none⟩)] w fun e w' => (IsRd w' p (rnum s most).1 ∧ Only p w w') ∧
      (((rnum s most).2.2 = 0 ∧ e = .returned (.int .i64 ((rnum s most).2.1 : Int))) ∨ ((rnum s most).2.2 ≠ 0 ∧ e = .panicked (gaveT 161))) := by
  have H := Lib.hid h
  clear h
  obtain ⟨N, hN⟩ : ∃ N, N = (rnum s most).2.1 := ⟨_, rfl⟩
  obtain ⟨E, hE⟩ : ∃ E, E = (rnum s most).2.2 := ⟨_, rfl⟩
  have HN := Lib.hid hN; have HE := Lib.hid hE
  rw [← hN, ← hE]
  clear hN hE
  go_enter Tryz.func34, Tryz.ntmps34
  go_wp2_with fail
  refine (rd_number p s most _ H.out hl).mono ?_
  rintro e w1 ⟨rfl, hi, ho⟩
  rw [← HN.out, ← HE.out]
  have HI := Lib.hid hi; have HO := Lib.hid ho
  clear hi ho
  by_cases h0 : E = 0
  · subst h0
    go_wp2_with fail
    refine (mustT_yes _ _).mono ?_
    rintro e w2 ⟨rfl, rfl⟩
    go_wp2_with fail
    go_ret
    refine ⟨⟨HI.out, HO.out⟩, ?_⟩
    first | exact .inl ⟨rfl, rfl⟩ | exact rfl
  · have q : (E == 0) = false := by simpa using h0
    go_wp2_with fail
    refine (mustT_no _ _).mono ?_
    rintro e w2 ⟨rfl, rfl⟩
    exact ⟨rfl, ⟨HI.out, HO.out⟩, .inr ⟨h0, rfl⟩⟩

theorem info36 : (Tryz.prog.info? 31).map (·.size) = some 3 := by kernel_rfl
def tcells (a b c : Int) : Array Value := #[.int .i64 a, .int .i64 b, .int .i64 c]
theorem zclear_c (b : Nat) (x y z : Int) (w : World) (h : Blk w b 31 (tcells x y z)) :
    Calls Tryz.prog 30 #[.pointer (some ⟨b, 0, none⟩)] w fun e w' => e = .returned (.tuple #[]) ∧ Blk w' b 31 (tcells 0 0 0) ∧ Tch (fun i => i = b) w w' := by
  have H := Lib.hid h
  clear h
  go_enter Tryz.func30, Tryz.ntmps30
  go_wp2_with (refine wpl_store_blk rfl 31 _ _ rfl b 31 (tcells x y z) (tcells 0 0 0) rfl rfl H.out rfl info36 (by kernel_rfl) ?_; intro w2 hB2 hO2 hz2)
  go_end0
  exact ⟨rfl, hB2, hO2.tch⟩
/-- A token is not opened. -/
theorem openFail_c (w W : World) (a b c x y : Int) (hb : Blk W w.heap.size 31 (tcells a b c)) (he : Blk W (w.heap.size + 1) 32 #[.int .i64 x]) (hl : Below w.heap.size w W) :
    CallsD Tryz.prog 29 #[.pointer (some ⟨w.heap.size + 1, 0, none⟩), .func (.func 30) #[] #[.pointer (some ⟨w.heap.size, 0, none⟩)]] (.panicking (gaveT y)) W fun e u' w' =>
      e = .returned (.tuple #[]) ∧ u' = .panicking [{ v := .iface 32 (.int .i64 y), recovered := true }] ∧ Blk w' w.heap.size 31 (tcells 0 0 0) ∧ Blk w' (w.heap.size + 1) 32 #[.int .i64 y] ∧ Below w.heap.size w w' := by
  refine (caughtT_c (w.heap.size + 1) x y 30 _ [] _ he (enters_f Tryz.func30 (by kernel_rfl) rfl) (fun W' => Blk W' w.heap.size 31 (tcells 0 0 0) ∧ Blk W' (w.heap.size + 1) 32 #[.int .i64 y] ∧ Below w.heap.size w W') ?_)
  intro w4 hb4 ht4
  refine (zclear_c w.heap.size a b c w4 (ht4.blk hb (by omega))).mono ?_
  rintro e w5 ⟨rfl, hb5, ht5⟩
  exact ⟨rfl, hb5, ht5.blk hb4 (by omega), (hl.trans (ht4.below hl.size (fun i e => by omega))).trans (ht5.below (by have := hl.size; have := ht4.size; omega) (fun i e => by omega))⟩
theorem results_cell2c {P : Program} {fn : Func} {p q : Tmp} {ty ty2 : TypeId} (h : fn.results = #[.cell p ty, .cell q ty2]) (tmps : Array Value) (w : World) (g g2 : Nat) (t : TypeId) (cs : Array Value) (d : TypeDesc) (v : Value)
    (hp : tmps.getD p undef = .pointer (some ⟨g, 0, none⟩)) (hq : tmps.getD q undef = .pointer (some ⟨g2, 0, none⟩)) (hg : Blk w g t cs)
    (hu : P.underlying ty = some d) (hd : (match d with | .struct _ | .array _ _ => true | _ => false) = true) (hi : (P.info? ty).map (·.size) = some cs.size)
    (h2 : (loadVar ty2 ⟨g2, 0, none⟩).run P w = .ok v w) :
    (results fn tmps).run P w = .ok (.tuple #[.agg cs, v]) w := by
  have hp' : tmps[p]?.getD undef = .pointer (some ⟨g, 0, none⟩) := by simpa using hp
  have hq' : tmps[q]?.getD undef = .pointer (some ⟨g2, 0, none⟩) := by simpa using hq
  simp [results, h, hp', hq', asAddr, run_loadVar_row w g t ty cs (0, 0) d hg hu hd hi, h2]
end Go.Proofs.YtomnjhhpeglcnaaGreat
