/- Contracts: what the document lays. -/
import Derived.Test.YtnecoapbpicloaaWx
import Derived.Lib.ConvBytes
namespace Go.Proofs.Ytnecoapbpicloaa
open Go.RowKit
set_option linter.unusedSimpArgs false
set_option linter.unusedVariables false
set_option maxRecDepth 100000

theorem conv_bytes (w : World) (s : ByteArray) : ∃ c w', (convert 9 22 (.string s)).run Try.prog w = .ok (.slice (some ⟨w.heap.size, 0, none⟩) s.size c) w' ∧ Bys w' (some ⟨w.heap.size, 0, none⟩) s.size (strB s) ∧ Below w.heap.size w w' ∧ w'.heap.size = w.heap.size + 1 ∧ s.size ≤ c := by
  refine ⟨_, _, Lib.run_convert_string_bytes w 9 22 5 s Try.underlying9 Try.underlying22 Try.underlying5, ⟨strB_len s, fun i c hi => ⟨w.heap.size, 0, rfl, by rw [Lib.bytesWorld_size]; omega, ?_⟩⟩, ⟨rfl, rfl, rfl, by rw [Lib.bytesWorld_size]; omega, fun j hj => Lib.bytesWorld_at_old w _ s j hj⟩, Lib.bytesWorld_size w _ s, grownCap_ge w _ _ _⟩
  have hlt := (List.getElem?_eq_some_iff.1 hi).1
  rw [strB_len] at hlt
  rw [Nat.zero_add, Lib.bytesWorld_cell w _ s i hlt]
  unfold strB at hi
  rw [List.getElem?_map, Option.map_eq_some_iff] at hi
  obtain ⟨b, hb, rfl⟩ := hi
  simp [List.getD, hb]
theorem wpl_conv_bytes {ops : Array Oper} {rest : List Oper} {o : Oper} {a : Act} {w : World} {Q : Exit → Act → World → Prop} (hgd : o.guard = none) (x : Operand) (ho : o.op = .convert 9 22 x) (s : ByteArray) (hx : a.eval x = .string s)
    (h : ∀ c w', Bys w' (some ⟨w.heap.size, 0, none⟩) s.size (strB s) → Below w.heap.size w w' → w'.heap.size = w.heap.size + 1 → s.size ≤ c → wpList Try.prog ops Q rest (a.put o.dst (.slice (some ⟨w.heap.size, 0, none⟩) s.size c)) w') : wpList Try.prog ops Q (o :: rest) a w := by
  refine wpList_plain hgd fun K hK => ?_
  obtain ⟨c, w', hrun, h1, h2, h3, h4⟩ := conv_bytes w s
  unfold Oper.wp execOp
  simp only [ho, Sem.run_bind, Sem.run_pure, Result.andThen_ok, hx, hrun]
  exact hK _ _ (h c w' h1 h2 h3 h4)

set_option maxHeartbeats 1000000 in
theorem rtextB_c (s : ByteArray) (w : World) (hs : s.size ≤ 1000000000) :
    Calls Try.prog 37 #[.string s] w fun e w' => ∃ v, e = .returned v ∧ OwnB w' w.heap.size v (textB (strB s)) ∧ Below w.heap.size w w' := by
  go_enter Try.func37, Try.ntmps37
  go_wp2_with fail
  refine (rnumber_c s.size _ (by omega)).mono ?_
  rintro e w1 ⟨v, rfl, ho, hb⟩
  have HO := Lib.hid ho; have HB := Lib.hid hb
  have hz := hb.size
  have hn9 : (numB s.size).length ≤ 9 := numB_nine (by omega)
  clear ho hb
  go_wp2_with (first | (refine wpl_conv_bytes rfl (.tmp 6) rfl s rfl ?_; intro c2 w2 hy2 hb2 hz2 hc2; have HY2 := Lib.hid hy2; have HB2 := Lib.hid hb2; clear hy2 hb2) | (at_builtin; refine wpl_append_bys rfl _ _ rfl w.heap.size _ _ rfl (HO.out.below HB2.out) _ _ c2 (strB s) rfl HY2.out ?c1 ?c2 ?_))
  case c1 => omega
  case c2 => omega
  intro v3 w3 ho3 hg3 _
  have HO3 : Hid (OwnB w3 w.heap.size v3 (textB (strB s))) := Lib.hid (by unfold textB; rw [strB_len]; exact ho3)
  have HB3 := Lib.hid (HB.out.trans ((HB2.out.mono hz).trans (own_grown (HO.out.below HB2.out) hg3 (Nat.le_refl _) (by omega))))
  clear ho3 hg3
  go_wp2_with fail
  go_ret
  exact ⟨v3, rfl, HO3.out, HB3.out⟩
theorem rtruthB_c (b : Bool) (w : World) :
    Calls Try.prog 38 #[.bool b] w fun e w' => ∃ v, e = .returned v ∧ OwnB w' w.heap.size v (truthB b) ∧ Below w.heap.size w w' := by
  cases b
  · go_enter Try.func38, Try.ntmps38
    go_wp2_with fail
    go_ret
    exact ⟨_, rfl, own_blk (Blk.new _ _ _) (Nat.le_refl _) rfl rfl (by omega), (Below.refl _ _).alloc (Nat.le_refl _) _⟩
  · go_enter Try.func38, Try.ntmps38
    go_wp2_with fail
    go_ret
    exact ⟨_, rfl, own_blk (Blk.new _ _ _) (Nat.le_refl _) rfl rfl (by omega), (Below.refl _ _).alloc (Nat.le_refl _) _⟩

/-! ### A writer's call -/
structure WAct where
  what : Int
  a : Option Addr
  n : Nat
  c : Nat
  zs : List Int
  text : ByteArray
  truth : Bool
def WAct.val (x : WAct) : Value := .agg #[.int .i64 x.what, .slice x.a x.n x.c, .string x.text, .bool x.truth]
def WAct.cells (x : WAct) : Array Value := #[.int .i64 x.what, .slice x.a x.n x.c, .string x.text, .bool x.truth]
/-- What a call lays, and an error. -/
def laidA (x : WAct) : List By × Int :=
  if x.what = 0 then (if okN x.zs then (laidN x.zs, 0) else ([], 2)) else if x.what = 1 then (textB (strB x.text), 0) else (truthB x.truth, 0)

def LaidRes (B : Nat) (x : WAct) (e : Ending) (w' : World) : Prop := ∃ A C, e = .returned (.tuple #[.slice A (laidA x).1.length C, .int .i64 (laidA x).2]) ∧ OwnB w' B (.slice A (laidA x).1.length C) (laidA x).1
theorem laid_res {B : Nat} {x : WAct} {e : Ending} {w' : World} {v : Value} {l : List By} {k : Int} (h : laidA x = (l, k)) (he : e = .returned (.tuple #[v, .int .i64 k])) (ho : OwnB w' B v l) : LaidRes B x e w' := by
  unfold LaidRes
  rw [h]
  obtain ⟨a, c, rfl, _, _⟩ := ho.bys
  exact ⟨a, c, he, ho⟩
set_option maxHeartbeats 2000000 in
theorem laid_c (x : WAct) (w : World) (hi : I64s w x.a x.n x.zs) (hn : x.n ≤ 1000000) (ht : x.text.size ≤ 100000000) :
    Calls Try.prog 13 #[x.val] w fun e w' => LaidRes w.heap.size x e w' ∧ Below w.heap.size w w' := by
  have hla : ∀ l k, laidA x = (l, k) → laidA x = (l, k) := fun _ _ h => h
  obtain ⟨what, a, n, c, zs, text, truth⟩ := x
  obtain ⟨X, hX⟩ : ∃ X : WAct, X = ⟨what, a, n, c, zs, text, truth⟩ := ⟨_, rfl⟩
  have HX := Lib.hid hX
  rw [← hX] at hla
  simp only [WAct.val]
  have HI := Lib.hid hi
  simp only at hn ht
  rw [← hX]
  clear hX hi hla
  by_cases h0 : what = 0
  · subst h0
    go_enter Try.func13, Try.ntmps13
    go_wp2_with fail
    have hB1 := (Below.refl w.heap.size w).alloc (Nat.le_refl _) (.cells #[.int .i64 0, .slice a n c, .string text, .bool truth] 30)
    have hK1 := Blk.new w 30 #[.int .i64 0, .slice a n c, .string text, .bool truth]
    generalize (World.alloc _ _) = w1 at hB1 hK1 ⊢
    have HB1 := Lib.hid hB1; have HK1 := Lib.hid hK1
    have hz1 : w.heap.size < w1.heap.size := hK1.lt
    clear hB1 hK1
    go_loopw [4, 5] (fun ov iv wr => ∃ (k : Nat) (v1 : Value), v1 = ov ∧ k ≤ n ∧ iv = .int .i64 (k : Int) ∧ okN (zs.take k) = true ∧ OwnB wr w1.heap.size v1 (laidN (zs.take k)) ∧ Below w1.heap.size w1 wr) (fun _ iv _ => n - (intOf iv).toNat)
    case atStart => exact ⟨0, _, rfl, Nat.zero_le _, rfl, rfl, own_nil _ _, Below.refl _ _⟩
    case round =>
      obtain ⟨k, v1, rfl, hk, rfl, hok, ho, hb⟩ := hrel
      have HOK := Lib.hid hok; have HO := Lib.hid ho; have HB := Lib.hid hb
      have hz := hb.size
      have hB := HB1.out.trans (hb.mono (by omega))
      have HBB := Lib.hid hB
      have d1 : wr.cell? ⟨w.heap.size, 1, none⟩ = some (.slice a n c) := (HK1.out.below hb hz1).cell (i := 1) rfl
      clear hok ho hb hB
      by_cases hlt : k < n
      · obtain ⟨y, hy⟩ : ∃ y, zs[k]? = some y := ⟨zs[k]'(by rw [HI.out.1]; exact hlt), List.getElem?_eq_getElem _⟩
        obtain ⟨g, off, rfl, hg, hc⟩ := (HI.out.below HBB.out).2 k y hy
        have HY := Lib.hid hy; clear hy
        by_cases hyo : numOk y = true
        · obtain ⟨y0, y1⟩ : 0 ≤ y ∧ y ≤ 4611686018427387904 := of_decide_eq_true hyo
          obtain ⟨m, rfl⟩ : ∃ m : Nat, y = (m : Int) := ⟨y.toNat, by omega⟩
          have r0 : decide ((m : Int) < 0) = false := decide_eq_false (by omega)
          have r1 : decide ((4611686018427387904 : Int) < (m : Int)) = false := decide_eq_false (by omega)
          have hs := laidN_snoc HY.out
          have HS : Hid (laidN (zs.take k) ++ numB m = laidN (zs.take (k + 1))) := Lib.hid (by rw [hs]; rfl)
          have HOK2 : Hid (okN (zs.take (k + 1)) = true) := Lib.hid (by
            unfold okN
            rw [List.take_add_one, HY.out, List.all_append]
            have h1 := HOK.out
            unfold okN at h1
            rw [h1]
            simp [hyo])
          have hll : (laidN (zs.take k)).length ≤ 9000000 := by
            have := laidN_len HOK.out
            rw [List.length_take] at this
            omega
          have hn9 : (numB m).length ≤ 9 := numB_nine (by omega)
          clear hs hyo
          go_wp2_with fail
          refine (rnumber_c m _ (by omega)).mono ?_
          rintro e w2 ⟨v2, rfl, ho2, hb2⟩
          obtain ⟨a2, c2, rfl, hc2, hy2⟩ := ho2.bys
          have HY2 := Lib.hid hy2; have HB2 := Lib.hid hb2
          have hz2 := hb2.size
          clear ho2 hb2 hy2
          go_wp2_with (at_builtin; refine wpl_append_bys rfl _ _ rfl w1.heap.size v1 (laidN (zs.take k)) ?a0 ?a1 a2 (numB m).length c2 (numB m) ?a2 ?a3 ?c1 ?c2 ?_)
          case a0 => rfl
          case a1 => exact HO.out.below HB2.out
          case a2 => rfl
          case a3 => exact HY2.out
          case c1 => omega
          case c2 => omega
          intro v3 w3 ho3 hg3 _
          rw [HS.out] at ho3
          have HO3 := Lib.hid ho3
          have HB3 := Lib.hid (HB.out.trans ((HB2.out.mono hz).trans (own_grown (HO.out.below HB2.out) hg3 (Nat.le_refl _) (by omega))))
          clear ho3 hg3 d1 hc
          go_wp2_with fail
          go_roundw
          case rel => exact ⟨k + 1, v3, rfl, by omega, by go_num, HOK2.out, HO3.out, HB3.out⟩
          case measure => simp [intOf]; omega
        · have HNO : Hid (okN zs = false) := Lib.hid (by
            unfold okN
            rw [List.all_eq_false]
            exact ⟨y, List.mem_of_getElem? HY.out, hyo⟩)
          have hyo2 : ¬ (0 ≤ y ∧ y ≤ 4611686018427387904) := fun h => hyo (decide_eq_true h)
          have HL : Hid (laidA X = ([], 2)) := Lib.hid (by rw [HX.out]; simp [laidA, HNO.out])
          clear hyo
          by_cases y0 : y < 0
          · have r0 : decide (y < 0) = true := decide_eq_true y0
            clear hyo2
            go_wp2_with fail
            go_ret2
            exact ⟨laid_res HL.out rfl (own_nil _ _), HBB.out⟩
          · have r1 : decide ((4611686018427387904 : Int) < y) = true := decide_eq_true (by omega)
            clear hyo2
            go_wp2_with fail
            go_ret2
            exact ⟨laid_res HL.out rfl (own_nil _ _), HBB.out⟩
      · obtain rfl : k = n := by omega
        have HE : Hid (zs.take k = zs) := Lib.hid (List.take_of_length_le (by rw [HI.out.1]; exact Nat.le_refl _))
        go_wp2_with fail
        go_ret2
        have h1 := HOK.out
        have h2 := HO.out
        rw [HE.out] at h1 h2
        exact ⟨laid_res (by rw [HX.out]; simp [laidA, h1]) rfl (own_low h2 (by omega)), HBB.out⟩
  · by_cases h1 : what = 1
    · subst h1
      have HL : Hid (laidA X = (textB (strB text), 0)) := Lib.hid (by rw [HX.out]; simp [laidA])
      clear h0
      go_enter Try.func13, Try.ntmps13
      go_wp2_with fail
      have hB1 := (Below.refl w.heap.size w).alloc (Nat.le_refl _) (.cells #[.int .i64 1, .slice a n c, .string text, .bool truth] 30)
      refine (rtextB_c text _ (by omega)).mono ?_
      rintro e w2 ⟨v, rfl, ho, hb⟩
      have HO := Lib.hid ho; have HB := Lib.hid (hB1.trans (hb.mono (by simp)))
      clear ho hb hB1
      go_wp2_with fail
      go_ret2
      exact ⟨laid_res HL.out rfl (own_low HO.out (by simp)), HB.out⟩
    · have HL : Hid (laidA X = (truthB truth, 0)) := Lib.hid (by rw [HX.out]; simp [laidA, h0, h1])
      have q0 : (what == 0) = false := by simpa using h0
      have q1 : (what == 1) = false := by simpa using h1
      clear h0 h1
      go_enter Try.func13, Try.ntmps13
      go_wp2_with fail
      have hB1 := (Below.refl w.heap.size w).alloc (Nat.le_refl _) (.cells #[.int .i64 what, .slice a n c, .string text, .bool truth] 30)
      refine (rtruthB_c truth _).mono ?_
      rintro e w2 ⟨v, rfl, ho, hb⟩
      have HO := Lib.hid ho; have HB := Lib.hid (hB1.trans (hb.mono (by simp)))
      clear ho hb hB1
      go_wp2_with fail
      go_ret2
      exact ⟨laid_res HL.out rfl (own_low HO.out (by simp)), HB.out⟩
end Go.Proofs.Ytnecoapbpicloaa
