/- What was laid is read; frames that are cut: plain. Contract: read. -/
import Derived.Test.YtnecoapbpicloaaXv
import Derived.Test.YtnecoapbpicloaaXj
import Derived.Test.YtnecoapbpicloaaXb
namespace Go.Proofs.Ytnecoapbpicloaa
open Go.RowKit
set_option linter.unusedSimpArgs false
set_option linter.unusedVariables false
set_option maxRecDepth 100000

/-! ### Plain -/
theorem rnum_laid {n : Nat} {most : Int} (h : n ≤ 4611686018427387904) (hm : (n : Int) ≤ most) (t : List By) : rnum ⟨numB n ++ t, 0⟩ most = (⟨t, 0⟩, n, 0) := by
  have ht := takeB_num h t
  have hp := numB_pos n
  unfold rnum
  simp only [ht]
  rw [if_neg (by simp), if_neg (by omega), if_neg (by omega)]
  simp
theorem rtext_laid {l : List By} (h : l.length ≤ 1000) (t : List By) : rtext ⟨textB l ++ t, 0⟩ 1000 = (⟨t, 0⟩, l, 0) := by
  have e : (⟨textB l ++ t, 0⟩ : RS) = ⟨numB l.length ++ (l ++ t), 0⟩ := by unfold textB; rw [List.append_assoc]
  unfold rtext
  rw [e, rnum_laid (by omega) (by omega)]
  simp only
  rw [if_neg (by simp), if_neg (by simp)]
  simp
theorem rtruth_laid (b : Bool) (t : List By) : rtruth ⟨truthB b ++ t, 0⟩ = (⟨t, 0⟩, b, 0) := by
  unfold rtruth truthB
  cases b <;> simp
theorem laidN_drop {zs : List Int} {i : Nat} {z : Int} (h : zs[i]? = some z) : laidN (zs.drop i) = numB z.toNat ++ laidN (zs.drop (i + 1)) := by
  have hlt := (List.getElem?_eq_some_iff.1 h).1
  have e : zs.drop i = z :: zs.drop (i + 1) := by
    rw [List.drop_eq_getElem_cons hlt]
    rw [List.getElem?_eq_getElem hlt] at h
    injection h with h
    rw [h]
  rw [e]
  unfold laidN
  simp
theorem okN_in {zs : List Int} (h : okN zs = true) {i : Nat} {z : Int} (hz : zs[i]? = some z) : 0 ≤ z ∧ z ≤ 4611686018427387904 := by
  have := List.all_eq_true.1 h z (List.mem_of_getElem? hz)
  simpa [numOk] using this

/-- The bytes of calls. -/
def dsB (ds : List WAct) : List By := (ds.map fun x => (laidA x).1).flatten
theorem dsB_snoc (ds : List WAct) (x : WAct) : dsB (ds ++ [x]) = dsB ds ++ (laidA x).1 := by simp [dsB]
theorem dsB_drop {ds : List WAct} {i : Nat} {x : WAct} (h : ds[i]? = some x) : dsB (ds.drop i) = (laidA x).1 ++ dsB (ds.drop (i + 1)) := by
  have hlt := (List.getElem?_eq_some_iff.1 h).1
  have e : ds.drop i = x :: ds.drop (i + 1) := by
    rw [List.drop_eq_getElem_cons hlt]
    rw [List.getElem?_eq_getElem hlt] at h
    injection h with h
    rw [h]
  rw [e]
  unfold dsB
  simp

/-! ### Frames that are cut -/
theorem jn_cons (s : ByteArray) (t : List ByteArray) : jn (s :: t) = frameB (strB s) ++ jn t := by simp [jn]
theorem frame_head {l : List By} (h : l.length ≤ 100) : ∃ c r, frameB l = c :: r ∧ numB (sealB l).length = [c] ∧ r = sealB l ∧ (frameB l).length = l.length + 5 := by
  have h1 : numB (sealB l).length = [BitVec.ofNat 8 (sealB l).length] := numB_lt (by rw [seal_len]; omega)
  refine ⟨_, sealB l, by unfold frameB; rw [h1]; rfl, h1, rfl, ?_⟩
  unfold frameB
  rw [h1, List.length_append, seal_len]
  simp; omega
/-- A frame that is cut short is none. -/
theorem split_short {l : List By} (h : l.length ≤ 100) {c : Nat} (hc : c < (frameB l).length) : (splitB ((frameB l).take c)).2.1 = 0 := by
  obtain ⟨x, r, e1, e2, rfl, e4⟩ := frame_head h
  cases c with
  | zero => simp [split0]
  | succ c =>
    have e5 : (frameB l).take (c + 1) = numB (sealB l).length ++ (sealB l).take c := by rw [e1, e2]; simp
    have ht := takeB_num (n := (sealB l).length) (by rw [seal_len]; omega) ((sealB l).take c)
    have hl := seal_len l
    rw [e5]
    rw [splitB_long (by rw [ht, e2]; simp) (by rw [ht]; simp only; omega) (by rw [ht, e2]; simp only [List.length_append, List.length_take, List.length_singleton]; omega)]
/-- The frames of texts, cut: those that are whole. -/
theorem parts_cut : ∀ (ss : List ByteArray), (∀ (j : Nat) (s : ByteArray), ss[j]? = some s → s.size ≤ 100) → ∀ (off c : Nat), c ≤ (jn ss).length →
    (partsFrom off ((jn ss).take c)).length ≤ ss.length ∧ (∀ (k : Nat) (q : Nat × List By), (partsFrom off ((jn ss).take c))[k]? = some q → ∃ s, ss[k]? = some s ∧ q = (off + (jn (ss.take (k + 1))).length, strB s)) ∧
      ((partsFrom off ((jn ss).take c)).length < ss.length → c < (jn (ss.take ((partsFrom off ((jn ss).take c)).length + 1))).length) := by
  intro ss
  induction ss with
  | nil =>
    intro _ off c hc
    have e : (jn ([] : List ByteArray)).take c = [] := by simp [jn]
    rw [e, partsFrom_nil]
    exact ⟨by simp, fun k q h => by simp at h, fun h => by simp at h⟩
  | cons s t ih =>
    intro hs off c hc
    have h1 := hs 0 s rfl
    have h2 : (strB s).length ≤ 100 := by rw [strB_len]; exact h1
    have iht := ih (fun j s' hs' => hs (j + 1) s' (by simpa using hs'))
    obtain ⟨x, r, e1, e2, e3, e4⟩ := frame_head h2
    rcases Nat.lt_or_ge c (frameB (strB s)).length with h | h
    · have e : (jn (s :: t)).take c = (frameB (strB s)).take c := by rw [jn_cons, List.take_append_of_le_length (by omega)]
      rw [e, partsFrom_stop (.inr (split_short h2 h))]
      refine ⟨by simp, fun k q h => by simp at h, fun _ => ?_⟩
      simp only [List.length_nil, Nat.zero_add, List.take_succ_cons, List.take_zero]
      rw [jn_cons]
      simp [jn]; omega
    · have e : (jn (s :: t)).take c = frameB (strB s) ++ (jn t).take (c - (frameB (strB s)).length) := by rw [jn_cons, List.take_append, List.take_of_length_le h]
      have hsp := split_frame (strB s) ((jn t).take (c - (frameB (strB s)).length)) (by omega)
      have hcl : c - (frameB (strB s)).length ≤ (jn t).length := by rw [jn_cons, List.length_append] at hc; omega
      obtain ⟨i1, i2, i3⟩ := iht (off + (frameB (strB s)).length) (c - (frameB (strB s)).length) hcl
      rw [e, partsFrom_more (by rw [hsp]) (by rw [hsp]; simp only; omega) (by rw [e1]; simp), hsp]
      simp only
      rw [List.drop_left' rfl]
      refine ⟨by simp; exact i1, fun k q hq => ?_, fun hlt => ?_⟩
      · cases k with
        | zero =>
          simp at hq
          subst hq
          refine ⟨s, rfl, ?_⟩
          simp [jn]
        | succ k =>
          rw [List.getElem?_cons_succ] at hq
          obtain ⟨s', hs', hq'⟩ := i2 k q hq
          refine ⟨s', by simpa using hs', ?_⟩
          rw [hq', List.take_succ_cons, jn_cons, List.length_append]
          simp only [Prod.mk.injEq, and_true]
          omega
      · have := i3 (by simp at hlt; exact hlt)
        rw [List.length_cons, List.take_succ_cons, jn_cons, List.length_append]
        omega

/-! ### The contract -/
theorem Only.bys {g : Nat} {w w' : World} (h : Only g w w') {ad : Option Addr} {n : Nat} {zs : List Int} (hi : I64s w ad n zs) (hg : ∀ g' off, ad = some ⟨g', off, none⟩ → 0 < n → g' ≠ g) : I64s w' ad n zs := by
  refine ⟨hi.1, fun i x hx => ?_⟩
  obtain ⟨g', off, e, hlt, hc⟩ := hi.2 i x hx
  have hn : 0 < n := by have := (List.getElem?_eq_some_iff.1 hx).1; rw [← hi.1]; omega
  exact ⟨g', off, e, Nat.lt_of_lt_of_le hlt h.size, (World.cell?_of_block (a := ⟨g', off + i, none⟩) (h.block g' hlt (fun e2 => by injection e2 with e2; exact hg g' off e hn e2))).trans hc⟩
def ReadRes (w : World) (q : Nat) (t : List By) (e : Ending) (w' : World) : Prop := e = .returned (.bool true) ∧ IsRd w' q ⟨t, 0⟩ ∧ Only q w w'

set_option maxHeartbeats 2000000 in
theorem read_0 (q : Nat) (x : WAct) (t : List By) (w : World) (h : IsRd w q ⟨(laidA x).1 ++ t, 0⟩) (hi : I64s w x.a x.n x.zs) (hok : (laidA x).2 = 0) (hn : x.n ≤ 20) (ht : t.length ≤ 1000000)
    (hap : ∀ g off, x.a = some ⟨g, off, none⟩ → 0 < x.n → g ≠ q) (hx : x.what = 0) : Calls Try.prog 35 #[.pointer (some ⟨q, 0, none⟩), x.val] w (ReadRes w q t) := by
  obtain ⟨what, a, n, c, zs, text, truth⟩ := x
  simp only at hi hn hap hx
  subst hx
  have hz : okN zs = true := by
    unfold laidA at hok
    rw [if_pos rfl] at hok
    cases h0 : okN zs
    · simp [h0] at hok
    · rfl
  have hl : (laidA ⟨0, a, n, c, zs, text, truth⟩).1 = laidN zs := by unfold laidA; rw [if_pos rfl]; simp [hz]
  rw [hl] at h
  simp only [WAct.val]
  have hal := (Below.refl w.heap.size w).alloc (Nat.le_refl _) (.cells #[.int .i64 0, .slice a n c, .string text, .bool truth] 30)
  have hqw : q < w.heap.size := h.lt
  have HR := Lib.hid (h.below hal)
  have HI := Lib.hid (hi.below hal)
  have HBX := Lib.hid (Blk.new w 30 #[.int .i64 0, .slice a n c, .string text, .bool truth])
  have HO := Lib.hid ((Only.refl q w).alloc (.cells #[.int .i64 0, .slice a n c, .string text, .bool truth]  30))
  have HAP := Lib.hid hap; have HZ := Lib.hid hz
  have hz1 : zs.length = n := hi.1
  clear h hi hal hap hok hl hz
  go_enter Try.func35, Try.ntmps35
  go_wp2_with fail
  obtain ⟨B, hB⟩ : ∃ B, B = w.heap.size := ⟨_, rfl⟩
  generalize w.alloc (.cells #[.int .i64 0, .slice a n c, .string text, .bool truth] 30) = w1 at HR HI HBX HO ⊢
  rw [← hB] at HBX ⊢
  have hBq : B ≠ q := by omega
  clear hB
  go_loopw [5] (fun iv wr => ∃ k : Nat, k ≤ n ∧ iv = .int .i64 (k : Int) ∧ IsRd wr q ⟨laidN (zs.drop k) ++ t, 0⟩ ∧ Only q w1 wr) (fun iv _ => n - (intOf iv).toNat)
  case atStart => exact ⟨0, Nat.zero_le _, rfl, HR.out, Only.refl _ _⟩
  case round =>
  obtain ⟨k, hk, rfl, hr, ho⟩ := hrel
  have hb := ho.blk HBX.out hBq
  have c1 := hb.cell (i := 1) rfl
  have HRr := Lib.hid hr; have HOr := Lib.hid ho
  have HBr := Lib.hid hb
  clear hr ho hb
  by_cases hlt : k < n
  · obtain ⟨z, hzk⟩ : ∃ z, zs[k]? = some z := ⟨zs[k]'(by omega), List.getElem?_eq_getElem _⟩
    have hz01 := okN_in HZ.out hzk
    have hd := laidN_drop hzk
    obtain ⟨g, off, rfl, hg, -⟩ := HI.out.2 k z hzk
    have HIr := Lib.hid (HOr.out.bys HI.out (fun g' off' e hn' => HAP.out g' off' e hn'))
    have hzn : z = ((z.toNat : Nat) : Int) := by omega
    have hrn := rnum_laid (n := z.toNat) (most := 4611686018427387904) (by omega) (by omega) (laidN (zs.drop (k + 1)) ++ t)
    rw [hd, List.append_assoc] at HRr
    have HL : Hid ((numB z.toNat ++ (laidN (zs.drop (k + 1)) ++ t)).length ≤ 1000000000) := Lib.hid (by
      obtain ⟨a9, c9, hb9, hy9, _⟩ := HRr.out
      have hN : ∀ (ys : List Int), (∀ y ∈ ys, y.toNat ≤ 4611686018427387904) → (laidN ys).length ≤ 9 * ys.length := by
        intro ys
        induction ys with
        | nil => intro _; simp [laidN]
        | cons y ys ih =>
          intro hy
          have h1 := numB_nine (hy y (by simp))
          have h2 := ih (fun y' hy' => hy y' (by simp [hy']))
          have e : laidN (y :: ys) = numB y.toNat ++ laidN ys := by simp [laidN]
          rw [e, List.length_append, List.length_cons]
          omega
      have h3 := hN (zs.drop k) (fun y hy => by
        obtain ⟨j, hj, rfl⟩ := List.getElem_of_mem (List.mem_of_mem_drop hy)
        have := okN_in HZ.out (List.getElem?_eq_getElem hj)
        omega)
      rw [hd] at h3
      rw [List.length_drop] at h3
      simp only [List.length_append] at h3 ⊢
      omega)
    have HRN := Lib.hid hrn; have HZN := Lib.hid hzn
    obtain ⟨nz, hnz⟩ : ∃ nz, nz = z.toNat := ⟨_, rfl⟩
    rw [← hnz] at HRN HZN HRr HL
    obtain ⟨rest, hrest⟩ : ∃ rest, rest = laidN (zs.drop (k + 1)) ++ t := ⟨_, rfl⟩
    rw [← hrest] at HRN HRr HL
    have HRE := Lib.hid hrest
    have HZK := Lib.hid hzk
    clear hrn hd hzk hzn hrest hnz
    go_wp2_with fail
    refine (rd_number q _ 4611686018427387904 _ HRr.out HL.out).mono ?_
    rintro e w2 ⟨rfl, hr2, ho2⟩
    rw [HRN.out] at hr2 ⊢
    simp only at hr2 ⊢
    have HR2 := Lib.hid hr2
    have HO2 := Lib.hid (HOr.out.trans ho2)
    have HI2 := Lib.hid (ho2.bys HIr.out (fun g' off' e hn' => HAP.out g' off' e hn'))
    have HB2 := Lib.hid (ho2.blk HBr.out hBq)
    have d1 := HB2.out.cell (i := 1) rfl
    obtain ⟨g', off', e', _, hcz⟩ := HI2.out.2 k z HZK.out
    injection e' with e'
    injection e' with e1 e2 _
    subst e1; subst e2
    rw [HZN.out] at hcz
    clear hr2 ho2 c1 HIr HRr HBr HOr HR HL
    go_wp2_with fail
    refine (num_c _ _).mono ?_
    rintro e w' ⟨rfl, rfl⟩
    go_wp2_with fail
    go_roundw
    case rel => exact ⟨k + 1, by omega, by go_num, by rw [← HRE.out]; exact HR2.out, HO2.out⟩
    case measure => simp [intOf]; omega
  obtain rfl : k = n := by omega
  have hdz : zs.drop k = [] := by rw [List.drop_eq_nil_iff]; omega
  have HD : Hid (IsRd wr q ⟨t, 0⟩) := Lib.hid (by have := HRr.out; rw [hdz] at this; exact this)
  clear HRr hdz HR
  go_wp2_with fail
  go_ret
  exact ⟨rfl, HD.out, HO.out.trans HOr.out⟩

set_option maxHeartbeats 2000000 in
theorem read_1 (q : Nat) (x : WAct) (t : List By) (w : World) (h : IsRd w q ⟨(laidA x).1 ++ t, 0⟩) (hs : x.text.size ≤ 200) (ht : t.length ≤ 1000000)
    (hx : x.what = 1) : Calls Try.prog 35 #[.pointer (some ⟨q, 0, none⟩), x.val] w (ReadRes w q t) := by
  rw [laid1 hx] at h
  obtain ⟨what, a, n, c, zs, text, truth⟩ := x
  simp only at hs hx h
  subst hx
  simp only [WAct.val]
  have hal := (Below.refl w.heap.size w).alloc (Nat.le_refl _) (.cells #[.int .i64 1, .slice a n c, .string text, .bool truth] 30)
  have hqw : q < w.heap.size := h.lt
  have HR := Lib.hid (h.below hal)
  have HBX := Lib.hid (Blk.new w 30 #[.int .i64 1, .slice a n c, .string text, .bool truth])
  have HO := Lib.hid ((Only.refl q w).alloc (.cells #[.int .i64 1, .slice a n c, .string text, .bool truth] 30))
  have HRT := Lib.hid (rtext_laid (l := strB text) (by rw [strB_len]; omega) t)
  have HL : Hid ((textB (strB text) ++ t).length ≤ 1000000000) := Lib.hid (by unfold textB; simp only [List.length_append, strB_len]; have := numB_nine (n := text.size) (by omega); omega)
  have HST := Lib.hid (strOf_B text)
  clear h hal
  go_enter Try.func35, Try.ntmps35
  go_wp2_with fail
  obtain ⟨B, hB⟩ : ∃ B, B = w.heap.size := ⟨_, rfl⟩
  generalize w.alloc (.cells #[.int .i64 1, .slice a n c, .string text, .bool truth] 30) = w1 at HR HBX HO ⊢
  rw [← hB] at HBX ⊢
  have hBq : B ≠ q := by omega
  clear hB
  refine (rd_text q _ 1000 _ HR.out HL.out).mono ?_
  rintro e w2 ⟨rfl, hr2, ho2⟩
  rw [HRT.out] at hr2 ⊢
  simp only at hr2 ⊢
  rw [HST.out]
  have HR2 := Lib.hid hr2
  have HO2 := Lib.hid (HO.out.trans ho2)
  have HB2 := Lib.hid (ho2.blk HBX.out hBq)
  have d2 := HB2.out.cell (i := 2) rfl
  clear hr2 ho2 HR HL HBX HO
  go_wp2_with fail
  refine (num_c _ _).mono ?_
  rintro e w' ⟨rfl, rfl⟩
  go_wp2_with fail
  go_ret
  exact ⟨rfl, HR2.out, HO2.out⟩

set_option maxHeartbeats 2000000 in
theorem read_2 (q : Nat) (x : WAct) (t : List By) (w : World) (h : IsRd w q ⟨(laidA x).1 ++ t, 0⟩)
    (hx : x.what ≠ 0 ∧ x.what ≠ 1) : Calls Try.prog 35 #[.pointer (some ⟨q, 0, none⟩), x.val] w (ReadRes w q t) := by
  rw [laid2 hx] at h
  obtain ⟨what, a, n, c, zs, text, truth⟩ := x
  simp only at hx h
  have q0 : (what == 0) = false := by simpa using hx.1
  have q1 : (what == 1) = false := by simpa using hx.2
  simp only [WAct.val]
  have hal := (Below.refl w.heap.size w).alloc (Nat.le_refl _) (.cells #[.int .i64 what, .slice a n c, .string text, .bool truth] 30)
  have hqw : q < w.heap.size := h.lt
  have HR := Lib.hid (h.below hal)
  have HBX := Lib.hid (Blk.new w 30 #[.int .i64 what, .slice a n c, .string text, .bool truth])
  have HO := Lib.hid ((Only.refl q w).alloc (.cells #[.int .i64 what, .slice a n c, .string text, .bool truth] 30))
  have HRT := Lib.hid (rtruth_laid truth t)
  clear h hal hx
  go_enter Try.func35, Try.ntmps35
  go_wp2_with fail
  obtain ⟨B, hB⟩ : ∃ B, B = w.heap.size := ⟨_, rfl⟩
  generalize w.alloc (.cells #[.int .i64 what, .slice a n c, .string text, .bool truth] 30) = w1 at HR HBX HO ⊢
  rw [← hB] at HBX ⊢
  have hBq : B ≠ q := by omega
  clear hB
  refine (rd_truth q _ _ HR.out).mono ?_
  rintro e w2 ⟨rfl, hr2, ho2⟩
  rw [HRT.out] at hr2 ⊢
  simp only at hr2 ⊢
  have HR2 := Lib.hid hr2
  have HO2 := Lib.hid (HO.out.trans ho2)
  have HB2 := Lib.hid (ho2.blk HBX.out hBq)
  have d2 := HB2.out.cell (i := 3) rfl
  clear hr2 ho2 HR HBX HO
  go_wp2_with fail
  refine (num_c _ _).mono ?_
  rintro e w' ⟨rfl, rfl⟩
  go_wp2_with fail
  go_ret
  exact ⟨rfl, HR2.out, HO2.out⟩
theorem read_act (q : Nat) (x : WAct) (t : List By) (w : World) (h : IsRd w q ⟨(laidA x).1 ++ t, 0⟩) (hi : I64s w x.a x.n x.zs) (hok : (laidA x).2 = 0) (hn : x.n ≤ 20) (hs : x.text.size ≤ 200) (ht : t.length ≤ 1000000)
    (hap : ∀ g off, x.a = some ⟨g, off, none⟩ → 0 < x.n → g ≠ q) : Calls Try.prog 35 #[.pointer (some ⟨q, 0, none⟩), x.val] w (ReadRes w q t) := by
  by_cases h0 : x.what = 0
  · exact read_0 q x t w h hi hok hn ht hap h0
  by_cases h1 : x.what = 1
  · exact read_1 q x t w h hs ht h1
  exact read_2 q x t w h ⟨h0, h1⟩
end Go.Proofs.Ytnecoapbpicloaa
