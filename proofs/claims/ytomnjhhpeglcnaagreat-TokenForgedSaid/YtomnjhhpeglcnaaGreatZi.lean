/- Contracts: a number's bytes. Contracts: a writer. Contracts: a writer, call by call. Contracts: a writer, the rest. -/
import Derived.Test.YtomnjhhpeglcnaaGreatZh
import Derived.Laws.BitsAllLaws
namespace Go.Proofs.YtomnjhhpeglcnaaGreat
open Go.RowKit
set_option linter.unusedSimpArgs false
set_option linter.unusedVariables false
set_option maxRecDepth 100000

theorem by_low (m : Nat) (h : m < 128) : ((BitVec.ofNat 8 m : By).toNat : Int) = (m : Int) := by
  simp; omega
theorem by_high (m : Nat) : ((BitVec.ofNat 8 (m % 128 + 128) : By).toNat : Int) = (m : Int) % 128 + 128 := by
  simp; omega
theorem or_high (m : Nat) : bits .or .u8 ((m : Int) % 256) 128 = ((BitVec.ofNat 8 (m % 128 + 128) : By).toNat : Int) := by
  rw [by_high]
  have h : ((m % 256 : Nat) : Int) = (m : Int) % 256 := by omega
  have h2 : ∀ k, k < 256 → k ||| 128 = k % 128 + 128 := by decide
  rw [← h, show (128 : Int) = ((128 : Nat) : Int) from rfl, u8_or_nat _ _ (by omega) (by omega), h2 _ (by omega)]
  omega
/-- What is left of the bytes of n is those of m. -/
theorem num_pre {n m : Nat} {pre : List By} (h : pre ++ numB m = numB n) (hm : ¬ m < 128) : (pre ++ [BitVec.ofNat 8 (m % 128 + 128)]) ++ numB (m / 128) = numB n := by
  rw [← h, numB_ge hm, List.append_assoc]; rfl
theorem num_len {n m : Nat} {pre : List By} (h : pre ++ numB m = numB n) (hn : n ≤ 4611686018427387904) : pre.length + 1 ≤ 9 := by
  have h1 := congrArg List.length h
  have h2 := numB_nine hn
  have h3 := numB_pos m
  rw [List.length_append] at h1
  omega

set_option maxHeartbeats 2000000 in
theorem number_c (n : Nat) (v : Value) (l : List By) (base : Nat) (w : World) (ho : OwnB w base v l) (hl : l.length ≤ 1000000000) (hn : n ≤ 4611686018427387904) (hb : base ≤ w.heap.size) :
    Calls Tryz.prog 77 #[v, .int .i64 (n : Int)] w fun e w' => ∃ v', e = .returned v' ∧ OwnB w' base v' (l ++ numB n) ∧ Tch (fun i => v.ownBlock = some i) w w' ∧ Mv w v v' := by
  have HO := Lib.hid ho
  clear ho
  go_enter Tryz.func77, Tryz.ntmps77
  go_wp2
  go_loopw [0, 1] (fun bv nv wr => ∃ (m : Nat) (pre : List By) (v1 : Value), v1 = bv ∧ nv = .int .i64 (m : Int) ∧ m ≤ n ∧ pre ++ numB m = numB n ∧ OwnB wr base v1 (l ++ pre) ∧ Tch (fun i => v.ownBlock = some i) w wr ∧ Mv w v v1) (fun _ nv _ => (intOf nv).toNat)
  case atStart => exact ⟨n, [], v, rfl, rfl, Nat.le_refl _, rfl, by simpa using HO.out, Tch.refl _ _, Mv.refl _ _⟩
  case round =>
    obtain ⟨m, pre, v1, rfl, rfl, hmn, hpre, hown, ht, hm⟩ := hrel
    have HP := Lib.hid hpre; have HW := Lib.hid hown; have HT := Lib.hid ht; have HM := Lib.hid hm
    have hpl := num_len hpre hn
    have hz := ht.size
    clear hpre hown ht hm
    by_cases hlt : m < 128
    · have h1 : ¬ (128 ≤ (m : Int)) := by omega
      go_wp2_with (at_builtin; refine wpl_append_bysM rfl _ _ rfl base _ _ rfl (HW.out.below ((Below.refl _ _).alloc (Nat.le_refl _) _)) _ 1 _ [BitVec.ofNat 8 m] rfl (Bys.lit _ ?c0 rfl) ?c1 ?c2 ?_)
      case c0 => simp [bl]; omega
      case c1 => first | omega | (rw [List.length_append]; omega)
      case c2 => first | omega | (simp; omega)
      intro v2 w2 ho2 ht2 hm2 hn2
      have HW2 : Hid (OwnB w2 base v2 (l ++ numB n)) := Lib.hid (by rw [← HP.out, numB_lt hlt, ← List.append_assoc]; simpa using ho2)
      have ht3 : Tch (fun i => v1.ownBlock = some i) wr w2 := ((Tch.refl _ _).alloc _).trans ht2 (fun _ _ e => e)
      have hm3 : Mv wr v1 v2 := (Mv.refl _ _).trans hm2 (by simp)
      have HT2 := Lib.hid (HM.out.only HT.out ht3)
      have HM2 := Lib.hid (HM.out.trans hm3 hz)
      clear ho2 ht2 hm2 hn2 ht3 hm3
      go_wp2_with fail
      go_ret
      exact ⟨v2, rfl, HW2.out, HT2.out, HM2.out⟩
    · have h1 : (128 ≤ (m : Int)) := by omega
      have hor := or_high m
      go_wp2_with (at_builtin; refine wpl_append_bysM rfl _ _ rfl base _ _ rfl (HW.out.below ((Below.refl _ _).alloc (Nat.le_refl _) _)) _ 1 _ [BitVec.ofNat 8 (m % 128 + 128)] rfl (Bys.lit _ ?c0 rfl) ?c1 ?c2 ?_)
      case c0 => simp [bl, hor]
      case c1 => first | omega | (rw [List.length_append]; omega)
      case c2 => first | omega | (simp; omega)
      intro v2 w2 ho2 ht2 hm2 hn2
      have HW2 : Hid (OwnB w2 base v2 (l ++ (pre ++ [BitVec.ofNat 8 (m % 128 + 128)]))) := Lib.hid (by simpa using ho2)
      have ht3 : Tch (fun i => v1.ownBlock = some i) wr w2 := ((Tch.refl _ _).alloc _).trans ht2 (fun _ _ e => e)
      have hm3 : Mv wr v1 v2 := (Mv.refl _ _).trans hm2 (by simp)
      have HT2 := Lib.hid (HM.out.only HT.out ht3)
      have HM2 := Lib.hid (HM.out.trans hm3 hz)
      clear ho2 ht2 hm2 hn2 ht3 hm3 hor
      go_wp2_with fail
      go_roundw
      case rel => exact ⟨m / 128, _, v2, rfl, by go_num, by omega, num_pre HP.out hlt, HW2.out, HT2.out, HM2.out⟩
      case measure => simp [intOf]; omega

set_option maxHeartbeats 2000000 in
theorem rnumber_c (n : Nat) (w : World) (hn : n ≤ 4611686018427387904) :
    Calls Tryz.prog 65 #[.int .i64 (n : Int)] w fun e w' => ∃ v', e = .returned v' ∧ OwnB w' w.heap.size v' (numB n) ∧ Below w.heap.size w w' := by
  go_enter Tryz.func65, Tryz.ntmps65
  go_wp2
  go_loopw [0, 3] (fun nv bv wr => ∃ (m : Nat) (pre : List By) (v1 : Value), v1 = bv ∧ nv = .int .i64 (m : Int) ∧ m ≤ n ∧ pre ++ numB m = numB n ∧ OwnB wr w.heap.size v1 pre ∧ Below w.heap.size w wr) (fun nv _ _ => (intOf nv).toNat)
  case atStart => exact ⟨n, [], _, rfl, rfl, Nat.le_refl _, rfl, World.ownsRow_nil _ _ _ _, Below.refl _ _⟩
  case round =>
    obtain ⟨m, pre, v1, rfl, rfl, hmn, hpre, hown, hb⟩ := hrel
    have HP := Lib.hid hpre; have HW := Lib.hid hown; have HB := Lib.hid hb
    have hpl := num_len hpre hn
    have hz := hb.size
    clear hpre hown hb
    by_cases hlt : m < 128
    · have h1 : ¬ (128 ≤ (m : Int)) := by omega
      go_wp2_with (at_builtin; refine wpl_append_bys rfl _ _ rfl w.heap.size _ _ rfl (HW.out.below ((Below.refl _ _).alloc (Nat.le_refl _) _)) _ 1 _ [BitVec.ofNat 8 m] rfl (Bys.lit _ ?c0 rfl) ?c1 ?c2 ?_)
      case c0 => simp [bl]; omega
      case c1 => first | omega | (rw [List.length_append]; omega)
      case c2 => first | omega | (simp; omega)
      intro v2 w2 ho2 hg2 _
      have HB2 := Lib.hid ((HB.out.alloc hz _).trans (own_grown (HW.out.below ((Below.refl _ _).alloc (Nat.le_refl _) _)) hg2 (Nat.le_refl _) (by simp; omega)))
      have HW2 : Hid (OwnB w2 w.heap.size v2 (numB n)) := Lib.hid (by rw [← HP.out, numB_lt hlt]; exact ho2)
      clear ho2 hg2
      go_wp2_with fail
      go_ret
      exact ⟨v2, rfl, HW2.out, HB2.out⟩
    · have h1 : (128 ≤ (m : Int)) := by omega
      have hor := by_high m
      have hor2 : 128 + (m : Int) % 128 = (m : Int) % 128 + 128 := by omega
      have hor3 : ((m : Int) % 128 + 128) % 256 = (m : Int) % 128 + 128 := by omega
      go_wp2_with (at_builtin; refine wpl_append_bys rfl _ _ rfl w.heap.size _ _ rfl (HW.out.below ((Below.refl _ _).alloc (Nat.le_refl _) _)) _ 1 _ [BitVec.ofNat 8 (m % 128 + 128)] rfl (Bys.lit _ ?c0 rfl) ?c1 ?c2 ?_)
      case c0 => simp [bl]; omega
      case c1 => first | omega | (rw [List.length_append]; omega)
      case c2 => first | omega | (simp; omega)
      intro v2 w2 ho2 hg2 _
      have HB2 := Lib.hid ((HB.out.alloc hz _).trans (own_grown (HW.out.below ((Below.refl _ _).alloc (Nat.le_refl _) _)) hg2 (Nat.le_refl _) (by simp; omega)))
      have HW2 := Lib.hid ho2
      clear ho2 hg2 hor hor2 hor3
      go_wp2_with fail
      go_roundw
      case rel => exact ⟨m / 128, _, v2, rfl, by go_num, by omega, num_pre HP.out hlt, HW2.out, HB2.out⟩
      case measure => simp [intOf]; omega
end Go.Proofs.YtomnjhhpeglcnaaGreat

namespace Go.Proofs.YtomnjhhpeglcnaaGreat
open Go.RowKit
set_option linter.unusedSimpArgs false
set_option linter.unusedVariables false
set_option maxRecDepth 100000

theorem in_c (n a b : Int) (w : World) : Calls Tryz.prog 76 #[.int .i64 n, .int .i64 a, .int .i64 b] w fun e w' => e = .returned (.bool (decide (a ≤ n ∧ n ≤ b))) ∧ w = w' := by
  by_cases h1 : a ≤ n
  · by_cases h2 : n ≤ b
    · go_enter Tryz.func76, Tryz.ntmps76
      go_wp2
      go_ret
      exact ⟨by simp [h1, h2], rfl⟩
    · have h2' : decide (n ≤ b) = false := decide_eq_false h2
      go_enter Tryz.func76, Tryz.ntmps76
      go_wp2
      go_ret
      exact ⟨by simp [h1, h2], rfl⟩
  · have h1' : decide (a ≤ n) = false := decide_eq_false h1
    go_enter Tryz.func76, Tryz.ntmps76
    go_wp2
    go_ret
    exact ⟨by simp [h1], rfl⟩

/-- May a number be laid? -/
def numOk (n : Int) : Bool := decide (0 ≤ n ∧ n ≤ 4611686018427387904)
def okN (zs : List Int) : Bool := zs.all numOk
def laidN (zs : List Int) : List By := (zs.map fun n => numB n.toNat).flatten
theorem outside_c (n : Int) (w : World) : Calls Tryz.prog 75 #[.int .i64 n] w fun e w' => e = .returned (.bool (!numOk n)) ∧ w = w' := by
  go_enter Tryz.func75, Tryz.ntmps75
  go_wp2_with fail
  refine (in_c n 0 4611686018427387904 _).mono ?_
  rintro e w' ⟨rfl, rfl⟩
  have e1 : decide (0 ≤ n ∧ n ≤ 4611686018427387904) = numOk n := rfl
  rw [e1]
  clear e1
  go_wp2_with fail
  go_ret
  exact ⟨rfl, rfl⟩

/-- A slice of int64 in memory reads as these. -/
def I64s (w : World) (a : Option Addr) (n : Nat) (zs : List Int) : Prop :=
  zs.length = n ∧ ∀ (i : Nat) (x : Int), zs[i]? = some x → ∃ g off, a = some ⟨g, off, none⟩ ∧ g < w.heap.size ∧ w.cell? ⟨g, off + i, none⟩ = some (.int .i64 x)
theorem I64s.below {w w' : World} {a : Option Addr} {n : Nat} {zs : List Int} (h : I64s w a n zs) (hb : Below w.heap.size w w') : I64s w' a n zs := by
  refine ⟨h.1, fun i c hi => ?_⟩
  obtain ⟨g, off, e, hg, hc⟩ := h.2 i c hi
  exact ⟨g, off, e, Nat.lt_of_lt_of_le hg hb.size, (hb.cell (p := ⟨g, off + i, none⟩) hg).trans hc⟩
theorem I64s.tch {S : Nat → Prop} {w w' : World} {a : Option Addr} {n : Nat} {zs : List Int} (h : I64s w a n zs) (ht : Tch S w w') (hv : ∀ g off, a = some ⟨g, off, none⟩ → 0 < n → ¬ S g) : I64s w' a n zs := by
  refine ⟨h.1, fun i c hi => ?_⟩
  obtain ⟨g, off, e, hg, hc⟩ := h.2 i c hi
  have hn : 0 < n := by have := (List.getElem?_eq_some_iff.1 hi).1; rw [← h.1]; omega
  exact ⟨g, off, e, Nat.lt_of_lt_of_le hg ht.size, (World.cell?_of_block (a := ⟨g, off + i, none⟩) (ht.block g hg (hv g off e hn))).trans hc⟩
theorem I64s.lit {W : World} {cs : Array Value} {zs : List Int} {n : Nat} (t : TypeId) (h : cs.toList = zs.map (Value.int .i64)) (hn : zs.length = n) : I64s (W.alloc (.cells cs t)) (some ⟨W.heap.size, 0, none⟩) n zs := by
  refine ⟨hn, fun i c hi => ⟨W.heap.size, 0, rfl, by simp, ?_⟩⟩
  rw [Nat.zero_add]
  refine blk0 ?_
  rw [← Array.getElem?_toList, h]
  simp [hi]

set_option maxHeartbeats 1000000 in
theorem index_c (a : Option Addr) (n c : Nat) (zs : List Int) (w : World) (h : I64s w a n zs) (hn : n ≤ 1000000) :
    Calls Tryz.prog 83 #[.slice a n c, .func (.func 75) #[] #[]] w fun e w' => (∃ k : Int, e = .returned (.int .i64 k) ∧ (decide (0 ≤ k) = !okN zs)) ∧ w = w' := by
  have H := Lib.hid h; clear h
  go_enter Tryz.func83, Tryz.ntmps83
  go_wp2
  go_loop [8] (fun i => ∃ k : Nat, k ≤ n ∧ i = .int .i64 k ∧ okN (zs.take k) = true) (fun i => n - (intOf i).toNat)
  case atStart => exact ⟨0, Nat.zero_le _, rfl, rfl⟩
  case round =>
    obtain ⟨k, hk, rfl, ho⟩ := hrel
    have HO := Lib.hid ho; clear ho
    by_cases hlt : k < n
    · obtain ⟨x, hx⟩ : ∃ x, zs[k]? = some x := ⟨zs[k]'(by rw [H.out.1]; exact hlt), List.getElem?_eq_getElem _⟩
      obtain ⟨g, off, rfl, hg, hc⟩ := H.out.2 k x hx
      have HX := Lib.hid hx; clear hx
      go_wp2_with fail
      refine (outside_c x _).mono ?_
      rintro e w' ⟨rfl, rfl⟩
      cases hok : numOk x
      · have HK := Lib.hid hok; clear hok
        go_wp2_with fail
        go_ret
        refine ⟨⟨_, rfl, ?_⟩, rfl⟩
        have : okN zs = false := by
          unfold okN
          rw [List.all_eq_false]
          exact ⟨x, List.mem_of_getElem? HX.out, by rw [HK.out]; simp⟩
        rw [this]
        simp
      · have HK := Lib.hid hok; clear hok
        go_wp2_with fail
        go_round
        case rel =>
          refine ⟨k + 1, by omega, by go_num, ?_⟩
          unfold okN
          rw [List.take_add_one, HX.out, List.all_append]
          have h1 := HO.out
          unfold okN at h1
          rw [h1]
          simp [HK.out]
        case measure => simp [intOf]; omega
    · obtain rfl : k = n := by omega
      go_wp2_with fail
      go_ret
      refine ⟨⟨_, rfl, ?_⟩, rfl⟩
      have h1 := HO.out
      rw [List.take_of_length_le (by rw [H.out.1]; exact Nat.le_refl _)] at h1
      rw [h1]
      simp
theorem contains_c (a : Option Addr) (n c : Nat) (zs : List Int) (w : World) (h : I64s w a n zs) (hn : n ≤ 1000000) :
    Calls Tryz.prog 74 #[.slice a n c, .func (.func 75) #[] #[]] w fun e w' => e = .returned (.bool (!okN zs)) ∧ w = w' := by
  go_enter Tryz.func74, Tryz.ntmps74
  go_wp2_with fail
  refine (index_c a n c zs _ h hn).mono ?_
  rintro e w' ⟨⟨k, rfl, hk⟩, rfl⟩
  have HK := Lib.hid hk; clear hk
  go_wp2_with fail
  go_ret
  exact ⟨by rw [← HK.out]; rfl, rfl⟩
end Go.Proofs.YtomnjhhpeglcnaaGreat

namespace Go.Proofs.YtomnjhhpeglcnaaGreat
open Go.RowKit
set_option linter.unusedSimpArgs false
set_option linter.unusedVariables false
set_option maxRecDepth 100000

/-- The writer at block p holds these bytes, in the row v. -/
def IsWr (w : World) (p : Nat) (v : Value) (l : List By) : Prop := Blk w p 125 #[v, .bool true] ∧ OwnB w (p + 1) v l
/-- What a writer's call touches. -/
def WS (p : Nat) (v : Value) (i : Nat) : Prop := i = p ∨ v.ownBlock = some i
theorem IsWr.lt {w : World} {p : Nat} {v : Value} {l : List By} (h : IsWr w p v l) : p < w.heap.size := h.1.lt
theorem IsWr.below {w w' : World} {p : Nat} {v : Value} {l : List By} (h : IsWr w p v l) (hb : Below w.heap.size w w') : IsWr w' p v l := ⟨h.1.below hb h.lt, h.2.below hb⟩
theorem IsWr.tch {S : Nat → Prop} {w w' : World} {p : Nat} {v : Value} {l : List By} (h : IsWr w p v l) (ht : Tch S w w') (hp : ¬ S p) (hv : ∀ i, v.ownBlock = some i → ¬ S i) : IsWr w' p v l := ⟨ht.blk h.1 hp, ht.own h.2 hv⟩
theorem IsWr.c0 {w : World} {p : Nat} {v : Value} {l : List By} (h : IsWr w p v l) : w.cell? ⟨p, 0, none⟩ = some v := h.1.cell rfl
theorem IsWr.c1 {w : World} {p : Nat} {v : Value} {l : List By} (h : IsWr w p v l) : w.cell? ⟨p, 1, none⟩ = some (.bool true) := h.1.cell rfl
theorem IsWr.form {w : World} {p : Nat} {v : Value} {l : List By} (h : IsWr w p v l) : ∃ a n c, v = .slice a n c := by
  obtain ⟨a, c, e, _, _⟩ := h.2.bys
  exact ⟨a, _, c, e⟩
/-- The row is put back into the writer. -/
theorem IsWr.put {w w1 : World} {p : Nat} {v v1 : Value} {l l1 : List By} (h : IsWr w p v l) (ht : Tch (fun i => v.ownBlock = some i) w w1) (ho : OwnB w1 (p + 1) v1 l1) : IsWr (w1.setCell ⟨p, 0, none⟩ v1) p v1 l1 ∧ Tch (WS p v) w (w1.setCell ⟨p, 0, none⟩ v1) := by
  have hb : Blk w1 p 125 #[v, .bool true] := ht.blk h.1 (fun e => by have := (own_lt h.2 p e).1; omega)
  refine ⟨⟨hb.set 0 v1, ?_⟩, (ht.mono (fun i _ e => .inr e)).setCell (.inl (.inl rfl)) _⟩
  exact ((Tch.refl (fun i => i = p) w1).setCell (.inl rfl) v1).own ho (fun i e ei => by have := (own_lt ho i e).1; omega)

/-- No writer. -/
def NoWr (w : World) (v : Option Addr) : Prop := v = none ∨ ∃ g, v = some ⟨g, 0, none⟩ ∧ w.cell? ⟨g, 1, none⟩ = some (.bool false)
theorem NoWr.below {w w' : World} {v : Option Addr} (h : NoWr w v) (hb : Below w.heap.size w w') : NoWr w' v := by
  rcases h with h | ⟨b, rfl, h⟩
  · exact .inl h
  · exact .inr ⟨b, rfl, (hb.cell (p := ⟨b, 1, none⟩) (cell_lt h)).trans h⟩

theorem num_c (n : Int) (w : World) : Calls Tryz.prog 12 #[.int .i64 n] w fun e w' => e = .returned (.int .i64 n) ∧ w = w' := by
  go_enter Tryz.func12, Tryz.ntmps12
  go_wp2
  go_ret
  exact ⟨rfl, rfl⟩
theorem wnew_c (w : World) : Calls Tryz.prog 55 #[] w fun e w' => e = .returned (.pointer (some ⟨w.heap.size, 0, none⟩)) ∧ IsWr w' w.heap.size (.slice none 0 0) [] ∧ Below w.heap.size w w' := by
  go_enter Tryz.func55, Tryz.ntmps55
  go_wp2
  go_ret
  exact ⟨rfl, ⟨Blk.new _ _ _, World.ownsRow_nil _ _ _ _⟩, (Below.refl _ _).alloc (Nat.le_refl _) _⟩
theorem wnone_no (p : Nat) (v : Value) (l : List By) (w : World) (h : IsWr w p v l) : Calls Tryz.prog 73 #[.pointer (some ⟨p, 0, none⟩)] w fun e w' => e = .returned (.bool false) ∧ w = w' := by
  have c1 := h.c1
  go_enter Tryz.func73, Tryz.ntmps73
  go_wp2
  go_ret
  exact ⟨rfl, rfl⟩
theorem wnone_yes (v : Option Addr) (w : World) (h : NoWr w v) : Calls Tryz.prog 73 #[.pointer v] w fun e w' => e = .returned (.bool true) ∧ w = w' := by
  rcases h with rfl | ⟨g, rfl, c1⟩
  · go_enter Tryz.func73, Tryz.ntmps73
    go_wp2
    go_ret
    exact ⟨rfl, rfl⟩
  · go_enter Tryz.func73, Tryz.ntmps73
    go_wp2
    go_ret
    exact ⟨rfl, rfl⟩

/-! ### Number -/
theorem laidN_snoc {zs : List Int} {k : Nat} {x : Int} (h : zs[k]? = some x) : laidN (zs.take (k + 1)) = laidN (zs.take k) ++ numB x.toNat := by
  unfold laidN
  rw [List.take_add_one, h]
  simp
theorem laidN_len {zs : List Int} (h : okN zs = true) : (laidN zs).length ≤ 9 * zs.length := by
  induction zs with
  | nil => simp [laidN]
  | cons x t ih =>
    unfold okN at h
    rw [List.all_cons, Bool.and_eq_true] at h
    have h1 : 0 ≤ x ∧ x ≤ 4611686018427387904 := of_decide_eq_true h.1
    have h2 : (numB x.toNat).length ≤ 9 := numB_nine (by omega)
    have h3 := ih h.2
    have e : laidN (x :: t) = numB x.toNat ++ laidN t := by simp [laidN]
    rw [e, List.length_append, List.length_cons]
    omega
theorem okN_take {zs : List Int} (h : okN zs = true) (k : Nat) : okN (zs.take k) = true := by
  unfold okN at h ⊢
  rw [List.all_eq_true] at h ⊢
  exact fun x hx => h x (List.mem_of_mem_take hx)
theorem okN_at {zs : List Int} (h : okN zs = true) {k : Nat} {x : Int} (hx : zs[k]? = some x) : 0 ≤ x ∧ x ≤ 4611686018427387904 := by
  unfold okN at h
  rw [List.all_eq_true] at h
  exact of_decide_eq_true (h x (List.mem_of_getElem? hx))

/-- What a writer's call leaves. -/
def WrRes (w : World) (p : Nat) (v : Value) (l : List By) (e : Ending) (w' : World) : Prop := e = .returned (.int .i64 0) ∧ ∃ v', IsWr w' p v' l ∧ Tch (WS p v) w w' ∧ Mv w v v'

set_option maxHeartbeats 2000000 in
theorem wnumber_c (p : Nat) (v : Value) (l : List By) (a : Option Addr) (n c : Nat) (zs : List Int) (w : World) (h : IsWr w p v l) (hi : I64s w a n zs) (hn : n ≤ 1000000) (hl : l.length ≤ 100000000)
    (hap : ∀ g off, a = some ⟨g, off, none⟩ → 0 < n → ¬ WS p v g) (ho : okN zs = true) :
    Calls Tryz.prog 56 #[.pointer (some ⟨p, 0, none⟩), .slice a n c] w (WrRes w p v (l ++ laidN zs)) := by
  have H := Lib.hid h; have HI := Lib.hid hi; have HAP := Lib.hid hap; have HO := Lib.hid ho
  clear h hi hap ho
  go_enter Tryz.func56, Tryz.ntmps56
  go_wp2_with fail
  refine (wnone_no p v l _ H.out).mono ?_
  rintro e w' ⟨rfl, rfl⟩
  go_wp2_with fail
  refine (contains_c a n c zs _ HI.out hn).mono ?_
  rintro e w' ⟨rfl, rfl⟩
  rw [HO.out]
  go_wp2_with fail
  go_loopw [15] (fun i wr => ∃ (k : Nat) (v1 : Value), k ≤ n ∧ i = .int .i64 k ∧ IsWr wr p v1 (l ++ laidN (zs.take k)) ∧ Tch (WS p v) w wr ∧ Mv w v v1) (fun i _ => n - (intOf i).toNat)
  case atStart => exact ⟨0, v, Nat.zero_le _, rfl, by simpa [laidN] using H.out, Tch.refl _ _, Mv.refl _ _⟩
  case round =>
    obtain ⟨k, v1, hk, rfl, hw, ht, hm⟩ := hrel
    have HW := Lib.hid hw; have HT := Lib.hid ht; have HM := Lib.hid hm
    have hpr := hw.lt
    have hz := ht.size
    clear hw ht hm
    by_cases hlt : k < n
    · obtain ⟨x, hx⟩ : ∃ x, zs[k]? = some x := ⟨zs[k]'(by rw [HI.out.1]; exact hlt), List.getElem?_eq_getElem _⟩
      have hxb := okN_at HO.out hx
      obtain ⟨m, rfl⟩ : ∃ m : Nat, x = (m : Int) := ⟨x.toNat, by omega⟩
      have hll : (l ++ laidN (zs.take k)).length ≤ 1000000000 := by
        have := laidN_len (okN_take HO.out k)
        rw [List.length_take] at this
        rw [List.length_append]
        omega
      obtain ⟨g, off, rfl, hg, hc⟩ := (HI.out.tch HT.out HAP.out).2 k _ hx
      have hs := laidN_snoc hx
      have HS : Hid ((l ++ laidN (zs.take k)) ++ numB m = l ++ laidN (zs.take (k + 1))) := Lib.hid (by rw [hs, List.append_assoc]; rfl)
      clear hs hx
      have c0 := HW.out.c0
      have f0 := HW.out.1.frozen 0
      go_wp2_with fail
      refine (number_c m v1 _ (p + 1) _ HW.out.2 hll (by omega) (by omega)).mono ?_
      rintro e w2 ⟨v2, rfl, ho2, ht2, hm2⟩
      rw [HS.out] at ho2
      obtain ⟨hi2, hk2⟩ := HW.out.put ht2 ho2
      obtain ⟨a2, n2, c2, rfl⟩ := hi2.form
      have c3 := (hi2.c0)
      have HB2 : Hid (Blk w2 p 125 #[v1, .bool true]) := Lib.hid (ht2.blk HW.out.1 (fun e => by have := (own_lt HW.out.2 p e).1; omega))
      have c5 := HB2.out.cell (i := 0) rfl
      have f5 := HB2.out.frozen 0
      have HI2 := Lib.hid hi2
      have HT2 : Hid (Tch (WS p v) w (w2.setCell ⟨p, 0, none⟩ (.slice a2 n2 c2))) := Lib.hid (HT.out.trans hk2 (fun i hi e => by
        rcases e with e | e
        · exact .inl e
        · rcases HM.out with m | ⟨y, m, hy⟩
          · exact .inr (by rw [← m]; exact e)
          · rw [m] at e; injection e with e; omega))
      have HM2 := Lib.hid (HM.out.trans hm2 hz)
      clear ho2 ht2 hm2 hi2 hk2 c3 c0 f0 hc
      go_wp2_with fail
      go_roundw
      case rel => exact ⟨k + 1, _, by omega, by go_num, HI2.out, HT2.out, HM2.out⟩
      case measure => simp [intOf]; omega
    · obtain rfl : k = n := by omega
      have e : Hid (zs.take k = zs) := Lib.hid (List.take_of_length_le (by rw [HI.out.1]; exact Nat.le_refl _))
      go_wp2_with fail
      go_ret
      refine ⟨rfl, v1, ?_, HT.out, HM.out⟩
      have := HW.out
      rw [e.out] at this
      exact this
end Go.Proofs.YtomnjhhpeglcnaaGreat

namespace Go.Proofs.YtomnjhhpeglcnaaGreat
open Go.RowKit
set_option linter.unusedSimpArgs false
set_option linter.unusedVariables false
set_option maxRecDepth 100000

theorem wnumber_bad (p : Nat) (v : Value) (l : List By) (a : Option Addr) (n c : Nat) (zs : List Int) (w : World) (h : IsWr w p v l) (hi : I64s w a n zs) (hn : n ≤ 1000000) (ho : okN zs = false) :
    Calls Tryz.prog 56 #[.pointer (some ⟨p, 0, none⟩), .slice a n c] w fun e w' => e = .returned (.int .i64 2) ∧ w = w' := by
  have H := Lib.hid h; have HI := Lib.hid hi; have HO := Lib.hid ho
  clear h hi ho
  go_enter Tryz.func56, Tryz.ntmps56
  go_wp2_with fail
  refine (wnone_no p v l _ H.out).mono ?_
  rintro e w' ⟨rfl, rfl⟩
  go_wp2_with fail
  refine (contains_c a n c zs _ HI.out hn).mono ?_
  rintro e w' ⟨rfl, rfl⟩
  rw [HO.out]
  go_wp2_with fail
  go_ret
  exact ⟨rfl, rfl⟩
theorem wnumber_none (v : Option Addr) (a : Option Addr) (n c : Nat) (w : World) (h : NoWr w v) :
    Calls Tryz.prog 56 #[.pointer v, .slice a n c] w fun e w' => e = .returned (.int .i64 1) ∧ w = w' := by
  go_enter Tryz.func56, Tryz.ntmps56
  go_wp2_with fail
  refine (wnone_yes v _ h).mono ?_
  rintro e w' ⟨rfl, rfl⟩
  go_wp2_with fail
  go_ret
  exact ⟨rfl, rfl⟩

/-! ### Text -/
def textB (l : List By) : List By := numB l.length ++ l
/-! ### Truth -/
def truthB (b : Bool) : List By := [if b then 1 else 0]
theorem truth_num (b : Bool) : numB (if b then 1 else 0) = truthB b := by cases b <;> rw [numB_lt (by decide)] <;> rfl
/-! ### All -/
set_option maxHeartbeats 1000000 in
theorem wall_c (p : Nat) (v : Value) (l : List By) (w : World) (h : IsWr w p v l) (hl : l.length ≤ 1000000000) :
    Calls Tryz.prog 59 #[.pointer (some ⟨p, 0, none⟩)] w fun e w' => ∃ r, e = .returned r ∧ OwnB w' w.heap.size r l ∧ Below w.heap.size w w' := by
  have H := Lib.hid h
  clear h
  have c0 := H.out.c0
  obtain ⟨a, c, hv, hc, hy⟩ := H.out.2.bys
  have HY := Lib.hid hy; clear hy
  subst hv
  go_enter Tryz.func59, Tryz.ntmps59
  go_wp2_with fail
  refine (wnone_no p _ l _ H.out).mono ?_
  rintro e w' ⟨rfl, rfl⟩
  go_wp2_with fail
  refine (clone_c a _ c l _ HY.out hl).mono ?_
  rintro e w2 ⟨r, rfl, ho, hb⟩
  have HO := Lib.hid ho; have HB := Lib.hid hb
  clear ho hb
  go_wp2_with fail
  go_ret
  exact ⟨r, rfl, HO.out, HB.out⟩
theorem wall_none (v : Option Addr) (w : World) (h : NoWr w v) :
    Calls Tryz.prog 59 #[.pointer v] w fun e w' => e = .returned (.slice none 0 0) ∧ w = w' := by
  go_enter Tryz.func59, Tryz.ntmps59
  go_wp2_with fail
  refine (wnone_yes v _ h).mono ?_
  rintro e w' ⟨rfl, rfl⟩
  go_wp2_with fail
  go_ret
  exact ⟨rfl, rfl⟩
end Go.Proofs.YtomnjhhpeglcnaaGreat
