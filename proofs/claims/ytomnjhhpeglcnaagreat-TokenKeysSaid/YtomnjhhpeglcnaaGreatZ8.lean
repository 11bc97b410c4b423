/- Rows of strings. Contracts: the document's keys. -/
import Derived.Test.YtomnjhhpeglcnaaGreatZ5
namespace Go.Proofs.YtomnjhhpeglcnaaGreat
open Go.RowKit
set_option linter.unusedSimpArgs false
set_option linter.unusedVariables false
set_option maxRecDepth 100000

def sl (l : List ByteArray) : List Value := l.map Value.string
theorem sl_len (l : List ByteArray) : (sl l).length = l.length := by simp [sl]
theorem sl_one (l : List ByteArray) : ∀ u ∈ sl l, u.oneCell' = true := by
  intro u hu
  obtain ⟨c, _, rfl⟩ := List.mem_map.1 hu
  rfl
/-- A slice of strings of the call's own. -/
def OwnS (w : World) (base : Nat) (v : Value) (l : List ByteArray) : Prop := w.ownsRow base 9 1 v l.length (sl l)
theorem OwnS.strs {w : World} {base : Nat} {v : Value} {l : List ByteArray} (h : OwnS w base v l) : ∃ a c, v = .slice a l.length c ∧ l.length ≤ c ∧ Strs w a l.length l ∧ ∀ g off, a = some ⟨g, off, none⟩ → base ≤ g := by
  have hh := h
  obtain ⟨_, h2⟩ := h
  rcases h2 with ⟨rfl, h2⟩ | ⟨g, cap, cur, rfl, hg, hb, hc, _⟩
  · refine ⟨none, 0, by rw [h2], by omega, ⟨rfl, fun i c hi => ?_⟩, fun g off e => by cases e⟩
    have := (List.getElem?_eq_some_iff.1 hi).1
    omega
  · refine ⟨_, _, rfl, hc, ⟨rfl, fun i c hi => ⟨g, 0, rfl, (Array.getElem?_eq_some_iff.1 hb).1, ?_⟩⟩, fun g' off e => by injection e with e; injection e with e1; omega⟩
    have := World.ownsRow.cells hh (g := g) rfl i (.string c) (by simp [sl, hi])
    rw [add_plain] at this
    exact this
theorem OwnS.below {w w' : World} {base : Nat} {v : Value} {l : List ByteArray} (h : OwnS w base v l) (hb : Below w.heap.size w w') : OwnS w' base v l := by
  obtain ⟨h1, h2⟩ := h
  refine ⟨h1, ?_⟩
  rcases h2 with h2 | ⟨g, cap, cur, hv, hg, hh, r⟩
  · exact .inl h2
  · exact .inr ⟨g, cap, cur, hv, hg, (hb.block g (Array.getElem?_eq_some_iff.1 hh).1).trans hh, r⟩
theorem Strs.cells {w : World} {a : Option Addr} {n : Nat} {l : List ByteArray} (h : Strs w a n l) (hn : 0 < n) : ∃ g off, a = some ⟨g, off, none⟩ ∧ g < w.heap.size ∧ ∀ i c, l[i]? = some c → w.cell? ⟨g, off + i, none⟩ = some (.string c) := by
  obtain ⟨c, hc⟩ : ∃ c, l[0]? = some c := ⟨l[0]'(by rw [h.1]; exact hn), List.getElem?_eq_getElem _⟩
  obtain ⟨g, off, e, hg, _⟩ := h.2 0 c hc
  refine ⟨g, off, e, hg, fun i c hi => ?_⟩
  obtain ⟨g', off', e', _, hc'⟩ := h.2 i c hi
  rw [e] at e'
  injection e' with e'
  injection e' with e1 e2
  subst e1; subst e2
  exact hc'
theorem info9 : (Tryz.prog.info? 9).map (fun i => (i.zero, i.size, i.bytes)) = some (some (.string ⟨#[]⟩), 1, 16) := by kernel_rfl
theorem run_append_nilS (w : World) (base : Nat) (v : Value) (l : List ByteArray) (hown : OwnS w base v l) (ty : TypeId) (c : Nat) : (Builtin.append_ #[22, 22] ty #[v, .slice none 0 c]).run Tryz.prog w = .ok v w := by
  obtain ⟨i0, hi, hz0, hz1, hz2⟩ := info_parts info9
  rcases hown.2 with ⟨rfl, _⟩ | ⟨g, cap, cur, rfl, _, _, hnc, _⟩
  · simp [Builtin.append_, run_underlying Tryz.underlying22, sizeOf, typeInfo, hi, Builtin.lenOf, Builtin.firstCells]
  · simp [Builtin.append_, run_underlying Tryz.underlying22, sizeOf, typeInfo, hi, Builtin.lenOf, Builtin.firstCells, hnc, storeCells]
theorem run_append_strs (w : World) (base : Nat) (v : Value) (l : List ByteArray) (hown : OwnS w base v l) (ty : TypeId) (A : Option Addr) (m c : Nat) (news : List ByteArray) (hr : Strs w A m news)
    (hsz : l.length + m ≤ 1000000000) (hbase : base ≤ w.heap.size) :
    ∃ v' w', (Builtin.append_ #[22, 22] ty #[v, .slice A m c]).run Tryz.prog w = .ok v' w' ∧ OwnS w' base v' (l ++ news) ∧ w.grownBy w' v.ownBlock := by
  obtain ⟨i0, hi, hz0, hz1, hz2⟩ := info_parts info9
  by_cases hA : ∃ ad, A = some ad
  · obtain ⟨ad, rfl⟩ := hA
    have hnews : ∀ (j : Nat) (u : Value), (sl news)[j]? = some u → w.cell? (ad.add j) = some u := by
      intro j u hu
      obtain ⟨c, hc, rfl⟩ : ∃ c, news[j]? = some c ∧ Value.string c = u := by
        simp only [sl, List.getElem?_map, Option.map_eq_some_iff] at hu
        exact hu
      obtain ⟨g, off, e, _, hcell⟩ := hr.2 j c hc
      injection e with e
      subst e
      rw [add_plain]; exact hcell
    obtain ⟨v', w', hrun, h2, h3, h4, _⟩ := run_append_own_at (P := Tryz.prog) w base 22 ty 9 i0 _ 1 16 Tryz.underlying22 hi hz0 hz1 hz2 rfl (by decide) v l.length (sl l) hown ad m c (sl news) (by rw [sl_len, hr.1]; omega) hnews (sl_one _) (by unfold maxLen; omega) (by omega) hbase
    refine ⟨v', w', hrun, ?_, h3⟩
    unfold OwnS
    rw [List.length_append, hr.1, show sl (l ++ news) = sl l ++ sl news by simp [sl]]
    exact h2
  · have hA' : A = none := by cases A with
      | none => rfl
      | some ad => exact absurd ⟨ad, rfl⟩ hA
    subst hA'
    have hm : m = 0 := by
      rcases Nat.eq_zero_or_pos m with h | h
      · exact h
      · obtain ⟨g, off, e, _⟩ := hr.cells h
        cases e
    subst hm
    have hn : news = [] := List.eq_nil_of_length_eq_zero hr.1
    subst hn
    exact ⟨v, w, run_append_nilS w base v l hown ty c, by simpa using hown, World.grownBy.refl w _⟩
theorem wpl_append_strs {ops : Array Oper} {rest : List Oper} {o : Oper} {a : Act} {w : World} {Q : Exit → Act → World → Prop} (hgd : o.guard = none) (s x : Operand)
    (ho : o.op = .call { callee := .builtin .append, args := #[s, x], argTypes := #[22, 22] })
    (base : Nat) (v : Value) (l : List ByteArray) (hs : a.eval s = v) (hown : OwnS w base v l) (A : Option Addr) (m c : Nat) (news : List ByteArray) (hx : a.eval x = .slice A m c) (hr : Strs w A m news)
    (hsz : l.length + m ≤ 1000000000) (hbase : base ≤ w.heap.size)
    (h : ∀ v' w', OwnS w' base v' (l ++ news) → w.grownBy w' v.ownBlock → wpList Tryz.prog ops Q rest (a.put o.dst v') w') : wpList Tryz.prog ops Q (o :: rest) a w :=
  wpList_plain hgd fun _ hK => by
    obtain ⟨v', w', hrun, h2, h3⟩ := run_append_strs w base v l hown o.type A m c news hr hsz hbase
    unfold Oper.wp execOp
    simp only [ho, resolve, invoke, builtin, Sem.run_bind, Sem.run_pure, Result.andThen_ok, List.map_toArray, List.map_cons, List.map_nil, hs, hx, hrun]
    exact hK _ _ (h v' w' h2 h3)
theorem ownS_grown {w w' : World} {base B : Nat} {v : Value} {l : List ByteArray} (h : OwnS w base v l) (hg : w.grownBy w' v.ownBlock) (hB : B ≤ base) (hz : B ≤ w.heap.size) : Below B w w' :=
  (Below.refl B w).grown hg hz (fun k e => by have := (World.ownsRow.lt h k e).1; omega)
theorem ownS_empty (w : World) : OwnS (w.alloc (.cells #[] 9)) w.heap.size (.slice (some ⟨w.heap.size, 0, none⟩) 0 0) [] :=
  World.ownsRow_made w #[] 0 (Nat.le_refl _) (Nat.zero_le _) rfl
theorem Strs.lit {W : World} {cs : Array Value} {zs : List ByteArray} {n : Nat} (t : TypeId) (h : cs.toList = zs.map Value.string) (hn : zs.length = n) : Strs (W.alloc (.cells cs t)) (some ⟨W.heap.size, 0, none⟩) n zs := by
  refine ⟨hn, fun i c hi => ⟨W.heap.size, 0, rfl, by simp, ?_⟩⟩
  rw [Nat.zero_add]
  refine blk0 ?_
  rw [← Array.getElem?_toList, h]
  simp [hi]
theorem Strs.drop {w : World} {g off n : Nat} {l : List ByteArray} (h : Strs w (some ⟨g, off, none⟩) n l) (k : Nat) : Strs w (some ⟨g, off + k, none⟩) (n - k) (l.drop k) := by
  refine ⟨by rw [List.length_drop, h.1], fun i c hi => ?_⟩
  rw [List.getElem?_drop] at hi
  obtain ⟨g', off', e, hg, hc⟩ := h.2 (k + i) c hi
  injection e with e
  injection e with e1 e2
  subst e1; subst e2
  exact ⟨g, off + k, rfl, hg, by rw [Nat.add_assoc]; exact hc⟩
end Go.Proofs.YtomnjhhpeglcnaaGreat

namespace Go.Proofs.YtomnjhhpeglcnaaGreat
open Go.RowKit
set_option linter.unusedSimpArgs false
set_option linter.unusedVariables false
set_option maxRecDepth 100000

theorem master_c (s : ByteArray) (w : World) : Calls Tryz.prog 45 #[.string s] w fun e w' => e = .returned (.bool (mayM s)) ∧ w = w' := by
  by_cases h1 : 1 ≤ s.size
  · have q1 : (1 : Int) ≤ (s.size : Int) := by omega
    have e : mayM s = decide ((s.size : Int) ≤ 64) := by
      unfold mayM; rw [Bool.eq_iff_iff, decide_eq_true_eq, decide_eq_true_eq]; omega
    have HE := Lib.hid e
    clear e
    go_enter Tryz.func45, Tryz.ntmps45
    go_wp2_with fail
    go_ret
    exact ⟨by rw [HE.out]; rfl, rfl⟩
  · have q1 : ¬ (1 : Int) ≤ (s.size : Int) := by omega
    have e : mayM s = false := by unfold mayM; rw [decide_eq_false_iff_not]; omega
    have HE := Lib.hid e
    clear e
    go_enter Tryz.func45, Tryz.ntmps45
    go_wp2_with fail
    go_ret
    exact ⟨by rw [HE.out]; rfl, rfl⟩
/-- The document's keys by value. -/
def kval (f : Nat) (a : Option Addr) (n c : Nat) : Array Value := #[.int .i64 (f : Int), .slice a n c]
def RK (w : World) (a : Option Addr) (n c : Nat) (k : KS) : Prop := Strs w a n k.ms ∧ n ≤ c
theorem RK.below {w w' : World} {a : Option Addr} {n c : Nat} {k : KS} (h : RK w a n c k) (hb : Below w.heap.size w w') : RK w' a n c k := ⟨h.1.below (Nat.le_refl _) hb, h.2⟩
theorem infoKR : (Tryz.prog.info? 27).map (·.size) = some 2 := by kernel_rfl
set_option maxHeartbeats 1000000 in
theorem rnew_c (s : ByteArray) (w : World) (hs : mayM s = true) :
    Calls Tryz.prog 27 #[.string s] w fun e w' => (∃ a c, e = .returned (.tuple #[.agg (kval 0 a 1 c), .int .i64 0]) ∧ RK w' a 1 c ⟨0, [s]⟩ ∧ ∀ g off, a = some ⟨g, off, none⟩ → w.heap.size ≤ g) ∧ Below w.heap.size w w' := by
  go_enter Tryz.func27, Tryz.ntmps27
  go_wp2_with fail
  refine (master_c s _).mono ?_
  rintro e w' ⟨rfl, hww⟩
  rw [hs, ← hww]
  clear hww
  go_wp2_with fail
  have hb : Blk ((w.alloc (.cells (kval 0 (some ⟨w.heap.size + 1, 0, none⟩) 1 1) 27)).alloc (.cells #[.string s] 9)) w.heap.size 27 (kval 0 (some ⟨w.heap.size + 1, 0, none⟩) 1 1) := (Blk.new _ _ _).alloc _
  have hS := Strs.lit (W := w.alloc (.cells (kval 0 (some ⟨w.heap.size + 1, 0, none⟩) 1 1) 27)) (cs := #[.string s]) (zs := [s]) (n := 1) 9 rfl rfl
  rw [World.size_alloc] at hS
  have hl := ((Below.refl w.heap.size w).alloc (Nat.le_refl _) (.cells (kval 0 (some ⟨w.heap.size + 1, 0, none⟩) 1 1) 27)).alloc (by simp) (.cells #[.string s] 9)
  exact bodyPost_ret (results_cell2 rfl _ _ w.heap.size 27 _ _ rfl hb Tryz.underlying27 rfl infoKR) rfl ⟨⟨_, _, rfl, ⟨hS, Nat.le_refl _⟩, fun g off e => by injection e with e; injection e with e1; omega⟩, hl⟩
theorem rnew_bad (s : ByteArray) (w : World) (hs : mayM s = false) :
    Calls Tryz.prog 27 #[.string s] w fun e w' => e = .returned (.tuple #[.agg (kval 0 none 0 0), .int .i64 2]) ∧ Below w.heap.size w w' := by
  go_enter Tryz.func27, Tryz.ntmps27
  go_wp2_with fail
  refine (master_c s _).mono ?_
  rintro e w' ⟨rfl, hww⟩
  rw [hs, ← hww]
  clear hww
  go_wp2_with fail
  have hb : Blk (w.alloc (.cells (kval 0 none 0 0) 27)) w.heap.size 27 (kval 0 none 0 0) := Blk.new _ _ _
  exact bodyPost_ret (results_cell2 rfl _ _ w.heap.size 27 _ _ rfl hb Tryz.underlying27 rfl infoKR) rfl ⟨rfl, (Below.refl w.heap.size w).alloc (Nat.le_refl _) _⟩
theorem KS.turn_long {k : KS} (s : ByteArray) (h : k.ms.length = 3) : k.turn s = ⟨k.first + 1, (k.ms ++ [s]).drop 1⟩ := by
  unfold KS.turn; rw [if_pos h, List.drop_append_of_le_length (by omega)]
theorem KS.turn_short {k : KS} (s : ByteArray) (h : k.ms.length ≠ 3) : k.turn s = ⟨k.first, k.ms ++ [s]⟩ := by
  unfold KS.turn; rw [if_neg h]
set_option maxHeartbeats 4000000 in
theorem rturn_bad (k : KS) (a : Option Addr) (n c : Nat) (s : ByteArray) (w : World) (hs : mayM s = false) (h : RK w a n c k) :
    Calls Tryz.prog 22 #[.agg (kval k.first a n c), .string s] w fun e w' => e = .returned (.tuple #[.agg (kval k.first a n c), .int .i64 2]) ∧ Below w.heap.size w w' := by
  have hb1 := Blk.new w 27 (kval k.first a n c)
  have hl := ((Below.refl w.heap.size w).alloc (Nat.le_refl _) (.cells (kval k.first a n c) 27)).alloc (by simp) (.cells (kval 0 none 0 0) 27)
  have HR := Lib.hid (hb1.alloc (.cells (kval 0 none 0 0) 27))
  have HZ := Lib.hid (Blk.new2 w (.cells (kval k.first a n c) 27) 27 (kval 0 none 0 0))
  have HL := Lib.hid hl
  clear hb1 hl
  unfold kval
  go_enter Tryz.func22, Tryz.ntmps22
  go_wp2_with fail
  change Calls Tryz.prog 45 _ ((w.alloc (.cells (kval k.first a n c) 27)).alloc (.cells (kval 0 none 0 0) 27)) _
  generalize ((w.alloc (.cells (kval k.first a n c) 27)).alloc (.cells (kval 0 none 0 0) 27)) = w1 at HR HZ HL ⊢
  refine (master_c s _).mono ?_
  rintro e w' ⟨rfl, rfl⟩
  rw [hs]
  go_wp2_with (first | (refine wpl_load_blk rfl 27 _ rfl w.heap.size rfl 27 _ _ HR.out Tryz.underlying27 rfl infoKR ?_) | (refine wpl_store_blk rfl 27 _ _ rfl (w.heap.size + 1) 27 _ (kval k.first a n c) rfl rfl HZ.out rfl infoKR (by kernel_rfl) ?_; intro w5 hB5 hO5 hz5))
  exact bodyPost_ret (results_cell2 rfl _ _ (w.heap.size + 1) 27 _ _ rfl hB5 Tryz.underlying27 rfl infoKR) rfl ⟨rfl, HL.out.trans (hO5.below (B := w.heap.size) HL.out.size (by omega))⟩
set_option maxHeartbeats 8000000 in
theorem rturn_ok (k : KS) (a : Option Addr) (n c : Nat) (s : ByteArray) (w : World) (hs : mayM s = true) (h : RK w a n c k) (h1 : 0 < n) (h3 : n ≤ 3) (hf : k.first ≤ 1000000000) :
    Calls Tryz.prog 22 #[.agg (kval k.first a n c), .string s] w fun e w' => (∃ a' n' c', e = .returned (.tuple #[.agg (kval (k.turn s).first a' n' c'), .int .i64 0]) ∧ RK w' a' n' c' (k.turn s) ∧ ∀ g off, a' = some ⟨g, off, none⟩ → w.heap.size ≤ g) ∧ Below w.heap.size w w' := by
  have hb1 := Blk.new w 27 (kval k.first a n c)
  have hl := ((Below.refl w.heap.size w).alloc (Nat.le_refl _) (.cells (kval k.first a n c) 27)).alloc (by simp) (.cells (kval 0 none 0 0) 27)
  have HR := Lib.hid (hb1.alloc (.cells (kval 0 none 0 0) 27))
  have HZ := Lib.hid (Blk.new2 w (.cells (kval k.first a n c) 27) 27 (kval 0 none 0 0))
  have HS := Lib.hid (h.1.below (Nat.le_refl _) hl)
  have HNL : Hid (k.ms.length = n) := Lib.hid h.1.1
  have HL := Lib.hid hl
  clear hb1 hl h
  unfold kval
  go_enter Tryz.func22, Tryz.ntmps22
  go_wp2_with fail
  change Calls Tryz.prog 45 _ ((w.alloc (.cells (kval k.first a n c) 27)).alloc (.cells (kval 0 none 0 0) 27)) _
  generalize ((w.alloc (.cells (kval k.first a n c) 27)).alloc (.cells (kval 0 none 0 0) 27)) = w1 at HR HZ HL HS ⊢
  have hwz : w.heap.size + 1 < w1.heap.size := HZ.out.lt
  refine (master_c s _).mono ?_
  rintro e w' ⟨rfl, rfl⟩
  rw [hs]
  have hal := (Below.refl w1.heap.size w1).alloc (Nat.le_refl _) (.cells #[] 9)
  have HE := Lib.hid (ownS_empty w1)
  have HS1 := Lib.hid (HS.out.below (Nat.le_refl _) hal)
  have c1 : (w1.alloc (.cells #[] 9)).cell? ⟨w.heap.size, 1, none⟩ = some (.slice a n c) := (HR.out.alloc (.cells #[] 9)).cell (i := 1) rfl
  have HB1 := Lib.hid hal
  clear hal
  go_wp2_with (at_builtin; refine wpl_append_strs rfl _ _ rfl w1.heap.size _ [] rfl HE.out a n c k.ms rfl HS1.out (by simp; omega) HB1.out.size ?_)
  intro v2 w2 ho2 hg2
  have HB2 := Lib.hid (HB1.out.grown hg2 HB1.out.size (fun k e => by simp [Value.ownBlock] at e; omega))
  have hal2 := (Below.refl w2.heap.size w2).alloc (Nat.le_refl _) (.cells #[.string s] 9)
  have HO2 := Lib.hid (ho2.below hal2)
  have HN2 := Lib.hid (Strs.lit (W := w2) (cs := #[.string s]) (zs := [s]) (n := 1) 9 rfl rfl)
  have HB3 := Lib.hid (HB2.out.trans (hal2.mono HB2.out.size))
  have HLN : Hid (([] ++ k.ms).length + 1 ≤ 1000000000) := Lib.hid (by rw [List.nil_append, HNL.out]; omega)
  clear ho2 hg2 hal2 HE HS1 HB1 c1
  go_wp2_with (at_builtin; refine wpl_append_strs rfl _ _ rfl w1.heap.size v2 _ rfl HO2.out (some ⟨w2.heap.size, 0, none⟩) 1 1 [s] rfl HN2.out HLN.out HB3.out.size ?_)
  intro v3 w3 ho3 hg3
  have HB4 := Lib.hid (HB3.out.grown hg3 HB3.out.size (fun k e => by have := (World.ownsRow.lt HO2.out k e).1; omega))
  obtain ⟨a3, c3, hv3, hc3, hs3, hlo3⟩ := ho3.strs
  obtain ⟨m, hm⟩ : ∃ m, m = (k.ms ++ [s]).length := ⟨_, rfl⟩
  have hmn : m = n + 1 := by rw [hm, List.length_append, HNL.out]; rfl
  rw [← hm] at hv3 hc3 hs3
  rw [hmn] at hv3 hc3 hs3
  subst hv3
  have HS3 := Lib.hid hs3
  have HR3 := Lib.hid (HR.out.below HB4.out (by have := HR.out.lt; omega))
  have HZ3 := Lib.hid (HZ.out.below HB4.out (by have := HZ.out.lt; omega))
  have HL3 := Lib.hid (HL.out.trans (HB4.out.mono HL.out.size))
  have d0 : w3.cell? ⟨w.heap.size, 0, none⟩ = some (.int .i64 (k.first : Int)) := HR3.out.cell (i := 0) rfl
  clear ho3 hg3 hs3 hm hmn HB2 HO2 HN2 HB3 HLN HR HZ HL HS HB4
  by_cases h33 : n = 3
  · subst h33
    have HT := Lib.hid (KS.turn_long s HNL.out)
    obtain ⟨g, off, hae, hg, hcl⟩ := HS3.out.cells (by omega)
    subst hae
    have hgw : w.heap.size + 1 < g := by have := hlo3 g off rfl; omega
    have hc4 : 4 ≤ c3 := hc3
    have hc4i : (4 : Int) ≤ (c3 : Int) := by omega
    have hd3 := (HS3.out.drop 1)
    have HD3 := Lib.hid hd3
    have HR4 := Lib.hid HR3.out.drew; have HZ4 := Lib.hid HZ3.out.drew; have HL4 := Lib.hid HL3.out.drew
    have HS4 := Lib.hid (HS3.out.below (Nat.le_refl _) (Below.refl w3.heap.size w3).drew)
    have hwr : IntKind.i64.wrap ((k.first : Int) + 1) = (k.first : Int) + 1 := IntWalk.i64_in _ (by omega)
    have hc1 : ¬ c3 = 1 := by omega
    clear hcl hd3 HD3
    go_wp2_with fail
    go_still_tail 6, (by kernel_rfl)
    change wpList _ _ _ _ _ w3.drew
    generalize w3.drew = w4 at HR4 HZ4 HL4 HS4 ⊢
    go_wp2_with (refine wpl_store_blk rfl 27 _ _ rfl (w.heap.size + 1) 27 _ (kval (k.first + 1) (some ⟨g, off + 1, none⟩) 3 (c3 - 1)) rfl rfl HZ4.out rfl infoKR (by kernel_rfl) ?_; intro w5 hB5 hO5 hz5)
    refine bodyPost_ret (results_cell2 rfl _ _ (w.heap.size + 1) 27 _ _ rfl hB5 Tryz.underlying27 rfl infoKR) rfl ⟨⟨some ⟨g, off + 1, none⟩, 3, c3 - 1, by rw [HT.out]; rfl, ⟨?_, by omega⟩, fun g' off' e => by injection e with e; injection e with e1; omega⟩, HL4.out.trans (hO5.below (B := w.heap.size) HL4.out.size (by omega))⟩
    rw [HT.out]
    exact (HS4.out.drop 1).only hO5 (fun g' off' e _ => by injection e with e; injection e with e1; omega)
  · have q : ¬ ((3 : Int) < (n : Int) + 1) := by omega
    have HT := Lib.hid (KS.turn_short s (by rw [HNL.out]; exact h33))
    go_wp2_with (refine wpl_store_blk rfl 27 _ _ rfl (w.heap.size + 1) 27 _ (kval k.first a3 (n + 1) c3) rfl rfl HZ3.out rfl infoKR (by kernel_rfl) ?_; intro w5 hB5 hO5 hz5)
    refine bodyPost_ret (results_cell2 rfl _ _ (w.heap.size + 1) 27 _ _ rfl hB5 Tryz.underlying27 rfl infoKR) rfl ⟨⟨a3, n + 1, c3, by rw [HT.out]; rfl, ⟨?_, hc3⟩, fun g' off' e => by have := hlo3 g' off' e; omega⟩, HL3.out.trans (hO5.below (B := w.heap.size) HL3.out.size (by omega))⟩
    rw [HT.out]
    exact HS3.out.only hO5 (fun g' off' e _ => by have := hlo3 g' off' e; omega)
theorem rnewest_c (f : Nat) (a : Option Addr) (n c : Nat) (w : World) (hf : f ≤ 1000000000) (h0 : 0 < n) (hn : n ≤ 1000000) :
    Calls Tryz.prog 28 #[.agg (kval f a n c)] w fun e w' => e = .returned (.int .i64 ((f + n - 1 : Nat) : Int)) ∧ Below w.heap.size w w' := by
  have HB := Lib.hid ((Below.refl w.heap.size w).alloc (Nat.le_refl _) (.cells #[.int .i64 (f : Int), .slice a n c] 27))
  have e1 : ((f + n - 1 : Nat) : Int) = (f : Int) + n - 1 := by omega
  rw [e1]
  clear e1
  unfold kval
  go_enter Tryz.func28, Tryz.ntmps28
  go_wp2_with fail
  go_ret
  exact ⟨rfl, HB.out⟩
set_option maxHeartbeats 4000000 in
theorem rsame_c (k k' : KS) (a : Option Addr) (n c : Nat) (a' : Option Addr) (n' c' : Nat) (w : World) (h : RK w a n c k) (h' : RK w a' n' c' k') (hn : n ≤ 3) (hn' : n' ≤ 3) :
    Calls Tryz.prog 23 #[.agg (kval k.first a n c), .agg (kval k'.first a' n' c')] w fun e w' => e = .returned (.bool (decide (k.first = k'.first ∧ k.ms = k'.ms))) ∧ Below w.heap.size w w' := by
  have hl := ((Below.refl w.heap.size w).alloc (Nat.le_refl _) (.cells (kval k.first a n c) 27)).alloc (by simp) (.cells (kval k'.first a' n' c') 27)
  have H1 := Lib.hid ((Blk.new w 27 (kval k.first a n c)).alloc (.cells (kval k'.first a' n' c') 27))
  have H2 := Lib.hid (Blk.new2 w (.cells (kval k.first a n c) 27) 27 (kval k'.first a' n' c'))
  have HS := Lib.hid (h.1.below (Nat.le_refl _) hl)
  have HS' := Lib.hid (h'.1.below (Nat.le_refl _) hl)
  have HL := Lib.hid hl
  have hm : k.ms.length = n := h.1.1
  have hm' : k'.ms.length = n' := h'.1.1
  have HM := Lib.hid hm; have HM' := Lib.hid hm'
  clear hl h h' hm hm'
  by_cases hff : k.first = k'.first
  rotate_left
  · have q : ((k.first : Int) != (k'.first : Int)) = true := by rw [bne_iff_ne]; omega
    have HF := Lib.hid hff
    clear hff
    unfold kval
    go_enter Tryz.func23, Tryz.ntmps23
    go_wp2_with fail
    go_ret
    exact ⟨by rw [decide_eq_false (fun e => HF.out e.1)]; rfl, HL.out⟩
  obtain ⟨f, hf⟩ : ∃ f, f = k.first := ⟨_, rfl⟩
  have HF := Lib.hid hff
  rw [← hff, ← hf] at H1 H2 HL HS HS'
  rw [← hff, ← hf]
  clear hff hf
  by_cases hnn : n = n'
  rotate_left
  · have q : ((n : Int) != (n' : Int)) = true := by rw [bne_iff_ne]; omega
    have HNN := Lib.hid hnn
    clear hnn
    unfold kval
    go_enter Tryz.func23, Tryz.ntmps23
    go_wp2_with fail
    go_ret
    exact ⟨by rw [decide_eq_false (fun e => HNN.out (by rw [← HM.out, ← HM'.out, e.2]))]; rfl, HL.out⟩
  subst hnn
  unfold kval
  go_enter Tryz.func23, Tryz.ntmps23
  go_wp2_with fail
  go_loopw [5] (fun iv wr => ∃ i : Nat, i ≤ n ∧ iv = .int .i64 (i : Int) ∧ k.ms.take i = k'.ms.take i ∧ Below (w.heap.size + 2) ((w.alloc (.cells (kval f a n c) 27)).alloc (.cells (kval f a' n c') 27)) wr) (fun iv _ => n - (intOf iv).toNat)
  case atStart => exact ⟨0, Nat.zero_le _, rfl, rfl, Below.refl _ _⟩
  case round =>
  obtain ⟨i, hi, rfl, hall, hb⟩ := hrel
  have HB := Lib.hid hb
  have k1 := H1.out.below (B := w.heap.size + 2) hb (by omega)
  have k2 := H2.out.below (B := w.heap.size + 2) hb (by omega)
  have c1 : wr.cell? ⟨w.heap.size, 1, none⟩ = some (.slice a n c) := k1.cell (i := 1) rfl
  have c2 : wr.cell? ⟨w.heap.size + 1, 1, none⟩ = some (.slice a' n c') := k2.cell (i := 1) rfl
  have HALL := Lib.hid hall
  clear k1 k2 hb hall
  by_cases hlt : i < n
  · obtain ⟨x, hx⟩ : ∃ x, k.ms[i]? = some x := ⟨k.ms[i]'(by rw [HM.out]; exact hlt), List.getElem?_eq_getElem _⟩
    obtain ⟨y, hy⟩ : ∃ y, k'.ms[i]? = some y := ⟨k'.ms[i]'(by rw [HM'.out]; exact hlt), List.getElem?_eq_getElem _⟩
    obtain ⟨g, off, hae, hg, hc1⟩ := (HS.out.below (B := w.heap.size + 2) (by simp) HB.out).2 i x hx
    obtain ⟨g', off', hae', hg', hc2⟩ := (HS'.out.below (B := w.heap.size + 2) (by simp) HB.out).2 i y hy
    subst hae; subst hae'
    have HX := Lib.hid hx; have HY := Lib.hid hy
    clear hx hy
    have hbeq := beq_str x y
    by_cases hxy : x = y
    · rw [decide_eq_true hxy] at hbeq
      have HXY := Lib.hid hxy
      clear hxy
      go_wp2_with fail
      go_quiet (fail)
      go_wp2_with fail
      go_roundw
      case rel => exact ⟨i + 1, by omega, by go_num, by rw [List.take_add_one, List.take_add_one, HALL.out, HX.out, HY.out, HXY.out], below_drewN HB.out _⟩
      case measure => simp [intOf]; omega
    · rw [decide_eq_false hxy] at hbeq
      have HXY := Lib.hid hxy
      clear hxy
      go_wp2_with fail
      go_quiet (fail)
      go_wp2_with fail
      go_ret
      refine ⟨?_, HL.out.trans ((below_drewN HB.out _).mono (by omega))⟩
      rw [decide_eq_false (fun e => HXY.out (by have h1 := HX.out; have h2 := HY.out; rw [e.2, h2] at h1; injection h1 with h; exact h.symm))]
      rfl
  · obtain rfl : i = n := by omega
    have hall := HALL.out
    rw [List.take_of_length_le (by rw [HM.out]; exact Nat.le_refl _), List.take_of_length_le (by rw [HM'.out]; exact Nat.le_refl _)] at hall
    have HALL2 := Lib.hid hall
    clear hall
    go_wp2_with fail
    go_ret
    exact ⟨by rw [decide_eq_true ⟨(by first | rfl | trivial), HALL2.out⟩]; rfl, HL.out.trans (HB.out.mono (by omega))⟩
end Go.Proofs.YtomnjhhpeglcnaaGreat
