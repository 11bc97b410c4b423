/- Contracts: a writer, the rest. -/
import Derived.Test.YtnecoapbpicloaaWd
namespace Go.Proofs.Ytnecoapbpicloaa
open Go.RowKit
set_option linter.unusedSimpArgs false
set_option linter.unusedVariables false
set_option maxRecDepth 100000

theorem wnumber_bad (p : Nat) (v : Value) (l : List By) (a : Option Addr) (n c : Nat) (zs : List Int) (w : World) (h : IsWr w p v l) (hi : I64s w a n zs) (hn : n ≤ 1000000) (ho : okN zs = false) :
    Calls Try.prog 15 #[.pointer (some ⟨p, 0, none⟩), .slice a n c] w fun e w' => e = .returned (.int .i64 2) ∧ w = w' := by
  have H := Lib.hid h; have HI := Lib.hid hi; have HO := Lib.hid ho
  clear h hi ho
  go_enter Try.func15, Try.ntmps15
  go_wp2_with fail
  refine (wnone_no p v l _ H.out).mono ?_
  rintro e w' ⟨rfl, rfl⟩
  go_wp2_with fail
  refine (contains_c a n c zs _ HI.out hn).mono ?_
  rintro e w' ⟨rfl, rfl⟩
  rw [HO.out]
  go_wp2_with fail
  go_ret
  exact ⟨rfl, rfl⟩
theorem wnumber_none (v : Option Addr) (a : Option Addr) (n c : Nat) (w : World) (h : NoWr w v) :
    Calls Try.prog 15 #[.pointer v, .slice a n c] w fun e w' => e = .returned (.int .i64 1) ∧ w = w' := by
  go_enter Try.func15, Try.ntmps15
  go_wp2_with fail
  refine (wnone_yes v _ h).mono ?_
  rintro e w' ⟨rfl, rfl⟩
  go_wp2_with fail
  go_ret
  exact ⟨rfl, rfl⟩

/-! ### Text -/
def textB (l : List By) : List By := numB l.length ++ l
set_option maxHeartbeats 1000000 in
theorem wtext_c (p : Nat) (v : Value) (l : List By) (s : ByteArray) (w : World) (h : IsWr w p v l) (hl : l.length ≤ 100000000) (hs : s.size ≤ 1048576) :
    Calls Try.prog 23 #[.pointer (some ⟨p, 0, none⟩), .string s] w (WrRes w p v (l ++ textB (strB s))) := by
  have H := Lib.hid h
  clear h
  have hp := H.out.lt
  have c0 := H.out.c0
  have hs2 : ¬ (1048576 < (s.size : Int)) := by omega
  have hn9 : (numB s.size).length ≤ 9 := numB_nine (by omega)
  go_enter Try.func23, Try.ntmps23
  go_wp2_with fail
  refine (wnone_no p v l _ H.out).mono ?_
  rintro e w' ⟨rfl, rfl⟩
  go_wp2_with fail
  refine (number_c s.size v l (p + 1) _ H.out.2 (by omega) (by omega) (by omega)).mono ?_
  rintro e w2 ⟨v2, rfl, ho2, ht2, hm2⟩
  have HO2 := Lib.hid ho2; have HT2 := Lib.hid ht2; have HM2 := Lib.hid hm2
  have hz := ht2.size
  clear ho2 ht2 hm2 c0
  go_wp2_with (at_builtin; refine wpl_append_str rfl _ _ rfl (p + 1) _ _ rfl HO2.out s rfl ?c1 ?c2 ?_)
  case c1 => rw [List.length_append]; omega
  case c2 => omega
  intro v3 w3 ho3 ht3 hm3
  have ho3' : OwnB w3 (p + 1) v3 (l ++ textB (strB s)) := by
    have e : l ++ textB (strB s) = l ++ numB s.size ++ strB s := by unfold textB; rw [strB_len, List.append_assoc]
    rw [e]; simpa using ho3
  have htt := HM2.out.only HT2.out ht3
  obtain ⟨hi, hk⟩ := H.out.put htt ho3'
  obtain ⟨a2, n2, c2, rfl⟩ := hi.form
  have HI := Lib.hid hi; have HK := Lib.hid hk
  have HM := Lib.hid (HM2.out.trans hm3 hz)
  have HB : Hid (Blk w3 p 49 #[v, .bool true]) := Lib.hid (htt.blk H.out.1 (fun e => by have := (own_lt H.out.2 p e).1; omega))
  have c5 := HB.out.cell (i := 0) rfl
  have f5 := HB.out.frozen 0
  clear ho3 ht3 hm3 ho3' htt hi hk
  go_wp2_with fail
  go_ret
  exact ⟨rfl, _, HI.out, HK.out, HM.out⟩
theorem wtext_long (p : Nat) (v : Value) (l : List By) (s : ByteArray) (w : World) (h : IsWr w p v l) (hs : 1048576 < s.size) :
    Calls Try.prog 23 #[.pointer (some ⟨p, 0, none⟩), .string s] w fun e w' => e = .returned (.int .i64 3) ∧ w = w' := by
  have hs2 : (1048576 < (s.size : Int)) := by omega
  go_enter Try.func23, Try.ntmps23
  go_wp2_with fail
  refine (wnone_no p v l _ h).mono ?_
  rintro e w' ⟨rfl, rfl⟩
  go_wp2_with fail
  go_ret
  exact ⟨rfl, rfl⟩
theorem wtext_none (v : Option Addr) (s : ByteArray) (w : World) (h : NoWr w v) :
    Calls Try.prog 23 #[.pointer v, .string s] w fun e w' => e = .returned (.int .i64 1) ∧ w = w' := by
  go_enter Try.func23, Try.ntmps23
  go_wp2_with fail
  refine (wnone_yes v _ h).mono ?_
  rintro e w' ⟨rfl, rfl⟩
  go_wp2_with fail
  go_ret
  exact ⟨rfl, rfl⟩

/-! ### Truth -/
def truthB (b : Bool) : List By := [if b then 1 else 0]
theorem truth_num (b : Bool) : numB (if b then 1 else 0) = truthB b := by cases b <;> rw [numB_lt (by decide)] <;> rfl
set_option maxHeartbeats 1000000 in
theorem wtruth_c (p : Nat) (v : Value) (l : List By) (b : Bool) (w : World) (h : IsWr w p v l) (hl : l.length ≤ 100000000) :
    Calls Try.prog 24 #[.pointer (some ⟨p, 0, none⟩), .bool b] w (WrRes w p v (l ++ truthB b)) := by
  have H := Lib.hid h
  clear h
  have hp := H.out.lt
  have c0 := H.out.c0
  cases b
  · go_enter Try.func24, Try.ntmps24
    go_wp2_with fail
    refine (wnone_no p v l _ H.out).mono ?_
    rintro e w' ⟨rfl, rfl⟩
    go_wp2_with fail
    refine (number_c 0 v l (p + 1) _ H.out.2 (by omega) (by omega) (by omega)).mono ?_
    rintro e w2 ⟨v2, rfl, ho2, ht2, hm2⟩
    rw [show numB 0 = truthB false from truth_num false] at ho2
    obtain ⟨hi, hk⟩ := H.out.put ht2 ho2
    obtain ⟨a2, n2, c2, rfl⟩ := hi.form
    have HI := Lib.hid hi; have HK := Lib.hid hk; have HM := Lib.hid hm2
    have HB : Hid (Blk w2 p 49 #[v, .bool true]) := Lib.hid (ht2.blk H.out.1 (fun e => by have := (own_lt H.out.2 p e).1; omega))
    have c5 := HB.out.cell (i := 0) rfl
    have f5 := HB.out.frozen 0
    clear ho2 ht2 hm2 hi hk
    go_wp2_with fail
    go_ret
    exact ⟨rfl, _, HI.out, HK.out, HM.out⟩
  · go_enter Try.func24, Try.ntmps24
    go_wp2_with fail
    refine (wnone_no p v l _ H.out).mono ?_
    rintro e w' ⟨rfl, rfl⟩
    go_wp2_with fail
    refine (number_c 1 v l (p + 1) _ H.out.2 (by omega) (by omega) (by omega)).mono ?_
    rintro e w2 ⟨v2, rfl, ho2, ht2, hm2⟩
    rw [show numB 1 = truthB true from truth_num true] at ho2
    obtain ⟨hi, hk⟩ := H.out.put ht2 ho2
    obtain ⟨a2, n2, c2, rfl⟩ := hi.form
    have HI := Lib.hid hi; have HK := Lib.hid hk; have HM := Lib.hid hm2
    have HB : Hid (Blk w2 p 49 #[v, .bool true]) := Lib.hid (ht2.blk H.out.1 (fun e => by have := (own_lt H.out.2 p e).1; omega))
    have c5 := HB.out.cell (i := 0) rfl
    have f5 := HB.out.frozen 0
    clear ho2 ht2 hm2 hi hk
    go_wp2_with fail
    go_ret
    exact ⟨rfl, _, HI.out, HK.out, HM.out⟩
theorem wtruth_none (v : Option Addr) (b : Bool) (w : World) (h : NoWr w v) :
    Calls Try.prog 24 #[.pointer v, .bool b] w fun e w' => e = .returned (.int .i64 1) ∧ w = w' := by
  go_enter Try.func24, Try.ntmps24
  go_wp2_with fail
  refine (wnone_yes v _ h).mono ?_
  rintro e w' ⟨rfl, rfl⟩
  go_wp2_with fail
  go_ret
  exact ⟨rfl, rfl⟩

/-! ### All -/
set_option maxHeartbeats 1000000 in
theorem wall_c (p : Nat) (v : Value) (l : List By) (w : World) (h : IsWr w p v l) (hl : l.length ≤ 1000000000) :
    Calls Try.prog 16 #[.pointer (some ⟨p, 0, none⟩)] w fun e w' => ∃ r, e = .returned r ∧ OwnB w' w.heap.size r l ∧ Below w.heap.size w w' := by
  have H := Lib.hid h
  clear h
  have c0 := H.out.c0
  obtain ⟨a, c, hv, hc, hy⟩ := H.out.2.bys
  have HY := Lib.hid hy; clear hy
  subst hv
  go_enter Try.func16, Try.ntmps16
  go_wp2_with fail
  refine (wnone_no p _ l _ H.out).mono ?_
  rintro e w' ⟨rfl, rfl⟩
  go_wp2_with fail
  refine (clone_c a _ c l _ HY.out hl).mono ?_
  rintro e w2 ⟨r, rfl, ho, hb⟩
  have HO := Lib.hid ho; have HB := Lib.hid hb
  clear ho hb
  go_wp2_with fail
  go_ret
  exact ⟨r, rfl, HO.out, HB.out⟩
theorem wall_none (v : Option Addr) (w : World) (h : NoWr w v) :
    Calls Try.prog 16 #[.pointer v] w fun e w' => e = .returned (.slice none 0 0) ∧ w = w' := by
  go_enter Try.func16, Try.ntmps16
  go_wp2_with fail
  refine (wnone_yes v _ h).mono ?_
  rintro e w' ⟨rfl, rfl⟩
  go_wp2_with fail
  go_ret
  exact ⟨rfl, rfl⟩
end Go.Proofs.Ytnecoapbpicloaa
