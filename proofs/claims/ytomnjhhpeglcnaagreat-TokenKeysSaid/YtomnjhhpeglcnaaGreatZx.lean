/- Contracts: keys. -/
import Derived.Test.YtomnjhhpeglcnaaGreatZm
import Derived.Test.YtomnjhhpeglcnaaGreatZn
import Derived.Deep.Cut
import Derived.IntWalk
namespace Go.Proofs.YtomnjhhpeglcnaaGreat
open Go.RowKit
set_option linter.unusedSimpArgs false
set_option linter.unusedVariables false
set_option maxRecDepth 100000

/-- Keys: the first one's number, the masters. -/
structure KS where
  first : Nat
  ms : List ByteArray
def kcells (f n : Nat) (a b c : ByteArray) : Array Value := #[.int .i64 (f : Int), .int .i64 (n : Int), .string a, .string b, .string c]
def emptyS : ByteArray := ⟨#[]⟩
def KS.cells (k : KS) : Array Value := kcells k.first k.ms.length (k.ms.getD 0 emptyS) (k.ms.getD 1 emptyS) (k.ms.getD 2 emptyS)
/-- May a master be? -/
def mayM (s : ByteArray) : Bool := decide (0 < s.size ∧ s.size ≤ 64)
structure IsKeys (w : World) (p : Nat) (k : KS) : Prop where
  blk : Blk w p 48 k.cells
  pos : 0 < k.ms.length
  len : k.ms.length ≤ 3
  may : ∀ m ∈ k.ms, mayM m = true
theorem kc_cells {w : World} {p f n : Nat} {a b c : ByteArray} (h : Blk w p 48 (kcells f n a b c)) :
    w.cell? ⟨p, 0, none⟩ = some (.int .i64 (f : Int)) ∧ w.cell? ⟨p, 1, none⟩ = some (.int .i64 (n : Int)) ∧ w.cell? ⟨p, 2, none⟩ = some (.string a) ∧ w.cell? ⟨p, 3, none⟩ = some (.string b) ∧ w.cell? ⟨p, 4, none⟩ = some (.string c) :=
  ⟨h.cell rfl, h.cell rfl, h.cell rfl, h.cell rfl, h.cell rfl⟩
theorem tnone_no (p f n : Nat) (a b c : ByteArray) (w : World) (h : Blk w p 48 (kcells f n a b c)) (hn : 0 < n) :
    Calls Tryz.prog 32 #[.pointer (some ⟨p, 0, none⟩)] w fun e w' => e = .returned (.bool false) ∧ w = w' := by
  obtain ⟨c0, c1, c2, c3, c4⟩ := kc_cells h
  have q : ¬ ((n : Int) = 0) := by omega
  clear h
  go_enter Tryz.func32, Tryz.ntmps32
  go_wp2_with fail
  go_ret
  exact ⟨by simp; omega, rfl⟩
theorem tnone_zero (p f : Nat) (a b c : ByteArray) (w : World) (h : Blk w p 48 (kcells f 0 a b c)) :
    Calls Tryz.prog 32 #[.pointer (some ⟨p, 0, none⟩)] w fun e w' => e = .returned (.bool true) ∧ w = w' := by
  obtain ⟨c0, c1, c2, c3, c4⟩ := kc_cells h
  clear h
  go_enter Tryz.func32, Tryz.ntmps32
  go_wp2_with fail
  go_ret
  exact ⟨rfl, rfl⟩
theorem tnone_nil (w : World) : Calls Tryz.prog 32 #[.pointer none] w fun e w' => e = .returned (.bool true) ∧ w = w' := by
  go_enter Tryz.func32, Tryz.ntmps32
  go_wp2_with fail
  go_ret
  exact ⟨rfl, rfl⟩
theorem newest_zero (p f : Nat) (a b c : ByteArray) (w : World) (h : Blk w p 48 (kcells f 0 a b c)) :
    Calls Tryz.prog 18 #[.pointer (some ⟨p, 0, none⟩)] w fun e w' => e = .returned (.int .i64 0) ∧ w = w' := by
  go_enter Tryz.func18, Tryz.ntmps18
  go_wp2_with fail
  refine (tnone_zero p f a b c _ h).mono ?_
  rintro e w' ⟨rfl, rfl⟩
  go_wp2_with fail
  go_ret
  exact ⟨rfl, rfl⟩
theorem newest_nil (w : World) : Calls Tryz.prog 18 #[.pointer none] w fun e w' => e = .returned (.int .i64 0) ∧ w = w' := by
  go_enter Tryz.func18, Tryz.ntmps18
  go_wp2_with fail
  refine (tnone_nil _).mono ?_
  rintro e w' ⟨rfl, rfl⟩
  go_wp2_with fail
  go_ret
  exact ⟨rfl, rfl⟩
theorem newest_c (p f n : Nat) (a b c : ByteArray) (w : World) (h : Blk w p 48 (kcells f n a b c)) (hn : 0 < n) (hm : n ≤ 3) (hf : f ≤ 1000000000) :
    Calls Tryz.prog 18 #[.pointer (some ⟨p, 0, none⟩)] w fun e w' => e = .returned (.int .i64 ((f + n - 1 : Nat) : Int)) ∧ Below w.heap.size w w' := by
  obtain ⟨c0, c1, c2, c3, c4⟩ := kc_cells h
  have e1 : wrap64 (wrap64 ((f : Int) + n) - 1) = ((f + n - 1 : Nat) : Int) := by
    rw [show wrap64 ((f : Int) + n) = (f : Int) + n from IntWalk.wrap64_in _ (by omega), IntWalk.wrap64_in _ (by omega)]; omega
  have H := Lib.hid h
  clear h
  go_enter Tryz.func18, Tryz.ntmps18
  go_wp2_with fail
  refine (tnone_no p f n a b c _ H.out hn).mono ?_
  rintro e w' ⟨rfl, rfl⟩
  go_wp2_with fail
  go_quiet (fail)
  go_wp2_with fail
  go_ret
  exact ⟨by rw [show ((f + n - 1 : Nat) : Int) = (f : Int) + n - 1 by omega]; rfl, below_drewN (Below.refl _ _) _⟩
theorem str_nil (s : ByteArray) : s.toList.isEmpty = decide (s.size = 0) := by
  have h : (s.toList == (⟨#[]⟩ : ByteArray).toList) = decide (s.size = 0) := by
    rw [Bool.eq_iff_iff, Lib.bytes_beq_iff, decide_eq_true_eq]
    constructor
    · rintro rfl; rfl
    · intro h
      cases s with
      | mk d =>
        have : d.size = 0 := h
        have := Array.eq_empty_of_size_eq_zero this
        rw [this]
  rw [← h]
  have e : (⟨#[]⟩ : ByteArray).toList = [] := by simp [ByteArray.toList, ByteArray.toList.loop, ByteArray.size]
  rw [e]
  cases s.toList <;> rfl
set_option maxHeartbeats 1000000 in
theorem push_bad (v : Value) (s : ByteArray) (w : World) (hs : mayM s = false) :
    Calls Tryz.prog 44 #[v, .string s] w fun e w' => e = .returned (.bool false) ∧ w = w' := by
  have e0 := str_nil s
  unfold mayM at hs
  rw [decide_eq_false_iff_not] at hs
  by_cases h0 : s.size = 0
  · rw [decide_eq_true h0] at e0
    go_enter Tryz.func44, Tryz.ntmps44
    go_wp2_with fail
    go_ret
    exact ⟨rfl, rfl⟩
  · rw [decide_eq_false h0] at e0
    have h1 : (64 : Int) < (s.size : Int) := by omega
    go_enter Tryz.func44, Tryz.ntmps44
    go_wp2_with fail
    go_ret
    exact ⟨rfl, rfl⟩
theorem pkc_size (f n : Nat) (a b c : ByteArray) : (kcells f n a b c).size = 5 := rfl
set_option maxHeartbeats 2000000 in
theorem push_low (p f n : Nat) (a b c s : ByteArray) (w : World) (h : Blk w p 48 (kcells f n a b c)) (hn : n < 3) (hs : mayM s = true) :
    Calls Tryz.prog 44 #[.pointer (some ⟨p, 0, none⟩), .string s] w fun e w' => e = .returned (.bool true) ∧ Blk w' p 48 (kcells f (n + 1) (if n = 0 then s else a) (if n = 1 then s else b) (if n = 2 then s else c)) ∧ Only p w w' := by
  have e0 := str_nil s
  unfold mayM at hs
  rw [decide_eq_true_eq] at hs
  rw [decide_eq_false (by omega : ¬ s.size = 0)] at e0
  have h1 : ¬ (64 : Int) < (s.size : Int) := by omega
  obtain ⟨c0, c1, c2, c3, c4⟩ := kc_cells h
  have H := Lib.hid h
  have HD := Lib.hid h.drew
  clear h hs
  rcases (by omega : n = 0 ∨ n = 1 ∨ n = 2) with rfl | rfl | rfl
  all_goals
    go_enter Tryz.func44, Tryz.ntmps44
    go_wp2_with fail
    go_still_tail 9, (by kernel_rfl)
    change wpList _ _ _ _ _ w.drew
    clear c0 c1 c2 c3 c4
    have HO := Lib.hid ((Only.refl p w).drew)
    generalize w.drew = w1 at HD HO ⊢
    obtain ⟨c0, c1, c2, c3, c4⟩ := kc_cells HD.out
    have fz := HD.out.frozen
    go_wp2_with fail
    go_ret
  · exact ⟨rfl, (HD.out.set 2 (.string s)).set 1 (.int .i64 1), (HO.out.setCell (.inl rfl) _).setCell (.inl rfl) _⟩
  · exact ⟨rfl, (HD.out.set 3 (.string s)).set 1 (.int .i64 2), (HO.out.setCell (.inl rfl) _).setCell (.inl rfl) _⟩
  · exact ⟨rfl, (HD.out.set 4 (.string s)).set 1 (.int .i64 3), (HO.out.setCell (.inl rfl) _).setCell (.inl rfl) _⟩
set_option maxHeartbeats 2000000 in
theorem push_full (p f : Nat) (a b c s : ByteArray) (w : World) (h : Blk w p 48 (kcells f 3 a b c)) (hs : mayM s = true) (hf : f ≤ 1000000000) :
    Calls Tryz.prog 44 #[.pointer (some ⟨p, 0, none⟩), .string s] w fun e w' => e = .returned (.bool true) ∧ Blk w' p 48 (kcells (f + 1) 3 b c s) ∧ Only p w w' := by
  have e0 := str_nil s
  unfold mayM at hs
  rw [decide_eq_true_eq] at hs
  rw [decide_eq_false (by omega : ¬ s.size = 0)] at e0
  have h1 : ¬ (64 : Int) < (s.size : Int) := by omega
  obtain ⟨c0, c1, c2, c3, c4⟩ := kc_cells h
  have H := Lib.hid h
  have HD := Lib.hid h.drew
  clear h hs
  go_enter Tryz.func44, Tryz.ntmps44
  go_wp2_with fail
  go_still_tail 8, (by kernel_rfl)
  change wpList _ _ _ _ _ w.drew
  clear c0 c1 c2 c3 c4
  have HO := Lib.hid ((Only.refl p w).drew)
  generalize w.drew = w1 at HD HO ⊢
  obtain ⟨c0, c1, c2, c3, c4⟩ := kc_cells HD.out
  refine wpl_copy_blk rfl _ _ 22 22 rfl 9 Tryz.underlying22 (by kernel_rfl) p 2 3 3 ⟨p, 3, none⟩ 2 2 rfl rfl [.int .i64 (f : Int), .int .i64 3, .string a, .string b, .string c] 48 HD.out [.string b, .string c] rfl ?q1 (by simp) ?q2 ?_
  case q1 =>
    intro j v hj
    match j with
    | 0 => simp at hj; subst hj; exact c3
    | 1 => simp at hj; subst hj; exact c4
    | k + 2 => simp at hj
  case q2 => intro v hv; simp at hv; rcases hv with rfl | rfl <;> rfl
  intro w2 hB2 hO2 hz2
  have HB2 : Hid (Blk w2 p 48 (kcells f 3 b c c)) := Lib.hid hB2
  have HO2 := Lib.hid (HO.out.trans hO2)
  clear c0 c1 c2 c3 c4 hB2 hO2 hz2
  obtain ⟨c0, c1, c2, c3, c4⟩ := kc_cells HB2.out
  have fz := HB2.out.frozen
  have HB3 : Hid (Blk ((w2.setCell ⟨p, 0, none⟩ (.int .i64 ((f : Int) + 1))).setCell ⟨p, 1, none⟩ (.int .i64 2)) p 48 (kcells (f + 1) 2 b c c)) := Lib.hid ((HB2.out.set 0 (.int .i64 ((f : Int) + 1))).set 1 (.int .i64 2))
  have HO3 := Lib.hid ((HO2.out.setCell (p := ⟨p, 0, none⟩) (.inl rfl) (.int .i64 ((f : Int) + 1))).setCell (p := ⟨p, 1, none⟩) (.inl rfl) (.int .i64 2))
  go_wp2_with fail
  generalize (w2.setCell ⟨p, 0, none⟩ (.int .i64 ((f : Int) + 1))).setCell ⟨p, 1, none⟩ (.int .i64 2) = w3 at HB3 HO3 ⊢
  clear c0 c1 c2 c3 c4 fz HB2 HO2 HD HO H
  obtain ⟨c0, c1, c2, c3, c4⟩ := kc_cells HB3.out
  have HD := Lib.hid HB3.out.drew
  go_still_tail 9, (by kernel_rfl)
  change wpList _ _ _ _ _ w3.drew
  clear c0 c1 c2 c3 c4
  have HO := Lib.hid (HO3.out.drew)
  generalize w3.drew = w4 at HD HO ⊢
  obtain ⟨c0, c1, c2, c3, c4⟩ := kc_cells HD.out
  have fz := HD.out.frozen
  go_wp2_with fail
  go_ret
  exact ⟨rfl, (HD.out.set 4 (.string s)).set 1 (.int .i64 3), (HO.out.setCell (.inl rfl) _).setCell (.inl rfl) _⟩
def KS.turn (k : KS) (s : ByteArray) : KS := if k.ms.length = 3 then ⟨k.first + 1, k.ms.drop 1 ++ [s]⟩ else ⟨k.first, k.ms ++ [s]⟩
def KS.newest (k : KS) : Nat := k.first + k.ms.length - 1
theorem IsKeys.put {w : World} {p : Nat} {k : KS} {s : ByteArray} (h1 : 0 < k.ms.length) (h2 : k.ms.length ≤ 3) (h3 : ∀ m ∈ k.ms, mayM m = true) (hs : mayM s = true) (hb : Blk w p 48 (k.turn s).cells) : IsKeys w p (k.turn s) := by
  unfold KS.turn at hb ⊢
  split at hb
  · rename_i h
    rw [if_pos h]
    refine ⟨hb, by simp, by simp; omega, fun m hm => ?_⟩
    rcases List.mem_append.1 hm with hm | hm
    · exact h3 m (List.mem_of_mem_drop hm)
    · simp at hm; subst hm; exact hs
  · rename_i h
    rw [if_neg h]
    refine ⟨hb, by simp, by simp; omega, fun m hm => ?_⟩
    rcases List.mem_append.1 hm with hm | hm
    · exact h3 m hm
    · simp at hm; subst hm; exact hs
theorem push_c (p : Nat) (k : KS) (s : ByteArray) (w : World) (h : IsKeys w p k) (hs : mayM s = true) (hf : k.first ≤ 1000000000) :
    Calls Tryz.prog 44 #[.pointer (some ⟨p, 0, none⟩), .string s] w fun e w' => e = .returned (.bool true) ∧ IsKeys w' p (k.turn s) ∧ Only p w w' := by
  obtain ⟨hb, h1, h2, h3⟩ := h
  obtain ⟨f, ms⟩ := k
  match ms, h1, h2, h3, hb with
  | [a], h1, h2, h3, hb =>
    refine (push_low p f 1 a emptyS emptyS s w hb (by decide) hs).mono ?_
    rintro e w' ⟨rfl, hb', ho⟩
    exact ⟨rfl, IsKeys.put h1 h2 h3 hs hb', ho⟩
  | [a, b], h1, h2, h3, hb =>
    refine (push_low p f 2 a b emptyS s w hb (by decide) hs).mono ?_
    rintro e w' ⟨rfl, hb', ho⟩
    exact ⟨rfl, IsKeys.put h1 h2 h3 hs hb', ho⟩
  | [a, b, c], h1, h2, h3, hb =>
    refine (push_full p f a b c s w hb hs hf).mono ?_
    rintro e w' ⟨rfl, hb', ho⟩
    exact ⟨rfl, IsKeys.put h1 h2 h3 hs hb', ho⟩
  | [], h1, h2, h3, hb => simp at h1
  | a :: b :: c :: d :: r, h1, h2, h3, hb => simp at h2
set_option maxHeartbeats 1000000 in
theorem turn_c (p : Nat) (k : KS) (s : ByteArray) (w : World) (h : IsKeys w p k) (hf : k.first ≤ 1000000000) :
    Calls Tryz.prog 17 #[.pointer (some ⟨p, 0, none⟩), .string s] w fun e w' => e = .returned (.int .i64 (if mayM s then 0 else 2)) ∧ IsKeys w' p (if mayM s then k.turn s else k) ∧ Only p w w' := by
  have H := Lib.hid h
  clear h
  go_enter Tryz.func17, Tryz.ntmps17
  go_wp2_with fail
  refine (tnone_no p k.first k.ms.length _ _ _ _ H.out.blk H.out.pos).mono ?_
  rintro e w' ⟨rfl, rfl⟩
  by_cases hs : mayM s = true
  · go_wp2_with fail
    refine (push_c p k s _ H.out hs hf).mono ?_
    rintro e w1 ⟨rfl, h1, ho⟩
    have H1 := Lib.hid h1; have HO := Lib.hid ho
    clear h1 ho
    go_wp2_with fail
    go_ret
    exact ⟨rfl, H1.out, HO.out⟩
  · have hs' : mayM s = false := by simpa using hs
    go_wp2_with fail
    refine (push_bad _ s _ hs').mono ?_
    rintro e w1 ⟨rfl, rfl⟩
    go_wp2_with fail
    go_ret
    exact ⟨rfl, H.out, Only.refl _ _⟩
theorem turn_zero (p f : Nat) (a b c s : ByteArray) (w : World) (h : Blk w p 48 (kcells f 0 a b c)) :
    Calls Tryz.prog 17 #[.pointer (some ⟨p, 0, none⟩), .string s] w fun e w' => e = .returned (.int .i64 1) ∧ w = w' := by
  go_enter Tryz.func17, Tryz.ntmps17
  go_wp2_with fail
  refine (tnone_zero p f a b c _ h).mono ?_
  rintro e w' ⟨rfl, rfl⟩
  go_wp2_with fail
  go_ret
  exact ⟨rfl, rfl⟩
theorem turn_nil (s : ByteArray) (w : World) : Calls Tryz.prog 17 #[.pointer none, .string s] w fun e w' => e = .returned (.int .i64 1) ∧ w = w' := by
  go_enter Tryz.func17, Tryz.ntmps17
  go_wp2_with fail
  refine (tnone_nil _).mono ?_
  rintro e w' ⟨rfl, rfl⟩
  go_wp2_with fail
  go_ret
  exact ⟨rfl, rfl⟩
set_option maxHeartbeats 1000000 in
theorem tnew_c (s : ByteArray) (w : World) (hs : mayM s = true) :
    Calls Tryz.prog 25 #[.string s] w fun e w' => e = .returned (.tuple #[.pointer (some ⟨w.heap.size, 0, none⟩), .int .i64 0]) ∧ IsKeys w' w.heap.size ⟨0, [s]⟩ ∧ Below w.heap.size w w' := by
  have hb : Blk (w.alloc (.cells (kcells 0 0 emptyS emptyS emptyS) 48)) w.heap.size 48 (kcells 0 0 emptyS emptyS emptyS) := Blk.new _ _ _
  have HB := Lib.hid ((Below.refl w.heap.size w).alloc (Nat.le_refl _) (.cells (kcells 0 0 emptyS emptyS emptyS) 48))
  have H := Lib.hid hb
  clear hb
  go_enter Tryz.func25, Tryz.ntmps25
  go_wp2_with fail
  refine (push_low w.heap.size 0 0 emptyS emptyS emptyS s _ H.out (by decide) hs).mono ?_
  rintro e w1 ⟨rfl, hb1, ho⟩
  have H1 := Lib.hid hb1; have HO := Lib.hid (HB.out.trans (ho.below (B := w.heap.size) HB.out.size (Nat.le_refl _)))
  clear hb1 ho
  go_wp2_with fail
  go_ret2
  refine ⟨rfl, ⟨H1.out, by simp, by simp, fun m hm => ?_⟩, HO.out⟩
  simp at hm; subst hm; exact hs
set_option maxHeartbeats 1000000 in
theorem tnew_bad (s : ByteArray) (w : World) (hs : mayM s = false) :
    Calls Tryz.prog 25 #[.string s] w fun e w' => e = .returned (.tuple #[.pointer none, .int .i64 2]) ∧ Below w.heap.size w w' := by
  have HB := Lib.hid ((Below.refl w.heap.size w).alloc (Nat.le_refl _) (.cells (kcells 0 0 emptyS emptyS emptyS) 48))
  go_enter Tryz.func25, Tryz.ntmps25
  go_wp2_with fail
  refine (push_bad _ s _ hs).mono ?_
  rintro e w1 ⟨rfl, rfl⟩
  go_wp2_with fail
  go_ret2
  exact ⟨rfl, HB.out⟩
theorem newestk_c (p : Nat) (k : KS) (w : World) (h : IsKeys w p k) (hf : k.first ≤ 1000000000) :
    Calls Tryz.prog 18 #[.pointer (some ⟨p, 0, none⟩)] w fun e w' => e = .returned (.int .i64 (k.newest : Int)) ∧ Below w.heap.size w w' :=
  newest_c p k.first k.ms.length _ _ _ w h.blk h.pos h.len hf
theorem IsKeys.below {w w' : World} {p : Nat} {k : KS} (h : IsKeys w p k) (hb : Below w.heap.size w w') : IsKeys w' p k := ⟨h.blk.below hb h.blk.lt, h.pos, h.len, h.may⟩
end Go.Proofs.YtomnjhhpeglcnaaGreat
