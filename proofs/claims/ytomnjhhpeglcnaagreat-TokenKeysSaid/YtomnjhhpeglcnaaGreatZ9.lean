/- Contracts: keys are copied, keys are the same. -/
import Derived.Test.YtomnjhhpeglcnaaGreatZ8
import Derived.DeepKeys
namespace Go.Proofs.YtomnjhhpeglcnaaGreat
open Go.RowKit
set_option linter.unusedSimpArgs false
set_option linter.unusedVariables false
set_option maxRecDepth 100000

theorem info48 : (Tryz.prog.info? 48).map (·.size) = some 5 := by kernel_rfl
theorem KS.cells_one (k : KS) : k.cells.all (·.oneCell') = true := by simp [KS.cells, kcells, Value.oneCell']
set_option maxHeartbeats 1000000 in
theorem copyk_c (p : Nat) (k : KS) (w : World) (h : IsKeys w p k) :
    Calls Tryz.prog 19 #[.pointer (some ⟨p, 0, none⟩)] w fun e w' => (∃ b, e = .returned (.pointer (some ⟨b, 0, none⟩)) ∧ w.heap.size ≤ b ∧ IsKeys w' b k) ∧ Below w.heap.size w w' := by
  have H := Lib.hid h
  have HZ := Lib.hid (Blk.new w 48 (kcells 0 0 emptyS emptyS emptyS))
  have HB := Lib.hid ((Below.refl w.heap.size w).alloc (Nat.le_refl _) (.cells (kcells 0 0 emptyS emptyS emptyS) 48))
  clear h
  go_enter Tryz.func19, Tryz.ntmps19
  go_wp2_with fail
  refine (tnone_no p k.first k.ms.length _ _ _ _ H.out.blk H.out.pos).mono ?_
  rintro e w' ⟨rfl, rfl⟩
  go_wp2_with (first | (refine wpl_load_blk rfl 48 _ rfl p rfl 48 k.cells _ H.out.blk Tryz.underlying48 rfl info48 ?_) | (refine wpl_store_blk rfl 48 _ _ rfl w.heap.size 48 _ k.cells rfl rfl HZ.out rfl info48 k.cells_one ?_; intro w5 hB5 hO5 hz5))
  go_ret
  exact ⟨⟨_, rfl, Nat.le_refl _, hB5, H.out.pos, H.out.len, H.out.may⟩, HB.out.trans (hO5.below (B := w.heap.size) (by simp) (Nat.le_refl _))⟩
theorem copyk_nil (w : World) : Calls Tryz.prog 19 #[.pointer none] w fun e w' => e = .returned (.pointer none) ∧ w = w' := by
  go_enter Tryz.func19, Tryz.ntmps19
  go_wp2_with fail
  refine (tnone_nil _).mono ?_
  rintro e w' ⟨rfl, rfl⟩
  go_wp2_with fail
  go_ret
  exact ⟨rfl, rfl⟩
theorem copyk_zero (p f : Nat) (a b c : ByteArray) (w : World) (h : Blk w p 48 (kcells f 0 a b c)) : Calls Tryz.prog 19 #[.pointer (some ⟨p, 0, none⟩)] w fun e w' => e = .returned (.pointer none) ∧ w = w' := by
  go_enter Tryz.func19, Tryz.ntmps19
  go_wp2_with fail
  refine (tnone_zero p f a b c _ h).mono ?_
  rintro e w' ⟨rfl, rfl⟩
  go_wp2_with fail
  go_ret
  exact ⟨rfl, rfl⟩
/-- Keys that are none. -/
def NoKeys (w : World) (v : Value) : Prop := v = .pointer none ∨ ∃ p, v = .pointer (some ⟨p, 0, none⟩) ∧ Blk w p 48 (kcells 0 0 emptyS emptyS emptyS)
theorem NoKeys.none_c {w : World} {v : Value} (h : NoKeys w v) : Calls Tryz.prog 32 #[v] w fun e w' => e = .returned (.bool true) ∧ w = w' := by
  rcases h with rfl | ⟨p, rfl, h⟩
  · exact tnone_nil w
  · exact tnone_zero p 0 _ _ _ w h
theorem NoKeys.below {w w' : World} {v : Value} (h : NoKeys w v) (hb : Below w.heap.size w w') : NoKeys w' v := by
  rcases h with h | ⟨p, h, hk⟩
  · exact .inl h
  · exact .inr ⟨p, h, hk.below hb hk.lt⟩
set_option maxHeartbeats 1000000 in
theorem same_none (v v' : Value) (w : World) (h : NoKeys w v) (h' : NoKeys w v') : Calls Tryz.prog 20 #[v, v'] w fun e w' => e = .returned (.bool true) ∧ w = w' := by
  have H := Lib.hid h; have H' := Lib.hid h'
  clear h h'
  go_enter Tryz.func20, Tryz.ntmps20
  go_wp2_with fail
  refine H.out.none_c.mono ?_
  rintro e w' ⟨rfl, rfl⟩
  go_wp2_with fail
  refine H.out.none_c.mono ?_
  rintro e w' ⟨rfl, rfl⟩
  go_wp2_with fail
  refine H'.out.none_c.mono ?_
  rintro e w' ⟨rfl, rfl⟩
  go_wp2_with fail
  go_ret
  exact ⟨rfl, rfl⟩
set_option maxHeartbeats 1000000 in
theorem same_left (v : Value) (p : Nat) (k : KS) (w : World) (h : NoKeys w v) (hk : IsKeys w p k) : Calls Tryz.prog 20 #[v, .pointer (some ⟨p, 0, none⟩)] w fun e w' => e = .returned (.bool false) ∧ w = w' := by
  have H := Lib.hid h; have HK := Lib.hid hk
  clear h hk
  go_enter Tryz.func20, Tryz.ntmps20
  go_wp2_with fail
  refine H.out.none_c.mono ?_
  rintro e w' ⟨rfl, rfl⟩
  go_wp2_with fail
  refine H.out.none_c.mono ?_
  rintro e w' ⟨rfl, rfl⟩
  go_wp2_with fail
  refine (tnone_no p k.first k.ms.length _ _ _ _ HK.out.blk HK.out.pos).mono ?_
  rintro e w' ⟨rfl, rfl⟩
  go_wp2_with fail
  go_ret
  exact ⟨rfl, rfl⟩
set_option maxHeartbeats 1000000 in
theorem same_right (v : Value) (p : Nat) (k : KS) (w : World) (h : NoKeys w v) (hk : IsKeys w p k) : Calls Tryz.prog 20 #[.pointer (some ⟨p, 0, none⟩), v] w fun e w' => e = .returned (.bool false) ∧ w = w' := by
  have H := Lib.hid h; have HK := Lib.hid hk
  clear h hk
  go_enter Tryz.func20, Tryz.ntmps20
  go_wp2_with fail
  refine (tnone_no p k.first k.ms.length _ _ _ _ HK.out.blk HK.out.pos).mono ?_
  rintro e w' ⟨rfl, rfl⟩
  go_wp2_with fail
  refine H.out.none_c.mono ?_
  rintro e w' ⟨rfl, rfl⟩
  go_wp2_with fail
  refine (tnone_no p k.first k.ms.length _ _ _ _ HK.out.blk HK.out.pos).mono ?_
  rintro e w' ⟨rfl, rfl⟩
  go_wp2_with fail
  go_ret
  exact ⟨rfl, rfl⟩
theorem run_eql45 (f n f' n' : Nat) (W : World) : (binOp .eql 45 (.agg #[.int .i64 (f : Int), .int .i64 (n : Int)]) (.agg #[.int .i64 (f' : Int), .int .i64 (n' : Int)])).run Tryz.prog W = .ok (.bool (decide (f = f' ∧ n = n'))) W := by
  have h45 := Tryz.underlying45
  have h3 := Tryz.underlying3
  have h2 := Tryz.underlying2
  go_simp
  by_cases h1 : f = f'
  · by_cases h2 : n = n'
    · simp [h1, h2]
    · simp [h1, h2]; omega
  · simp [h1]; omega
theorem cells46 : Tryz.prog.cellsOf 46 = 3 := by kernel_rfl
theorem cells9 : Tryz.prog.cellsOf 9 = 1 := by kernel_rfl
theorem lits46 (a b c : ByteArray) (ha : a.size ≤ maxLen) (hb : b.size ≤ maxLen) (hc : c.size ≤ maxLen) : Tryz.prog.keyLits 2 46 [.string a, .string b, .string c] = some [.string a.data.toList, .string b.data.toList, .string c.data.toList] := by
  unfold Program.keyLits
  rw [Tryz.underlying46]
  simp only [cells46, cells9]
  simp [List.range, List.range.loop, Program.keyLits, Tryz.underlying9, ha, hb, hc]
theorem run_eql46 (a b c a' b' c' : ByteArray) (ha : a.size ≤ maxLen) (hb : b.size ≤ maxLen) (hc : c.size ≤ maxLen) (ha' : a'.size ≤ maxLen) (hb' : b'.size ≤ maxLen) (hc' : c'.size ≤ maxLen) (W : World) :
    (binOp .eql 46 (.agg #[.string a, .string b, .string c]) (.agg #[.string a', .string b', .string c'])).run Tryz.prog W = .ok (.bool (decide (a = a' ∧ b = b' ∧ c = c'))) W := by
  obtain ⟨r, hr, hi⟩ := run_equalIn_deep (P := Tryz.prog) 9998 2 46 (by kernel_rfl) W 2 2 (.agg #[.string a, .string b, .string c]) (.agg #[.string a', .string b', .string c']) _ _
    (by simp [Value.formed, Tryz.underlying46, cells46]) (by simp [Value.formed, Tryz.underlying46, cells46]) (lits46 a b c ha hb hc) (lits46 a' b' c' ha' hb' hc')
  have e : r = decide (a = a' ∧ b = b' ∧ c = c') := by
    rw [Bool.eq_iff_iff, hi, decide_eq_true_eq]
    simp
    constructor
    · rintro ⟨h1, h2, h3⟩; exact ⟨ByteArray.ext h1, ByteArray.ext h2, ByteArray.ext h3⟩
    · rintro ⟨rfl, rfl, rfl⟩; exact ⟨rfl, rfl, rfl⟩
  have hr2 : (Op.equalIn 10000 46 (.agg #[.string a, .string b, .string c]) (.agg #[.string a', .string b', .string c'])).run Tryz.prog W = .ok r W := hr
  rw [e] at hr2
  go_simp
theorem eql_op {t : TypeId} {x y : Operand} {a : Act} {xs ys : Array Value} {u : Bool} {dst : Option Tmp} {ty : TypeId} {pos : String} {after : Array Edge} {guard : Option (Nat × Bool)} {W : World}
    (h : (binOp .eql t (.agg xs) (.agg ys)).run Tryz.prog W = .ok (.bool u) W) (hx : a.eval x = .agg xs) (hy : a.eval y = .agg ys) (hm : Tryz.prog.eqGuardType Tryz.prog.depth t = false) :
    (execOp a.eval { dst, op := .binOp .eql t x y t, type := ty, pos, after, guard }).run Tryz.prog W = .ok (.value (.bool u)) W := by
  unfold execOp
  simp only [hx, hy]
  simp only [Sem.run_bind, run_eqGuard_agg _ _ _ _ _ _ _ hm, Result.andThen_ok, h, Sem.run_pure]
theorem rangeN {w : World} {p : Nat} {k : KS} (h : Blk w p 48 k.cells) : w.rangeAt p 0 [.int .i64 (k.first : Int), .int .i64 (k.ms.length : Int)] := fun j v hv => by
  match j with
  | 0 => simp at hv; subst hv; exact h.cell rfl
  | 1 => simp at hv; subst hv; exact h.cell rfl
  | j + 2 => simp at hv
theorem rangeM {w : World} {p : Nat} {k : KS} (h : Blk w p 48 k.cells) : w.rangeAt p 2 [.string (k.ms.getD 0 emptyS), .string (k.ms.getD 1 emptyS), .string (k.ms.getD 2 emptyS)] := fun j v hv => by
  match j with
  | 0 => simp at hv; subst hv; exact h.cell rfl
  | 1 => simp at hv; subst hv; exact h.cell rfl
  | 2 => simp at hv; subst hv; exact h.cell rfl
  | j + 3 => simp at hv
theorem IsKeys.size_at {w : World} {p : Nat} {k : KS} (h : IsKeys w p k) (j : Nat) : (k.ms.getD j emptyS).size ≤ maxLen := by
  rw [List.getD_eq_getElem?_getD]
  by_cases hj : j < k.ms.length
  · rw [List.getElem?_eq_getElem hj]
    have := h.may _ (List.getElem_mem hj)
    unfold mayM at this
    rw [decide_eq_true_eq] at this
    simp only [Option.getD_some]
    unfold maxLen; omega
  · rw [List.getElem?_eq_none (by omega)]
    exact Nat.zero_le _
theorem ms_eq {k k' : KS} (h3 : k.ms.length ≤ 3) (hl : k.ms.length = k'.ms.length) (h : k.ms.getD 0 emptyS = k'.ms.getD 0 emptyS ∧ k.ms.getD 1 emptyS = k'.ms.getD 1 emptyS ∧ k.ms.getD 2 emptyS = k'.ms.getD 2 emptyS) : k.ms = k'.ms := by
  apply List.ext_getElem hl
  intro i h1 h2
  have e : ∀ j, j < 3 → k.ms.getD j emptyS = k'.ms.getD j emptyS := fun j hj => by
    rcases (by omega : j = 0 ∨ j = 1 ∨ j = 2) with rfl | rfl | rfl
    · exact h.1
    · exact h.2.1
    · exact h.2.2
  have := e i (by omega)
  simpa [List.getD_eq_getElem?_getD, List.getElem?_eq_getElem h1, List.getElem?_eq_getElem h2] using this
set_option maxHeartbeats 4000000 in
theorem samek_c (p p' : Nat) (k k' : KS) (w : World) (h : IsKeys w p k) (h' : IsKeys w p' k') :
    Calls Tryz.prog 20 #[.pointer (some ⟨p, 0, none⟩), .pointer (some ⟨p', 0, none⟩)] w fun e w' => e = .returned (.bool (decide (k.first = k'.first ∧ k.ms = k'.ms))) ∧ Below w.heap.size w w' := by
  have H := Lib.hid h; have H' := Lib.hid h'
  obtain ⟨c0, c1, c2, c3, c4⟩ := kc_cells h.blk
  obtain ⟨d0, d1, d2, d3, d4⟩ := kc_cells h'.blk
  clear h h'
  go_enter Tryz.func20, Tryz.ntmps20
  go_wp2_with fail
  refine (tnone_no p k.first k.ms.length _ _ _ _ H.out.blk H.out.pos).mono ?_
  rintro e w' ⟨rfl, rfl⟩
  go_wp2_with fail
  refine (tnone_no p' k'.first k'.ms.length _ _ _ _ H'.out.blk H'.out.pos).mono ?_
  rintro e w' ⟨rfl, rfl⟩
  go_wp2_with fail
  have hS0 : (fun W => Blk W p 48 k.cells ∧ Blk W p' 48 k'.cells) w.drew := ⟨H.out.blk.drew, H'.out.blk.drew⟩
  clear c0 c1 c2 c3 c4 d0 d1 d2 d3 d4
  by_cases hu : k.first = k'.first ∧ k.ms.length = k'.ms.length
  · have HE := Lib.hid hu
    have HU : Hid (decide (k.first = k'.first ∧ k.ms.length = k'.ms.length) = true) := Lib.hid (decide_eq_true hu)
    clear hu
    refine wp_region_held_drew (S := (fun W => Blk W p 48 k.cells ∧ Blk W p' 48 k'.cells)) (by kernel_rfl) hS0 ?_
    intro hS0'
    refine wpAnyH_take (i := 0) (v := .pointer (some ⟨p, 0, none⟩)) rfl (by kernel_rfl) (by kernel_rfl) (by kernel_rfl) (fun _ _ _ h => h) (Or.inl ⟨by kernel_rfl, fun w hSw => ?_⟩) hS0' ?_
    · go_simp
    try simp only [Act.put, List.getElem_toArray, List.getElem_cons_succ, List.getElem_cons_zero, List.setIfInBounds_toArray, List.set_cons_zero, List.set_cons_succ]
    refine wpAnyH_take (i := 1) (v := .pointer (some ⟨p, 0, none⟩)) rfl (by kernel_rfl) (by kernel_rfl) (by kernel_rfl) (fun _ _ _ h => h) (Or.inl ⟨by kernel_rfl, fun w hSw => ?_⟩) hS0' ?_
    · go_simp
    try simp only [Act.put, List.getElem_toArray, List.getElem_cons_succ, List.getElem_cons_zero, List.setIfInBounds_toArray, List.set_cons_zero, List.set_cons_succ]
    refine wpAnyH_take (i := 2) (v := .pointer (some ⟨p, 0, none⟩)) rfl (by kernel_rfl) (by kernel_rfl) (by kernel_rfl) (fun _ _ _ h => h) (Or.inl ⟨by kernel_rfl, fun w hSw => ?_⟩) hS0' ?_
    · go_simp
    try simp only [Act.put, List.getElem_toArray, List.getElem_cons_succ, List.getElem_cons_zero, List.setIfInBounds_toArray, List.set_cons_zero, List.set_cons_succ]
    refine wpAnyH_take (i := 3) (v := .agg #[.int .i64 (k.first : Int), .int .i64 (k.ms.length : Int)]) rfl (by kernel_rfl) (by kernel_rfl) (by kernel_rfl) (fun _ _ _ h => h) ?_ hS0' ?_
    · exact yieldsIf_load_mid (by kernel_rfl) 45 _ rfl p 0 (by kernel_rfl) [.int .i64 (k.first : Int), .int .i64 (k.ms.length : Int)] _ (fun _ h => rangeN h.1) Tryz.underlying45 rfl (by kernel_rfl)
    try simp only [Act.put, List.getElem_toArray, List.getElem_cons_succ, List.getElem_cons_zero, List.setIfInBounds_toArray, List.set_cons_zero, List.set_cons_succ]
    refine wpAnyH_take (i := 4) (v := .pointer (some ⟨p', 0, none⟩)) rfl (by kernel_rfl) (by kernel_rfl) (by kernel_rfl) (fun _ _ _ h => h) (Or.inl ⟨by kernel_rfl, fun w hSw => ?_⟩) hS0' ?_
    · go_simp
    try simp only [Act.put, List.getElem_toArray, List.getElem_cons_succ, List.getElem_cons_zero, List.setIfInBounds_toArray, List.set_cons_zero, List.set_cons_succ]
    refine wpAnyH_take (i := 5) (v := .pointer (some ⟨p', 0, none⟩)) rfl (by kernel_rfl) (by kernel_rfl) (by kernel_rfl) (fun _ _ _ h => h) (Or.inl ⟨by kernel_rfl, fun w hSw => ?_⟩) hS0' ?_
    · go_simp
    try simp only [Act.put, List.getElem_toArray, List.getElem_cons_succ, List.getElem_cons_zero, List.setIfInBounds_toArray, List.set_cons_zero, List.set_cons_succ]
    refine wpAnyH_take (i := 6) (v := .pointer (some ⟨p', 0, none⟩)) rfl (by kernel_rfl) (by kernel_rfl) (by kernel_rfl) (fun _ _ _ h => h) (Or.inl ⟨by kernel_rfl, fun w hSw => ?_⟩) hS0' ?_
    · go_simp
    try simp only [Act.put, List.getElem_toArray, List.getElem_cons_succ, List.getElem_cons_zero, List.setIfInBounds_toArray, List.set_cons_zero, List.set_cons_succ]
    refine wpAnyH_take (i := 7) (v := .agg #[.int .i64 (k'.first : Int), .int .i64 (k'.ms.length : Int)]) rfl (by kernel_rfl) (by kernel_rfl) (by kernel_rfl) (fun _ _ _ h => h) ?_ hS0' ?_
    · exact yieldsIf_load_mid (by kernel_rfl) 45 _ rfl p' 0 (by kernel_rfl) [.int .i64 (k'.first : Int), .int .i64 (k'.ms.length : Int)] _ (fun _ h => rangeN h.2) Tryz.underlying45 rfl (by kernel_rfl)
    try simp only [Act.put, List.getElem_toArray, List.getElem_cons_succ, List.getElem_cons_zero, List.setIfInBounds_toArray, List.set_cons_zero, List.set_cons_succ]
    refine wpAnyH_take (i := 8) (v := .bool true) rfl (by kernel_rfl) (by kernel_rfl) (by kernel_rfl) (fun _ _ _ h => h) ?_ hS0' ?_
    · exact .inl ⟨by kernel_rfl, fun W _ => eql_op (by have q := run_eql45 k.first k.ms.length k'.first k'.ms.length W; rw [HU.out] at q; exact q) (by kernel_rfl) (by kernel_rfl) (by kernel_rfl)⟩
    try simp only [Act.put, List.getElem_toArray, List.getElem_cons_succ, List.getElem_cons_zero, List.setIfInBounds_toArray, List.set_cons_zero, List.set_cons_succ]
    refine wpAnyH_take (i := 9) (v := .bool true) rfl (by kernel_rfl) (by kernel_rfl) (by kernel_rfl) (fun _ _ _ h => h) (Or.inl ⟨by kernel_rfl, fun w hSw => ?_⟩) hS0' ?_
    · go_simp
    try simp only [Act.put, List.getElem_toArray, List.getElem_cons_succ, List.getElem_cons_zero, List.setIfInBounds_toArray, List.set_cons_zero, List.set_cons_succ]
    refine wpAnyH_take (i := 10) (v := .pointer (some ⟨p, 0, none⟩)) rfl (by kernel_rfl) (by kernel_rfl) (by kernel_rfl) (fun _ _ _ h => h) (Or.inl ⟨by kernel_rfl, fun w hSw => ?_⟩) hS0' ?_
    · go_simp
    try simp only [Act.put, List.getElem_toArray, List.getElem_cons_succ, List.getElem_cons_zero, List.setIfInBounds_toArray, List.set_cons_zero, List.set_cons_succ]
    refine wpAnyH_take (i := 11) (v := .pointer (some ⟨p, 0, none⟩)) rfl (by kernel_rfl) (by kernel_rfl) (by kernel_rfl) (fun _ _ _ h => h) (Or.inl ⟨by kernel_rfl, fun w hSw => ?_⟩) hS0' ?_
    · go_simp
    try simp only [Act.put, List.getElem_toArray, List.getElem_cons_succ, List.getElem_cons_zero, List.setIfInBounds_toArray, List.set_cons_zero, List.set_cons_succ]
    refine wpAnyH_take (i := 12) (v := .pointer (some ⟨p, 2, none⟩)) rfl (by kernel_rfl) (by kernel_rfl) (by kernel_rfl) (fun _ _ _ h => h) (Or.inl ⟨by kernel_rfl, fun w hSw => ?_⟩) hS0' ?_
    · go_simp
    try simp only [Act.put, List.getElem_toArray, List.getElem_cons_succ, List.getElem_cons_zero, List.setIfInBounds_toArray, List.set_cons_zero, List.set_cons_succ]
    refine wpAnyH_take (i := 13) (v := .agg #[.string (k.ms.getD 0 emptyS), .string (k.ms.getD 1 emptyS), .string (k.ms.getD 2 emptyS)]) rfl (by kernel_rfl) (by kernel_rfl) (by kernel_rfl) (fun _ _ _ h => h) ?_ hS0' ?_
    · exact yieldsIf_load_mid (by kernel_rfl) 46 _ rfl p 2 (by kernel_rfl) [.string (k.ms.getD 0 emptyS), .string (k.ms.getD 1 emptyS), .string (k.ms.getD 2 emptyS)] _ (fun _ h => rangeM h.1) Tryz.underlying46 rfl (by kernel_rfl)
    try simp only [Act.put, List.getElem_toArray, List.getElem_cons_succ, List.getElem_cons_zero, List.setIfInBounds_toArray, List.set_cons_zero, List.set_cons_succ]
    refine wpAnyH_take (i := 14) (v := .pointer (some ⟨p', 0, none⟩)) rfl (by kernel_rfl) (by kernel_rfl) (by kernel_rfl) (fun _ _ _ h => h) (Or.inl ⟨by kernel_rfl, fun w hSw => ?_⟩) hS0' ?_
    · go_simp
    try simp only [Act.put, List.getElem_toArray, List.getElem_cons_succ, List.getElem_cons_zero, List.setIfInBounds_toArray, List.set_cons_zero, List.set_cons_succ]
    refine wpAnyH_take (i := 15) (v := .pointer (some ⟨p', 0, none⟩)) rfl (by kernel_rfl) (by kernel_rfl) (by kernel_rfl) (fun _ _ _ h => h) (Or.inl ⟨by kernel_rfl, fun w hSw => ?_⟩) hS0' ?_
    · go_simp
    try simp only [Act.put, List.getElem_toArray, List.getElem_cons_succ, List.getElem_cons_zero, List.setIfInBounds_toArray, List.set_cons_zero, List.set_cons_succ]
    refine wpAnyH_take (i := 16) (v := .pointer (some ⟨p', 2, none⟩)) rfl (by kernel_rfl) (by kernel_rfl) (by kernel_rfl) (fun _ _ _ h => h) (Or.inl ⟨by kernel_rfl, fun w hSw => ?_⟩) hS0' ?_
    · go_simp
    try simp only [Act.put, List.getElem_toArray, List.getElem_cons_succ, List.getElem_cons_zero, List.setIfInBounds_toArray, List.set_cons_zero, List.set_cons_succ]
    refine wpAnyH_take (i := 17) (v := .agg #[.string (k'.ms.getD 0 emptyS), .string (k'.ms.getD 1 emptyS), .string (k'.ms.getD 2 emptyS)]) rfl (by kernel_rfl) (by kernel_rfl) (by kernel_rfl) (fun _ _ _ h => h) ?_ hS0' ?_
    · exact yieldsIf_load_mid (by kernel_rfl) 46 _ rfl p' 2 (by kernel_rfl) [.string (k'.ms.getD 0 emptyS), .string (k'.ms.getD 1 emptyS), .string (k'.ms.getD 2 emptyS)] _ (fun _ h => rangeM h.2) Tryz.underlying46 rfl (by kernel_rfl)
    try simp only [Act.put, List.getElem_toArray, List.getElem_cons_succ, List.getElem_cons_zero, List.setIfInBounds_toArray, List.set_cons_zero, List.set_cons_succ]
    refine wpAnyH_take (i := 18) (v := .bool (decide (k.ms.getD 0 emptyS = k'.ms.getD 0 emptyS ∧ k.ms.getD 1 emptyS = k'.ms.getD 1 emptyS ∧ k.ms.getD 2 emptyS = k'.ms.getD 2 emptyS))) rfl (by kernel_rfl) (by kernel_rfl) (by kernel_rfl) (fun _ _ _ h => h) ?_ hS0' ?_
    · exact .inl ⟨by kernel_rfl, fun W _ => eql_op (run_eql46 _ _ _ _ _ _ (H.out.size_at 0) (H.out.size_at 1) (H.out.size_at 2) (H'.out.size_at 0) (H'.out.size_at 1) (H'.out.size_at 2) W) (by kernel_rfl) (by kernel_rfl) (by kernel_rfl)⟩
    try simp only [Act.put, List.getElem_toArray, List.getElem_cons_succ, List.getElem_cons_zero, List.setIfInBounds_toArray, List.set_cons_zero, List.set_cons_succ]
    refine wpAnyH_take (i := 19) (v := .bool (decide (k.ms.getD 0 emptyS = k'.ms.getD 0 emptyS ∧ k.ms.getD 1 emptyS = k'.ms.getD 1 emptyS ∧ k.ms.getD 2 emptyS = k'.ms.getD 2 emptyS))) rfl (by kernel_rfl) (by kernel_rfl) (by kernel_rfl) (fun _ _ _ h => h) (Or.inl ⟨by kernel_rfl, fun w hSw => ?_⟩) hS0' ?_
    · go_simp
    try simp only [Act.put, List.getElem_toArray, List.getElem_cons_succ, List.getElem_cons_zero, List.setIfInBounds_toArray, List.set_cons_zero, List.set_cons_succ]
    refine wpAnyH_ready (rs := [20]) (by kernel_rfl) (by simp) ?_
    refine AllReadyH.cons (by rfl) ?_ AllReadyH.nil
    intro K hK
    go_simp
    refine hK.out _ _ hS0' (fun hS1 => ?_)
    clear hK K
    refine wpAnyH_done (by kernel_rfl) ?_ _
    go_wp2_with fail
    go_ret
    have hz : (decide (k.first = k'.first) && decide (k.ms = k'.ms)) = (decide (k.ms[0]?.getD emptyS = k'.ms[0]?.getD emptyS) && (decide (k.ms[1]?.getD emptyS = k'.ms[1]?.getD emptyS) && decide (k.ms[2]?.getD emptyS = k'.ms[2]?.getD emptyS))) := by
      rw [Bool.eq_iff_iff]
      simp only [Bool.and_eq_true, decide_eq_true_eq]
      constructor
      · intro e; rw [e.2]; exact ⟨rfl, rfl, rfl⟩
      · intro e; exact ⟨HE.out.1, ms_eq H.out.len HE.out.2 (by simpa [List.getD_eq_getElem?_getD] using e)⟩
    exact ⟨by rw [hz]; rfl, (Below.refl _ _).drew⟩
  · have HE := Lib.hid hu
    have HU : Hid (decide (k.first = k'.first ∧ k.ms.length = k'.ms.length) = false) := Lib.hid (decide_eq_false hu)
    clear hu
    refine wp_region_held_drew (S := (fun W => Blk W p 48 k.cells ∧ Blk W p' 48 k'.cells)) (by kernel_rfl) hS0 ?_
    intro hS0'
    refine wpAnyH_take (i := 0) (v := .pointer (some ⟨p, 0, none⟩)) rfl (by kernel_rfl) (by kernel_rfl) (by kernel_rfl) (fun _ _ _ h => h) (Or.inl ⟨by kernel_rfl, fun w hSw => ?_⟩) hS0' ?_
    · go_simp
    try simp only [Act.put, List.getElem_toArray, List.getElem_cons_succ, List.getElem_cons_zero, List.setIfInBounds_toArray, List.set_cons_zero, List.set_cons_succ]
    refine wpAnyH_take (i := 1) (v := .pointer (some ⟨p, 0, none⟩)) rfl (by kernel_rfl) (by kernel_rfl) (by kernel_rfl) (fun _ _ _ h => h) (Or.inl ⟨by kernel_rfl, fun w hSw => ?_⟩) hS0' ?_
    · go_simp
    try simp only [Act.put, List.getElem_toArray, List.getElem_cons_succ, List.getElem_cons_zero, List.setIfInBounds_toArray, List.set_cons_zero, List.set_cons_succ]
    refine wpAnyH_take (i := 2) (v := .pointer (some ⟨p, 0, none⟩)) rfl (by kernel_rfl) (by kernel_rfl) (by kernel_rfl) (fun _ _ _ h => h) (Or.inl ⟨by kernel_rfl, fun w hSw => ?_⟩) hS0' ?_
    · go_simp
    try simp only [Act.put, List.getElem_toArray, List.getElem_cons_succ, List.getElem_cons_zero, List.setIfInBounds_toArray, List.set_cons_zero, List.set_cons_succ]
    refine wpAnyH_take (i := 3) (v := .agg #[.int .i64 (k.first : Int), .int .i64 (k.ms.length : Int)]) rfl (by kernel_rfl) (by kernel_rfl) (by kernel_rfl) (fun _ _ _ h => h) ?_ hS0' ?_
    · exact yieldsIf_load_mid (by kernel_rfl) 45 _ rfl p 0 (by kernel_rfl) [.int .i64 (k.first : Int), .int .i64 (k.ms.length : Int)] _ (fun _ h => rangeN h.1) Tryz.underlying45 rfl (by kernel_rfl)
    try simp only [Act.put, List.getElem_toArray, List.getElem_cons_succ, List.getElem_cons_zero, List.setIfInBounds_toArray, List.set_cons_zero, List.set_cons_succ]
    refine wpAnyH_take (i := 4) (v := .pointer (some ⟨p', 0, none⟩)) rfl (by kernel_rfl) (by kernel_rfl) (by kernel_rfl) (fun _ _ _ h => h) (Or.inl ⟨by kernel_rfl, fun w hSw => ?_⟩) hS0' ?_
    · go_simp
    try simp only [Act.put, List.getElem_toArray, List.getElem_cons_succ, List.getElem_cons_zero, List.setIfInBounds_toArray, List.set_cons_zero, List.set_cons_succ]
    refine wpAnyH_take (i := 5) (v := .pointer (some ⟨p', 0, none⟩)) rfl (by kernel_rfl) (by kernel_rfl) (by kernel_rfl) (fun _ _ _ h => h) (Or.inl ⟨by kernel_rfl, fun w hSw => ?_⟩) hS0' ?_
    · go_simp
    try simp only [Act.put, List.getElem_toArray, List.getElem_cons_succ, List.getElem_cons_zero, List.setIfInBounds_toArray, List.set_cons_zero, List.set_cons_succ]
    refine wpAnyH_take (i := 6) (v := .pointer (some ⟨p', 0, none⟩)) rfl (by kernel_rfl) (by kernel_rfl) (by kernel_rfl) (fun _ _ _ h => h) (Or.inl ⟨by kernel_rfl, fun w hSw => ?_⟩) hS0' ?_
    · go_simp
    try simp only [Act.put, List.getElem_toArray, List.getElem_cons_succ, List.getElem_cons_zero, List.setIfInBounds_toArray, List.set_cons_zero, List.set_cons_succ]
    refine wpAnyH_take (i := 7) (v := .agg #[.int .i64 (k'.first : Int), .int .i64 (k'.ms.length : Int)]) rfl (by kernel_rfl) (by kernel_rfl) (by kernel_rfl) (fun _ _ _ h => h) ?_ hS0' ?_
    · exact yieldsIf_load_mid (by kernel_rfl) 45 _ rfl p' 0 (by kernel_rfl) [.int .i64 (k'.first : Int), .int .i64 (k'.ms.length : Int)] _ (fun _ h => rangeN h.2) Tryz.underlying45 rfl (by kernel_rfl)
    try simp only [Act.put, List.getElem_toArray, List.getElem_cons_succ, List.getElem_cons_zero, List.setIfInBounds_toArray, List.set_cons_zero, List.set_cons_succ]
    refine wpAnyH_take (i := 8) (v := .bool false) rfl (by kernel_rfl) (by kernel_rfl) (by kernel_rfl) (fun _ _ _ h => h) ?_ hS0' ?_
    · exact .inl ⟨by kernel_rfl, fun W _ => eql_op (by have q := run_eql45 k.first k.ms.length k'.first k'.ms.length W; rw [HU.out] at q; exact q) (by kernel_rfl) (by kernel_rfl) (by kernel_rfl)⟩
    try simp only [Act.put, List.getElem_toArray, List.getElem_cons_succ, List.getElem_cons_zero, List.setIfInBounds_toArray, List.set_cons_zero, List.set_cons_succ]
    refine wpAnyH_take (i := 9) (v := .bool false) rfl (by kernel_rfl) (by kernel_rfl) (by kernel_rfl) (fun _ _ _ h => h) (Or.inl ⟨by kernel_rfl, fun w hSw => ?_⟩) hS0' ?_
    · go_simp
    try simp only [Act.put, List.getElem_toArray, List.getElem_cons_succ, List.getElem_cons_zero, List.setIfInBounds_toArray, List.set_cons_zero, List.set_cons_succ]
    refine wpAnyH_take (i := 10) (v := undef) rfl (by kernel_rfl) (by kernel_rfl) (by kernel_rfl) (fun _ _ _ h => h) ?_ hS0' ?_
    · exact .inr ⟨by kernel_rfl, rfl⟩
    try simp only [Act.put, List.getElem_toArray, List.getElem_cons_succ, List.getElem_cons_zero, List.setIfInBounds_toArray, List.set_cons_zero, List.set_cons_succ]
    refine wpAnyH_take (i := 11) (v := undef) rfl (by kernel_rfl) (by kernel_rfl) (by kernel_rfl) (fun _ _ _ h => h) ?_ hS0' ?_
    · exact .inr ⟨by kernel_rfl, rfl⟩
    try simp only [Act.put, List.getElem_toArray, List.getElem_cons_succ, List.getElem_cons_zero, List.setIfInBounds_toArray, List.set_cons_zero, List.set_cons_succ]
    refine wpAnyH_take (i := 12) (v := undef) rfl (by kernel_rfl) (by kernel_rfl) (by kernel_rfl) (fun _ _ _ h => h) ?_ hS0' ?_
    · exact .inr ⟨by kernel_rfl, rfl⟩
    try simp only [Act.put, List.getElem_toArray, List.getElem_cons_succ, List.getElem_cons_zero, List.setIfInBounds_toArray, List.set_cons_zero, List.set_cons_succ]
    refine wpAnyH_take (i := 13) (v := undef) rfl (by kernel_rfl) (by kernel_rfl) (by kernel_rfl) (fun _ _ _ h => h) ?_ hS0' ?_
    · exact .inr ⟨by kernel_rfl, rfl⟩
    try simp only [Act.put, List.getElem_toArray, List.getElem_cons_succ, List.getElem_cons_zero, List.setIfInBounds_toArray, List.set_cons_zero, List.set_cons_succ]
    refine wpAnyH_take (i := 14) (v := undef) rfl (by kernel_rfl) (by kernel_rfl) (by kernel_rfl) (fun _ _ _ h => h) ?_ hS0' ?_
    · exact .inr ⟨by kernel_rfl, rfl⟩
    try simp only [Act.put, List.getElem_toArray, List.getElem_cons_succ, List.getElem_cons_zero, List.setIfInBounds_toArray, List.set_cons_zero, List.set_cons_succ]
    refine wpAnyH_take (i := 15) (v := undef) rfl (by kernel_rfl) (by kernel_rfl) (by kernel_rfl) (fun _ _ _ h => h) ?_ hS0' ?_
    · exact .inr ⟨by kernel_rfl, rfl⟩
    try simp only [Act.put, List.getElem_toArray, List.getElem_cons_succ, List.getElem_cons_zero, List.setIfInBounds_toArray, List.set_cons_zero, List.set_cons_succ]
    refine wpAnyH_take (i := 16) (v := undef) rfl (by kernel_rfl) (by kernel_rfl) (by kernel_rfl) (fun _ _ _ h => h) ?_ hS0' ?_
    · exact .inr ⟨by kernel_rfl, rfl⟩
    try simp only [Act.put, List.getElem_toArray, List.getElem_cons_succ, List.getElem_cons_zero, List.setIfInBounds_toArray, List.set_cons_zero, List.set_cons_succ]
    refine wpAnyH_take (i := 17) (v := undef) rfl (by kernel_rfl) (by kernel_rfl) (by kernel_rfl) (fun _ _ _ h => h) ?_ hS0' ?_
    · exact .inr ⟨by kernel_rfl, rfl⟩
    try simp only [Act.put, List.getElem_toArray, List.getElem_cons_succ, List.getElem_cons_zero, List.setIfInBounds_toArray, List.set_cons_zero, List.set_cons_succ]
    refine wpAnyH_take (i := 18) (v := undef) rfl (by kernel_rfl) (by kernel_rfl) (by kernel_rfl) (fun _ _ _ h => h) ?_ hS0' ?_
    · exact .inr ⟨by kernel_rfl, rfl⟩
    try simp only [Act.put, List.getElem_toArray, List.getElem_cons_succ, List.getElem_cons_zero, List.setIfInBounds_toArray, List.set_cons_zero, List.set_cons_succ]
    refine wpAnyH_take (i := 19) (v := .bool false) rfl (by kernel_rfl) (by kernel_rfl) (by kernel_rfl) (fun _ _ _ h => h) (Or.inl ⟨by kernel_rfl, fun w hSw => ?_⟩) hS0' ?_
    · go_simp
    try simp only [Act.put, List.getElem_toArray, List.getElem_cons_succ, List.getElem_cons_zero, List.setIfInBounds_toArray, List.set_cons_zero, List.set_cons_succ]
    refine wpAnyH_ready (rs := [20]) (by kernel_rfl) (by simp) ?_
    refine AllReadyH.cons (by rfl) ?_ AllReadyH.nil
    intro K hK
    go_simp
    refine hK.out _ _ hS0' (fun hS1 => ?_)
    clear hK K
    refine wpAnyH_done (by kernel_rfl) ?_ _
    go_wp2_with fail
    go_ret
    have hz : (decide (k.first = k'.first) && decide (k.ms = k'.ms)) = false := by
      rw [← Bool.decide_and]
      exact decide_eq_false (fun e => HE.out ⟨e.1, by rw [e.2]⟩)
    exact ⟨by rw [hz]; rfl, (Below.refl _ _).drew⟩
end Go.Proofs.YtomnjhhpeglcnaaGreat
