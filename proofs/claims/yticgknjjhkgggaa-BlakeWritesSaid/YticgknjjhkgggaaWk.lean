/- Contracts: a state is pressed in memory. -/
import Derived.Test.YticgknjjhkgggaaWj
import Derived.Test.YticgknjjhkgggaaBy
namespace Go.Proofs.Yticgknjjhkgggaa
open Go.RowKit
set_option linter.unusedSimpArgs false
set_option linter.unusedVariables false

/-- A word as a cell. -/
def wcell (x : Wo) : Value := .int .u32 (x.toNat : Int)
/-- A state's cells, and what lies behind them. -/
def scells (h : List Wo) (n : Nat) (rest : List Value) : Array Value := (h.map wcell ++ .int .u64 (n : Int) :: rest).toArray
section
variable {h : List Wo} {n : Nat} {rest : List Value}
theorem scells_word (hh : h.length = 8) {k : Nat} (hk : k < 8) : (scells h n rest)[k]? = some (.int .u32 ((h.getD k 0#32).toNat : Int)) := by
  simp [scells, List.getElem?_append_left, hh, hk, wcell]
theorem scells_n (hh : h.length = 8) : (scells h n rest)[8]? = some (.int .u64 (n : Int)) := by
  simp [scells]
  rw [List.getElem?_append_right (by simp [hh])]
  simp [hh]
theorem scells_rest (hh : h.length = 8) (k : Nat) : (scells h n rest)[9 + k]? = rest[k]? := by
  simp [scells]
  rw [List.getElem?_append_right (by simp [hh]; omega)]
  simp only [List.length_map, hh]
  rw [show 9 + k - 8 = k + 1 by omega, List.getElem?_cons_succ]
theorem scells_size (hh : h.length = 8) : (scells h n rest).size = 9 + rest.length := by
  simp [scells, hh]; omega
theorem scells_setn (hh : h.length = 8) (m : Nat) : (scells h n rest).setIfInBounds 8 (.int .u64 (m : Int)) = scells h m rest := by
  simp only [scells, List.setIfInBounds_toArray]
  congr 1
  rw [List.set_append_right _ _ (by simp [hh])]
  simp [hh]
theorem scells_setw (hh : h.length = 8) (k : Nat) (hk : k < 8) (x : Wo) : (scells h n rest).setIfInBounds k (.int .u32 (x.toNat : Int)) = scells (h.set k x) n rest := by
  simp only [scells, List.setIfInBounds_toArray]
  congr 1
  rw [List.set_append_left _ _ (by simp [hh, hk]), List.map_set]
  rfl
theorem scells_rest_set (hh : h.length = 8) (k : Nat) (v : Value) : (scells h n rest).setIfInBounds (9 + k) v = scells h n (rest.set k v) := by
  simp only [scells, List.setIfInBounds_toArray]
  congr 1
  rw [List.set_append_right _ _ (by simp [hh]; omega)]
  simp only [List.length_map, hh]
  rw [show 9 + k - 8 = k + 1 by omega, List.set_cons_succ]
end
/-- The words of a state, as a range of its block. -/
theorem range_words {w : World} {g : Nat} {t : TypeId} {h : List Wo} {n : Nat} {rest : List Value} (hb : Blk w g t (scells h n rest)) (hh : h.length = 8) : w.rangeAt g 0 (ws h).toList := by
  have := World.rangeAt_of_block hb 0 8
  have e : ((scells h n rest).extract 0 (0 + 8)).toList = (ws h).toList := by
    simp [scells, ws, List.take_append_of_le_length, hh]
    intro a _; rfl
  rwa [e] at this
theorem there_words {w : World} {g : Nat} {t : TypeId} {h : List Wo} {n : Nat} {rest : List Value} (hb : Blk w g t (scells h n rest)) (hh : h.length = 8) : w.there g 0 8 := fun j hj => by
  rw [Nat.zero_add]
  exact ⟨by rw [hb.cell (scells_word hh hj)]; rfl, hb.frozen j⟩
/-- Words stored into a state. -/
theorem set_words {t : TypeId} {n : Nat} {rest : List Value} (g : Nat) (h h' : List Wo) (w : World) (hb : Blk w g t (scells h n rest)) (hh : h.length = 8) (hh' : h'.length = 8) :
    Blk (w.setCells g 0 (ws h').toList) g t (scells h' n rest) ∧ Only g w (w.setCells g 0 (ws h').toList) ∧ (w.setCells g 0 (ws h').toList).heap.size = w.heap.size := by
  obtain ⟨cs', h1, h2, h3, h4, h5⟩ := setCells_blk g t (ws h').toList 0 w _ hb
  have e : cs' = scells h' n rest := by
    apply Array.ext_getElem?
    intro i
    rw [h3 i]
    by_cases hi : i < 8
    · rw [if_pos ⟨Nat.zero_le _, by simp [ws, hh', hi], by rw [scells_size hh]; omega⟩, scells_word hh' hi]
      have := ws_get (l := h') (k := i) (by omega)
      simpa using this
    · rw [if_neg (by simp [ws, hh']; omega)]
      by_cases h8 : i = 8
      · subst h8; rw [scells_n hh, scells_n hh']
      · obtain ⟨k, rfl⟩ : ∃ k, i = 9 + k := ⟨i - 9, by omega⟩
        rw [scells_rest hh, scells_rest hh']
  subst e
  exact ⟨h1, h4, h5⟩
theorem wp_store_words {P : Program} {op : Oper} {a : Act} {w : World} {K : Act → World → Prop} {Q : Exit → Act → World → Prop} (ty : TypeId) (x y : Operand) (ho : op.op = .store ty x y)
    (g : Nat) {t : TypeId} {n : Nat} {rest : List Value} (h h' : List Wo) (hx : a.eval x = .pointer (some ⟨g, 0, none⟩)) (hy : a.eval y = .agg (ws h')) (hb : Blk w g t (scells h n rest)) (hh : h.length = 8) (hh' : h'.length = 8)
    (hi : (P.info? ty).map (·.size) = some 8)
    (hK : ∀ w', Blk w' g t (scells h' n rest) → Only g w w' → w'.heap.size = w.heap.size → K (a.put op.dst undef) w') : op.wp P a w K Q := by
  obtain ⟨k1, k2, k3⟩ := set_words g h h' w hb hh hh'
  have hs : (ws h').size = 8 := by rw [ws_size, hh']
  exact wp_store_mid ty x y ho g 0 (ws h') hx hy (by rw [hs]; exact there_words hb hh) (by rw [hs]; exact hi) (ws_one _) (hK _ k1 k2 k3)

/-! ### Bytes copied into a block -/
theorem splice_bya (d l : List By) : ((bl d).take 0 ++ bl l ++ (bl d).drop (0 + (bl l).length)).toArray = bya (l ++ d.drop l.length) := by
  simp [bya, bl, List.map_drop]
theorem bya_bl (l : List By) : bya l = (bl l).toArray := rfl
theorem run_copy_bys (w : World) (ty : TypeId) (gb : Nat) (d : List By) (t : TypeId) (a : Option Addr) (m c dl dc : Nat) (l : List By) (hb : Blk w gb t (bya d)) (hl : Bys w a m l) (hm : m ≤ dl) (hd : dl ≤ d.length) :
    ∃ w', (Builtin.copy_ #[0033, 0033] ty #[.slice (some ⟨gb, 0, none⟩) dl dc, .slice a m c]).run Try.prog w = .ok (goInt m) w' ∧ Blk w' gb t (bya (l ++ d.drop m)) ∧ Only gb w w' ∧ w'.heap.size = w.heap.size := by
  have hsz : (Try.prog.info? 0005).map (·.size) = some 1 := by kernel_rfl
  by_cases h0 : m = 0
  · subst h0
    have hn : l = [] := List.eq_nil_of_length_eq_zero hl.1
    subst hn
    exact ⟨w, run_copy_none w 0033 0033 ty 0005 _ a dl dc 0 c Try.underlying33 hsz (by simp), by simpa using hb, Only.refl _ _, rfl⟩
  · obtain ⟨g, off, rfl, hg, hc⟩ := hl.cells (by omega)
    have hml := hl.1
    have hrun := run_copy_row (P := Try.prog) w 0033 0033 ty 0005 gb 0 dl dc ⟨g, off, none⟩ m c (bya d) t (bl l) Try.underlying33 hsz hb (by rw [bl_len, hml]; exact (Nat.min_eq_left hm).symm) (fun j v hv => by
      rw [add_plain]
      simp only [bl, List.getElem?_map, Option.map_eq_some_iff] at hv
      obtain ⟨x, hx, rfl⟩ := hv
      exact hc j x hx) (by rw [bl_len, bya_size]; omega) (bl_one l)
    rw [bl_len, hml] at hrun
    refine ⟨_, hrun, ?_, setRow_only _ _ _, setRow_size _ _ _⟩
    have := setRow_blk hb (t := t) ((bya d).toList.take 0 ++ bl l ++ (bya d).toList.drop (0 + m)).toArray
    have e := splice_bya d l
    rw [bl_len, hml] at e
    have e2 : (bya d).toList = bl d := rfl
    rw [e2, e] at this
    rw [e2, e]
    exact this
theorem wp_copy_bys {o : Oper} {a : Act} {w : World} {K : Act → World → Prop} {Q : Exit → Act → World → Prop} (d s : Operand)
    (ho : o.op = .call { callee := .builtin .copy, args := #[d, s], argTypes := #[0033, 0033] })
    (gb : Nat) (D : List By) (t : TypeId) (ad : Option Addr) (m c dl dc : Nat) (l : List By) (hd : a.eval d = .slice (some ⟨gb, 0, none⟩) dl dc) (hs : a.eval s = .slice ad m c) (hb : Blk w gb t (bya D)) (hl : Bys w ad m l) (hm : m ≤ dl) (hD : dl ≤ D.length)
    (h : ∀ w', Blk w' gb t (bya (l ++ D.drop m)) → Only gb w w' → w'.heap.size = w.heap.size → K (a.put o.dst (.int .i64 (m : Int))) w') : o.wp Try.prog a w K Q := by
  obtain ⟨w', hrun, h2, h3, h4⟩ := run_copy_bys w o.type gb D t ad m c dl dc l hb hl hm hD
  unfold Oper.wp execOp
  simp only [ho, resolve, invoke, builtin, Sem.run_bind, Sem.run_pure, Result.andThen_ok, List.map_toArray, List.map_cons, List.map_nil, hd, hs, hrun]
  exact h w' h2 h3 h4
theorem wpl_copy_bys {ops : Array Oper} {rest : List Oper} {o : Oper} {a : Act} {w : World} {Q : Exit → Act → World → Prop} (hgd : o.guard = none) (d s : Operand)
    (ho : o.op = .call { callee := .builtin .copy, args := #[d, s], argTypes := #[0033, 0033] })
    (gb : Nat) (D : List By) (t : TypeId) (ad : Option Addr) (m c dl dc : Nat) (l : List By) (hd : a.eval d = .slice (some ⟨gb, 0, none⟩) dl dc) (hs : a.eval s = .slice ad m c) (hb : Blk w gb t (bya D)) (hl : Bys w ad m l) (hm : m ≤ dl) (hD : dl ≤ D.length)
    (h : ∀ w', Blk w' gb t (bya (l ++ D.drop m)) → Only gb w w' → w'.heap.size = w.heap.size → wpList Try.prog ops Q rest (a.put o.dst (.int .i64 (m : Int))) w') : wpList Try.prog ops Q (o :: rest) a w :=
  wpList_plain hgd fun _ hK => wp_copy_bys d s ho gb D t ad m c dl dc l hd hs hb hl hm hD fun w' h2 h3 h4 => hK _ _ (h w' h2 h3 h4)
theorem Bys.only {w w' : World} {a : Option Addr} {n g : Nat} {l : List By} (h : Bys w a n l) (hO : Only g w w') (hg : ∀ x off, a = some ⟨x, off, none⟩ → 0 < n → x ≠ g) : Bys w' a n l := by
  refine ⟨h.1, fun i c hi => ?_⟩
  obtain ⟨x, off, e, hx, hc⟩ := h.2 i c hi
  have hn : 0 < n := by have := (List.getElem?_eq_some_iff.1 hi).1; have := h.1; omega
  exact ⟨x, off, e, Nat.lt_of_lt_of_le hx hO.size, (World.cell?_of_block (a := ⟨x, off + i, none⟩) (hO.block x hx (fun e' => hg x off e hn (by injection e')))).trans hc⟩
/-- A block's bytes, with noughts behind. -/
def pad (l : List By) : List By := l ++ List.replicate (64 - l.length) 0#8
theorem pad_len (l : List By) (h : l.length ≤ 64) : (pad l).length = 64 := by simp [pad]; omega
theorem pad_copy (l : List By) (h : l.length ≤ 64) : l ++ (List.replicate 64 0#8).drop l.length = pad l := by
  rw [pad, List.drop_replicate]
theorem zero28 (w : World) : (zeroValue 0028).run Try.prog w = .ok (.agg (bya (List.replicate 64 0#8))) w := by kernel_rfl
end Go.Proofs.Yticgknjjhkgggaa
