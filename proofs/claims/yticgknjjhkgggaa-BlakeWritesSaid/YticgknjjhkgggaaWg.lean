/- Press, plain; copies into a block. -/
import Derived.Test.YticgknjjhkgggaaWf
import Derived.Laws.CopyOwn
namespace Go.Proofs.Yticgknjjhkgggaa
open Go.RowKit

/-- Press, plain. -/
def msgW (b : List By) (i : Nat) : Wo := BitVec.ofNat 32 (wordN (b.getD (4 * i) 0#8) (b.getD (4 * i + 1) 0#8) (b.getD (4 * i + 2) 0#8) (b.getD (4 * i + 3) 0#8))
theorem msgW_toNat (b : List By) (i : Nat) : (msgW b i).toNat = wordN (b.getD (4 * i) 0#8) (b.getD (4 * i + 1) 0#8) (b.getD (4 * i + 2) 0#8) (b.getD (4 * i + 3) 0#8) := by
  unfold msgW; rw [BitVec.toNat_ofNat, Nat.mod_eq_of_lt (wordN_lt _ _ _ _)]
def mfill (b : List By) : Nat → List Wo
  | 0 => List.replicate 16 0#32
  | k + 1 => (mfill b k).set k (msgW b k)
theorem mfill_len (b : List By) (k : Nat) : (mfill b k).length = 16 := by
  induction k with
  | zero => simp [mfill]
  | succ k ih => rw [mfill, List.length_set, ih]
def vnot (V : List Wo) (last : Bool) : List Wo := if last then V.set 14 (~~~ V.getD 14 0#32) else V
def vx (V : List Wo) (k : Nat) (x : Wo) : List Wo := V.set k (V.getD k 0#32 ^^^ x)
def v0 (h : List Wo) (n : Nat) (last : Bool) : List Wo := vnot (vx (vx (h ++ iv) 12 (BitVec.ofNat 32 n)) 13 (BitVec.ofNat 32 (n / 4294967296))) last
def roundAt (M : List Wo) (o : List Nat) (V : List Wo) (k : Nat) : List Wo :=
  mixAt V (M.getD (o.getD (2 * k) 0) 0#32) (M.getD (o.getD (2 * k + 1) 0) 0#32) (k % 4) (4 + (k % 4 + k / 4) % 4) (8 + (k % 4 + 2 * (k / 4)) % 4) (12 + (k % 4 + 3 * (k / 4)) % 4)
def turnK (M : List Wo) (o : List Nat) (V : List Wo) : Nat → List Wo
  | 0 => V
  | k + 1 => roundAt M o (turnK M o V k) k
def turns (M : List Wo) (V : List Wo) : Nat → List Wo
  | 0 => V
  | n + 1 => turnK M (ordN.getD n []) (turns M V n) 8
def fin (h V : List Wo) : Nat → List Wo
  | 0 => h
  | k + 1 => (fin h V k).set k ((fin h V k).getD k 0#32 ^^^ (V.getD k 0#32 ^^^ V.getD (k + 8) 0#32))
/-- What is pressed out of a state, a block, a count, and whether it is the last one. -/
def press (h : List Wo) (b : List By) (n : Nat) (last : Bool) : List Wo := fin h (turns (mfill b 16) (v0 h n last) 10) 8
theorem mixAt_len (V : List Wo) (x y : Wo) (p0 p1 p2 p3 : Nat) : (mixAt V x y p0 p1 p2 p3).length = V.length := by simp [mixAt]
theorem turnK_len (M : List Wo) (o : List Nat) (V : List Wo) (k : Nat) : (turnK M o V k).length = V.length := by
  induction k with
  | zero => rfl
  | succ k ih => rw [turnK, roundAt, mixAt_len, ih]
theorem turns_len (M V : List Wo) (n : Nat) : (turns M V n).length = V.length := by
  induction n with
  | zero => rfl
  | succ n ih => rw [turns, turnK_len, ih]
theorem vx_len (V : List Wo) (k : Nat) (x : Wo) : (vx V k x).length = V.length := by simp [vx]
theorem vnot_len (V : List Wo) (l : Bool) : (vnot V l).length = V.length := by cases l <;> simp [vnot]
theorem v0_len (h : List Wo) (n : Nat) (l : Bool) (hh : h.length = 8) : (v0 h n l).length = 16 := by
  rw [v0, vnot_len, vx_len, vx_len, List.length_append, hh]; rfl
theorem fin_len (h V : List Wo) (k : Nat) : (fin h V k).length = h.length := by
  induction k with
  | zero => rfl
  | succ k ih => rw [fin, List.length_set, ih]
theorem press_len (h : List Wo) (b : List By) (n : Nat) (l : Bool) : (press h b n l).length = h.length := fin_len _ _ _

/-- Bytes as cells. -/
def bya (l : List By) : Array Value := (l.map fun x => Value.int .u8 (x.toNat : Int)).toArray
theorem bya_size (l : List By) : (bya l).size = l.length := by simp [bya]
theorem bya_get {l : List By} {k : Nat} (h : k < l.length) : (bya l)[k]? = some (.int .u8 ((l.getD k 0#8).toNat : Int)) := by
  simp [bya, h]
theorem bya_one (l : List By) : (bya l).all (·.oneCell') = true := by
  simp [bya, Value.oneCell']
theorem blk_bya {w : World} {g : Nat} {t : TypeId} {l : List By} {k : Nat} (h : Blk w g t (bya l)) (hk : k < l.length) : w.cell? ⟨g, k, none⟩ = some (.int .u8 ((l.getD k 0#8).toNat : Int)) := h.cell (bya_get hk)

/-- Cells out of which are copied into a block: the block is known whole behind it. -/
theorem setRow_blk {w : World} {g : Nat} {t : TypeId} {cur : Array Value} (h : Blk w g t cur) (cs : Array Value) : Blk (w.setRow g cs) g t cs := setRow_heap w g _ _ t _ h
theorem setRow_only (w : World) (g : Nat) (cs : Array Value) : Only g w (w.setRow g cs) :=
  ⟨rfl, rfl, rfl, by simp [World.setRow], fun i _ hn => setRow_other w g i cs (fun e => hn (by rw [e]))⟩
theorem setRow_size (w : World) (g : Nat) (cs : Array Value) : (w.setRow g cs).heap.size = w.heap.size := by simp [World.setRow]
theorem wpl_copy_blk {P : Program} {w : World} {ops : Array Oper} {rest : List Oper} {o : Oper} {a : Act} {Q : Exit → Act → World → Prop} (hgd : o.guard = none) (d s : Operand) (dT sT : TypeId)
    (ho : o.op = .call { callee := .builtin .copy, args := #[d, s], argTypes := #[dT, sT] }) (elem : TypeId) (hu : P.underlying dT = some (.slice elem)) (hsz : (P.info? elem).map (·.size) = some 1)
    (g off dLen dCap : Nat) (ad : Addr) (sLen sCap : Nat) (hd : a.eval d = .slice (some ⟨g, off, none⟩) dLen dCap) (hs : a.eval s = .slice (some ad) sLen sCap)
    (cur : List Value) (t : TypeId) (hg : Blk w g t cur.toArray) (cs : List Value) (hn : cs.length = Nat.min sLen dLen)
    (hsrc : ∀ j v, cs[j]? = some v → w.cell? (ad.add j) = some v) (hfit : off + cs.length ≤ cur.length) (h1 : ∀ v ∈ cs, v.oneCell' = true)
    (h : ∀ w', Blk w' g t (cur.take off ++ (cs ++ cur.drop (off + cs.length))).toArray → Only g w w' → w'.heap.size = w.heap.size → wpList P ops Q rest (a.put o.dst (goInt cs.length)) w') : wpList P ops Q (o :: rest) a w := by
  refine wpList_copy_own hgd d s dT sT ho elem hu hsz g off dLen dCap ad sLen sCap hd hs cur.toArray t hg cs hn hsrc (by simpa using hfit) h1 ?_
  exact h _ (setRow_blk hg _) (setRow_only _ _ _) (setRow_size _ _ _)
theorem index69 (n : Nat) (h : n < 10) (w : World) : (Instr.index 69 (.agg (ints ordN.flatten)) (.int .i64 (n : Int))).run Try.prog w = .ok (.agg (ints (ordN.getD n []))) w := by
  match n, h with
  | 0, _ => (show _ = _; kernel_rfl)
  | 1, _ => (show _ = _; kernel_rfl)
  | 2, _ => (show _ = _; kernel_rfl)
  | 3, _ => (show _ = _; kernel_rfl)
  | 4, _ => (show _ = _; kernel_rfl)
  | 5, _ => (show _ = _; kernel_rfl)
  | 6, _ => (show _ = _; kernel_rfl)
  | 7, _ => (show _ = _; kernel_rfl)
  | 8, _ => (show _ = _; kernel_rfl)
  | 9, _ => (show _ = _; kernel_rfl)
theorem ordN_len (n : Nat) (h : n < 10) : (ordN.getD n []).length = 16 := by
  match n, h with
  | 0, _ => rfl
  | 1, _ => rfl
  | 2, _ => rfl
  | 3, _ => rfl
  | 4, _ => rfl
  | 5, _ => rfl
  | 6, _ => rfl
  | 7, _ => rfl
  | 8, _ => rfl
  | 9, _ => rfl
theorem ordN_lt (n k : Nat) : (ordN.getD n []).getD k 0 < 16 := by
  have h : ∀ l ∈ ordN, ∀ x ∈ l, x < 16 := by decide
  rw [List.getD_eq_getElem?_getD, List.getD_eq_getElem?_getD]
  cases hn : ordN[n]? with
  | none => simp
  | some l =>
    cases hk : l[k]? with
    | none => simp [hk]
    | some x => simpa [hk] using h l (List.mem_of_getElem? hn) x (List.mem_of_getElem? hk)
theorem ints_get {l : List Nat} {k : Nat} (h : k < l.length) : (ints l)[k]? = some (.int .i64 ((l.getD k 0 : Nat) : Int)) := by
  simp [ints, h]
theorem blk_ints {w : World} {g : Nat} {t : TypeId} {l : List Nat} {k : Nat} (h : Blk w g t (ints l)) (hk : k < l.length) : w.cell? ⟨g, k, none⟩ = some (.int .i64 ((l.getD k 0 : Nat) : Int)) := h.cell (ints_get hk)
theorem ints_one (l : List Nat) : (ints l).all (·.oneCell') = true := by simp [ints, Value.oneCell']
theorem ints_size (l : List Nat) : (ints l).size = l.length := by simp [ints]
end Go.Proofs.Yticgknjjhkgggaa
