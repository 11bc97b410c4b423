/- Contracts: a span put in among others. -/
import Derived.Test.YtlgpoaapmgcloaaSe
import Derived.Lib.Overlaps
import Derived.Lib.AppendZerosOnto
import Derived.Laws.CopyRow
namespace Go.Proofs.Ytlgpoaapmgcloaa
open Go.RowKit
set_option linter.unusedSimpArgs false
set_option linter.unusedVariables false
set_option maxRecDepth 100000

theorem overlaps_c (w : World) (G g o n c n' c' : Nat) (cs cur : Array Value) (hG : Blk w G 33 cs) (hg : Blk w g 33 cur) (hne : G ≠ g) (hcur : cur.size ≠ 0) :
    (callFunc 51 #[.slice (some ⟨G, 0, none⟩) n c, .slice (some ⟨g, o, none⟩) n' c']).run Try.prog w = .ok (.value (.bool false)) w := by
  obtain ⟨i0, hi, hz0, hz1, hz2⟩ := info_parts infoSp
  have hsa : w.shape? G = some (33, cs.size) := by unfold Blk at hG; simp [World.shape?, hG]
  have hsb : w.shape? g = some (33, cur.size) := by unfold Blk at hg; simp [World.shape?, hg]
  rw [run_callFunc_extern Try.func51 (by kernel_rfl) (by kernel_rfl) (by kernel_rfl) (e := Extern.SlicesOverlaps.overlaps #[22, 22] #[4]) (by kernel_rfl),
    Lib.run_overlaps_apart w 22 4 33 Try.underlying22 2 (fun w => by simp [sizeOf, typeInfo, hi, hz1]) ⟨G, 0, none⟩ ⟨g, o, none⟩ n c n' c' hne 33 33 cs.size cur.size hsa hsb hcur (hG.frozen 0) (hG.frozen cs.size)]
  rfl
theorem run_copy_sps (w : World) (dT sT ty : TypeId) (g o dLen dCap : Nat) (a : Addr) (sLen sCap : Nat) (cur : Array Value) (t : TypeId) (l : List Sp)
    (hu : Try.prog.underlying dT = some (.slice 33))
    (hg : Blk w g t cur) (hn : l.length = Nat.min sLen dLen)
    (hsrc : ∀ j v, (scs l)[j]? = some v → w.cell? (a.add j) = some v) (hfit : o + l.length * 2 ≤ cur.size) :
    (Builtin.copy_ #[dT, sT] ty #[.slice (some ⟨g, o, none⟩) dLen dCap, .slice (some a) sLen sCap]).run Try.prog w =
      .ok (goInt l.length) (w.setRow g (cur.toList.take o ++ scs l ++ cur.toList.drop (o + l.length * 2)).toArray) := by
  obtain ⟨i0, hi, hz0, hz1, hz2⟩ := info_parts infoSp
  have hl := run_loadCells_list (P := Try.prog) w a (scs l) hsrc
  have hst := run_storeCells_at Try.prog g o t (scs l) 0 cur w hg (by rw [scs_len]; simpa using hfit) (scs_one l)
  rw [scs_len] at hl hst
  simp [Builtin.copy_, run_underlying hu, Builtin.lenOf, Builtin.firstCells, sizeOf, typeInfo, hi, hz1, ← hn, hl, hst]
theorem ins_cells (C : List Value) (k : List Sp) (at_ : Nat) (y : Sp) (h : C.take (k.length * 2) = scs k) (hat : at_ ≤ k.length) (hC : (k.length + 1) * 2 ≤ C.length) (C1 : List Value) (h1 : C1 = C.take ((at_ + 1) * 2) ++ scs (k.drop at_) ++ C.drop ((at_ + 1) * 2 + (k.drop at_).length * 2)) :
    (C1.take (at_ * 2) ++ scs [y] ++ C1.drop (at_ * 2 + 1 * 2)).take ((k.length + 1) * 2) = scs (k.take at_ ++ y :: k.drop at_) ∧ C1.length = C.length := by
  have hk : scs k = scs (k.take at_) ++ scs (k.drop at_) := by rw [← scs_append, List.take_append_drop]
  have ht : C.take (at_ * 2) = scs (k.take at_) := by
    have e : C.take (at_ * 2) = (C.take (k.length * 2)).take (at_ * 2) := by rw [List.take_take]; congr 1; omega
    rw [e, h, hk, List.take_left' (by rw [scs_len, List.length_take]; omega)]
  have hlt : (C.take ((at_ + 1) * 2)).length = (at_ + 1) * 2 := by rw [List.length_take]; omega
  have hdl : (scs (k.drop at_)).length = (k.length - at_) * 2 := by rw [scs_len, List.length_drop]
  have e1 : C1.take (at_ * 2) = scs (k.take at_) := by
    rw [h1, List.append_assoc, List.take_append_of_le_length (by omega), List.take_take, ← ht]
    congr 1; omega
  have e2 : C1.drop (at_ * 2 + 1 * 2) = scs (k.drop at_) ++ C.drop ((at_ + 1) * 2 + (k.drop at_).length * 2) := by
    rw [h1, List.append_assoc, List.drop_append_of_le_length (by omega), List.drop_eq_nil_of_le (by omega), List.nil_append]
  refine ⟨?_, ?_⟩
  · rw [e1, e2]
    have e3 : scs (k.take at_ ++ y :: k.drop at_) = scs (k.take at_) ++ scs [y] ++ scs (k.drop at_) := by
      rw [scs_append, List.append_assoc]; rfl
    rw [e3, ← List.append_assoc (scs (k.take at_) ++ scs [y])]
    refine List.take_left' ?_
    rw [List.length_append, List.length_append, scs_len, scs_len, scs_len, List.length_take, List.length_drop]
    simp only [List.length_cons, List.length_nil]
    omega
  · rw [h1, List.length_append, List.length_append, List.length_take, List.length_drop, hdl]
    simp only [List.length_drop]
    omega
theorem own_of {W : World} {base g cap : Nat} {cur : Array Value} {m : List Sp} (hg : Blk W g 33 cur) (hb : base ≤ g) (hm : m.length ≤ cap) (hc : cap ≤ maxLen) (hs : cur.size = cap * 2) (ht : cur.toList.take (m.length * 2) = scs m) : OwnR W base (.slice (some ⟨g, 0, none⟩) m.length cap) m :=
  ⟨scs_len m, .inr ⟨g, cap, cur, rfl, hb, hg, hm, hc, hs, ht⟩⟩
set_option maxHeartbeats 4000000 in
theorem insert_end (v : Value) (k : List Sp) (base : Nat) (y : Sp) (G : Nat) (w : World) (hown : OwnR w base v k) (hk : k.length ≤ 1000000) (hG : Blk w G 33 #[.int .i64 y.f, .int .i64 y.t]) (hbase : base ≤ w.heap.size) :
    Calls Try.prog 33 #[v, .int .i64 (k.length : Int), .slice (some ⟨G, 0, none⟩) 1 1] w fun e w' => ∃ v', e = .returned v' ∧ OwnR w' base v' (k ++ [y]) ∧ Below base w w' := by
  obtain ⟨a, c, hv, hc, hsp, hlo⟩ := hown.sps
  obtain ⟨n, hn⟩ : ∃ n, n = k.length := ⟨_, rfl⟩
  have HO := Lib.hid hown
  have HY : Hid (Sps w (some ⟨G, 0, none⟩) 1 [y]) := Lib.hid ⟨rfl, fun i x hx => ⟨G, 0, rfl, hG.lt, by
    match i with
    | 0 => simp at hx; subst hx; exact ⟨hG.cell rfl, hG.cell rfl⟩
    | j + 1 => simp at hx⟩⟩
  have HN := Lib.hid hn
  rw [← hn] at hv hc ⊢
  have hsz : k.length + 1 ≤ 1000000000 := by omega
  have HV := Lib.hid hv
  clear hown hsp hlo hG hn
  subst hv
  have hin : (n : Int) ≤ (c : Int) := by omega
  by_cases hcn : c = n
  · subst hcn
    go_enter Try.func33, Try.ntmps33
    go_wp2_with (at_builtin; refine wpl_append_sps rfl _ _ 49 22 33 rfl Try.underlying49 Try.underlying22 base _ _ rfl HO.out (some ⟨G, 0, none⟩) 1 1 _ rfl HY.out hsz hbase ?_)
    intro v3 w3 ho3 hg3
    have hb3 := ownR_grown HO.out hg3 (Nat.le_refl _) hbase
    have HO3 := Lib.hid ho3
    have HB3 := Lib.hid hb3
    clear ho3 hg3 hb3
    go_wp2_with fail
    go_ret
    exact ⟨_, rfl, HO3.out, HB3.out⟩
  · have hcn2 : ¬ n = c := fun e => hcn e.symm
    go_enter Try.func33, Try.ntmps33
    go_wp2_with (at_builtin; refine wpl_append_sps rfl _ _ 49 22 33 rfl Try.underlying49 Try.underlying22 base _ _ rfl HO.out (some ⟨G, 0, none⟩) 1 1 _ rfl HY.out hsz hbase ?_)
    intro v3 w3 ho3 hg3
    have hb3 := ownR_grown HO.out hg3 (Nat.le_refl _) hbase
    have HO3 := Lib.hid ho3
    have HB3 := Lib.hid hb3
    clear ho3 hg3 hb3
    go_wp2_with fail
    go_ret
    exact ⟨_, rfl, HO3.out, HB3.out⟩
theorem setRow_blk {w : World} {g : Nat} {t : TypeId} {cur : Array Value} (h : Blk w g t cur) (new : Array Value) : Blk (w.setRow g new) g t new ∧ Only g w (w.setRow g new) :=
  ⟨setRow_heap w g cur new _ _ h, rfl, rfl, rfl, by simp [World.setRow], fun j _ hj => setRow_other w g j _ (fun e => hj (by rw [e]))⟩
theorem wpl_copy_sps {ops : Array Oper} {rest : List Oper} {o : Oper} {a : Act} {w : World} {Q : Exit → Act → World → Prop} (hgd : o.guard = none) (d s : Operand) (dT sT : TypeId)
    (ho : o.op = .call { callee := .builtin .copy, args := #[d, s], argTypes := #[dT, sT] }) (hu : Try.prog.underlying dT = some (.slice 33))
    (g off dLen dCap : Nat) (hd : a.eval d = .slice (some ⟨g, off, none⟩) dLen dCap) (ad : Addr) (sLen sCap : Nat) (hs : a.eval s = .slice (some ad) sLen sCap)
    (cur : Array Value) (t : TypeId) (l : List Sp) (hg : Blk w g t cur) (hsrc : ∀ j v, (scs l)[j]? = some v → w.cell? (ad.add j) = some v)
    (hn : l.length = Nat.min sLen dLen) (hfit : off + l.length * 2 ≤ cur.size)
    (h : ∀ w', w' = w.setRow g (cur.toList.take off ++ scs l ++ cur.toList.drop (off + l.length * 2)).toArray → wpList Try.prog ops Q rest (a.put o.dst (goInt l.length)) w') : wpList Try.prog ops Q (o :: rest) a w :=
  wpList_plain hgd fun _ hK => by
    have hrun := run_copy_sps w dT sT o.type g off dLen dCap ad sLen sCap cur t l hu hg hn hsrc hfit
    unfold Oper.wp execOp
    simp only [ho, resolve, invoke, builtin, Sem.run_bind, Sem.run_pure, Result.andThen_ok, List.map_toArray, List.map_cons, List.map_nil, hd, hs, hrun]
    exact hK _ _ (h _ rfl)
theorem src_of {w : World} {g o : Nat} {cur : Array Value} {t : TypeId} {l : List Sp} (h : Blk w g t cur) (hl : ∀ j v, (scs l)[j]? = some v → cur[o + j]? = some v) : ∀ j v, (scs l)[j]? = some v → w.cell? ((⟨g, o, none⟩ : Addr).add j) = some v := fun j v hj => by
  rw [add_plain]
  exact h.cell (hl j v hj)
set_option maxHeartbeats 4000000 in
theorem insert_room (g n c : Nat) (cur : Array Value) (k : List Sp) (base at_ : Nat) (y : Sp) (G : Nat) (w : World) (hg : Blk w g 33 cur) (hbg : base ≤ g) (hkn : k.length = n) (hc : c ≤ maxLen) (hcs : cur.size = c * 2) (ht : cur.toList.take (n * 2) = scs k)
    (hat : at_ < n) (hroom : n + 1 ≤ c) (hk : n ≤ 1000000) (hG : Blk w G 33 #[.int .i64 y.f, .int .i64 y.t]) (hGg : G ≠ g) :
    Calls Try.prog 33 #[.slice (some ⟨g, 0, none⟩) n c, .int .i64 (at_ : Int), .slice (some ⟨G, 0, none⟩) 1 1] w fun e w' => ∃ v', e = .returned v' ∧ OwnR w' base v' (k.take at_ ++ y :: k.drop at_) ∧ Below base w w' := by
  have hov : ∀ o lb cb, (callFunc 51 #[.slice (some ⟨G, 0, none⟩) 1 1, .slice (some ⟨g, o, none⟩) lb cb]).run Try.prog w = .ok (.value (.bool false)) w := fun o lb cb => overlaps_c w G g o 1 1 lb cb _ cur hG hg hGg (by omega)
  have HG := Lib.hid hg; have HGG := Lib.hid hG; have HT := Lib.hid ht; have HCS := Lib.hid hcs; have HKN := Lib.hid hkn
  have hz2 : ¬ ((at_ : Int) = (n : Int)) := by omega
  have hw1 : IntKind.i64.wrap ((at_ : Int) + 1) = (at_ : Int) + 1 := IntWalk.i64_in _ (by omega)
  have hw2 : IntKind.i64.wrap ((n : Int) + 1) = (n : Int) + 1 := IntWalk.i64_in _ (by omega)
  have hr1 : ¬ ((c : Int) < (n : Int) + 1) := by omega
  have hr2 : (n : Int) + 1 ≤ (c : Int) := by omega
  have hr3 : (at_ : Int) ≤ (n : Int) := by omega
  have hr4 : (at_ : Int) + 1 ≤ (n : Int) + 1 := by omega
  have hr5 : (at_ : Int) ≤ (n : Int) + 1 := by omega
  have hb2 : ¬ (c = at_ + 1) := by omega
  have hb4 : ¬ (c = at_) := by omega
  have hb1 : (0 : Int) ≤ (at_ : Int) + 1 := by omega
  have htn : ((at_ : Int) + 1).toNat = at_ + 1 := by omega
  have hin : at_ ≤ n := by omega
  clear hg hG ht hcs hkn
  go_enter Try.func33, Try.ntmps33
  go_wp2_with (simp only [hov])
  have HGD := Lib.hid HG.out.drew
  have HGGD := Lib.hid HGG.out.drew
  have HOD := Lib.hid ((Only.refl g w).drew)
  go_still_tail 8, (by kernel_rfl)
  change wpList _ _ _ _ _ w.drew
  generalize w.drew = w2 at HGD HGGD HOD ⊢
  have hdl : (k.drop at_).length = n - at_ := by rw [List.length_drop, HKN.out]
  have hcl : cur.toList.length = c * 2 := by rw [Array.length_toList]; exact HCS.out
  refine wpl_copy_sps rfl _ _ 49 49 rfl Try.underlying49 g _ _ _ rfl _ _ _ rfl cur 33 (k.drop at_) HGD.out ?s1 ?s2 ?s3 ?_
  case s1 =>
    refine src_of HGD.out fun j v hj => ?_
    have e : (scs k)[at_ * 2 + j]? = some v := by
      have : scs k = scs (k.take at_) ++ scs (k.drop at_) := by rw [← scs_append, List.take_append_drop]
      rw [this, List.getElem?_append_right (by rw [scs_len, List.length_take, HKN.out]; omega), scs_len, List.length_take, HKN.out, show at_ * 2 + j - min at_ n * 2 = j by rw [Nat.min_eq_left (by omega)]; omega]
      exact hj
    rw [← HT.out, List.getElem?_take] at e
    split at e
    · rw [← Array.getElem?_toList]; exact e
    · cases e
  case s2 => rw [hdl]; simp only [Nat.min_def]; split <;> omega
  case s3 => rw [hdl, HCS.out]; omega
  intro w3 hw3
  obtain ⟨C1, hC1⟩ : ∃ C1, C1 = cur.toList.take ((at_ + 1) * 2) ++ scs (k.drop at_) ++ cur.toList.drop ((at_ + 1) * 2 + (k.drop at_).length * 2) := ⟨_, rfl⟩
  rw [← hC1] at hw3
  obtain ⟨hb3, ho3⟩ := setRow_blk HGD.out C1.toArray
  rw [← hw3] at hb3 ho3
  have HI := Lib.hid (ins_cells cur.toList k at_ y (by rw [HKN.out]; exact HT.out) (by rw [HKN.out]; omega) (by rw [HKN.out, hcl]; omega) C1 hC1)
  have HB3 := Lib.hid hb3
  have HO3 := Lib.hid (HOD.out.trans ho3)
  have HGG3 := Lib.hid (ho3.blk HGGD.out hGg)
  have hC1l : C1.length = c * 2 := by rw [HI.out.2]; exact hcl
  clear hw3 hb3 ho3 hC1
  have hs4 := src_of (l := [y]) (o := 0) HGG3.out (fun j v hj => by
    match j with
    | 0 => simp [scs] at hj; subst hj; rfl
    | 1 => simp [scs] at hj; subst hj; rfl
    | q + 2 => simp [scs] at hj)
  have hs5 : ([y] : List Sp).length = Nat.min 1 (n + 1 - at_) := by simp only [List.length_cons, List.length_nil, Nat.min_def]; split <;> omega
  have hs6 : at_ * 2 + ([y] : List Sp).length * 2 ≤ C1.toArray.size := by simp only [List.length_cons, List.length_nil, List.size_toArray]; omega
  have hcp2 := run_copy_sps w3 49 22 3 g (at_ * 2) (n + 1 - at_) (c - at_) ⟨G, 0, none⟩ 1 1 C1.toArray 33 [y] Try.underlying49 HB3.out hs5 hs4 hs6
  obtain ⟨C2, hC2⟩ : ∃ C2, C2 = C1.take (at_ * 2) ++ scs [y] ++ C1.drop (at_ * 2 + 1 * 2) := ⟨_, rfl⟩
  have hcp3 : (Builtin.copy_ #[49, 22] 3 #[.slice (some ⟨g, at_ * 2, none⟩) (n + 1 - at_) (c - at_), .slice (some ⟨G, 0, none⟩) 1 1]).run Try.prog w3 = .ok (goInt 1) (w3.setRow g C2.toArray) := by rw [hC2]; exact hcp2
  obtain ⟨w4, hw4⟩ : ∃ w4, w4 = w3.setRow g C2.toArray := ⟨_, rfl⟩
  obtain ⟨hb4, ho4⟩ := setRow_blk HB3.out C2.toArray
  rw [← hw4] at hb4 ho4 hcp3
  have hl2 : (k.take at_ ++ y :: k.drop at_).length = n + 1 := by rw [List.length_append, List.length_cons, List.length_take, hdl, HKN.out]; omega
  have hC2l : C2.length = c * 2 := by
    rw [hC2, List.length_append, List.length_append, scs_len, List.length_take, List.length_drop, hC1l]
    simp only [List.length_cons, List.length_nil]
    omega
  have hown := own_of (base := base) (cap := c) (m := k.take at_ ++ y :: k.drop at_) hb4 hbg (by rw [hl2]; exact hroom) hc (by rw [List.size_toArray, hC2l]) (by
    rw [hl2]
    have := HI.out.1
    rw [HKN.out, ← hC2] at this
    simpa using this)
  rw [hl2] at hown
  have HOWN := Lib.hid hown
  have HBF := Lib.hid ((HO3.out.trans ho4))
  have hlg := HG.out.lt
  clear hw4 hb4 ho4 hC2 hown hl2 hcp2 hs4 hs5 hs6
  go_wp2_with fail
  go_ret
  exact ⟨_, rfl, HOWN.out, HBF.out.below (by omega) hbg⟩
theorem wpl_append_run {P : Program} {ops : Array Oper} {rest : List Oper} {o : Oper} {a : Act} {w : World} {Q : Exit → Act → World → Prop} (hgd : o.guard = none) (s x : Operand) (t t2 : TypeId)
    (ho : o.op = .call { callee := .builtin .append, args := #[s, x], argTypes := #[t, t2] }) (v u : Value) (hs : a.eval s = v) (hx : a.eval x = u) {v' : Value} {w' : World}
    (hr : (Builtin.append_ #[t, t2] o.type #[v, u]).run P w = .ok v' w') (h : wpList P ops Q rest (a.put o.dst v') w') : wpList P ops Q (o :: rest) a w :=
  wpList_plain hgd fun _ hK => by
    unfold Oper.wp execOp
    simp only [ho, resolve, invoke, builtin, Sem.run_bind, Sem.run_pure, Result.andThen_ok, List.map_toArray, List.map_cons, List.map_nil, hs, hx, hr]
    exact hK _ _ h
theorem zeros_len (m : Nat) : (Builtin.zeroCells (Value.agg #[.int .i64 0, .int .i64 0]).cells m).size = m * 2 := by
  rw [size_zeroCells]; simp [Value.cells]
theorem put_cells (C : List Value) (k : List Sp) (at_ : Nat) (y : Sp) (h : C.take (at_ * 2) = scs (k.take at_)) (hat : at_ ≤ k.length) (hC : (k.length + 1) * 2 ≤ C.length) (C1 : List Value) (h1 : C1 = C.take (at_ * 2) ++ scs [y] ++ C.drop (at_ * 2 + 1 * 2)) :
    (C1.take ((at_ + 1) * 2) ++ scs (k.drop at_) ++ C1.drop ((at_ + 1) * 2 + (k.drop at_).length * 2)).take ((k.length + 1) * 2) = scs (k.take at_ ++ y :: k.drop at_) ∧ C1.length = C.length := by
  have hl : (scs (k.take at_)).length = at_ * 2 := by rw [scs_len, List.length_take]; omega
  have hy : (scs [y]).length = 2 := rfl
  have e1 : C1.take ((at_ + 1) * 2) = scs (k.take at_) ++ scs [y] := by
    rw [h1, h]
    exact List.take_left' (by rw [List.length_append, hl, hy]; omega)
  refine ⟨?_, ?_⟩
  · rw [e1]
    have e3 : scs (k.take at_ ++ y :: k.drop at_) = scs (k.take at_) ++ scs [y] ++ scs (k.drop at_) := by
      rw [scs_append, List.append_assoc]; rfl
    rw [e3]
    refine List.take_left' ?_
    rw [List.length_append, List.length_append, hl, hy, scs_len, List.length_drop]
    omega
  · rw [h1, List.length_append, List.length_append, List.length_take, List.length_drop, hy]
    omega
set_option maxHeartbeats 4000000 in
theorem insert_grow (g n c : Nat) (cur : Array Value) (k : List Sp) (base at_ : Nat) (y : Sp) (G : Nat) (w : World) (hg : Blk w g 33 cur) (hkn : k.length = n) (hcs : cur.size = c * 2) (ht : cur.toList.take (n * 2) = scs k)
    (hat : at_ < n) (hnc : n ≤ c) (hroom : c < n + 1) (hk : n ≤ 1000000) (hG : Blk w G 33 #[.int .i64 y.f, .int .i64 y.t]) (hbase : base ≤ w.heap.size) :
    Calls Try.prog 33 #[.slice (some ⟨g, 0, none⟩) n c, .int .i64 (at_ : Int), .slice (some ⟨G, 0, none⟩) 1 1] w fun e w' => ∃ v', e = .returned v' ∧ OwnR w' base v' (k.take at_ ++ y :: k.drop at_) ∧ Below base w w' := by
  obtain ⟨i0, hi, hz0, hz1, hz2⟩ := info_parts infoSp
  have hsplit : scs k = scs (k.take at_) ++ scs (k.drop at_) := by rw [← scs_append, List.take_append_drop]
  have htk : (scs (k.take at_)).length = at_ * 2 := by rw [scs_len, List.length_take]; omega
  have hold : ∀ (j : Nat) (u : Value), (scs (k.take at_))[j]? = some u → w.drew.cell? ((⟨g, 0, none⟩ : Addr).add j) = some u := fun j u hu => by
    rw [add_plain, Nat.zero_add]
    refine hg.drew.cell ?_
    have hj := (List.getElem?_eq_some_iff.1 hu).1
    have e : (scs k)[j]? = some u := by rw [hsplit, List.getElem?_append_left hj]; exact hu
    rw [← ht, List.getElem?_take] at e
    split at e
    · rw [← Array.getElem?_toList]; exact e
    · cases e
  have hap := Lib.run_append_grow_zeros w 49 3 49 33 i0 (.agg #[.int .i64 0, .int .i64 0]) .i64 .i64 Try.underlying49 Try.underlying3 hi hz0 (some ⟨g, 0, none⟩) at_ c (scs (k.take at_))
    (run_firstCells_some w.drew i0.size at_ _ at_ c (scs (k.take at_)) (by rw [htk, hz1]) hold) (n + 1 - at_) (by omega) (by omega) (by omega) (by omega) (by rw [hz2]; omega) (growslice_fits (by omega) (by rw [hz2]; omega))
  obtain ⟨K, hK⟩ : ∃ K, K = grownCap w (at_ + (n + 1 - at_)) c 33 := ⟨_, rfl⟩
  have hKge : n + 1 ≤ K := by rw [hK]; have := grownCap_ge w (at_ + (n + 1 - at_)) c 33; omega
  have hKle : K ≤ maxLen := by rw [hK]; exact grownCap_le_maxLen w _ _ _ (by unfold maxLen; omega)
  obtain ⟨C0, hC0⟩ : ∃ C0, C0 = (scs (k.take at_)).toArray ++ Builtin.zeroCells (Value.agg #[.int .i64 0, .int .i64 0]).cells (n + 1 - at_) ++ Builtin.zeroCells (Value.agg #[.int .i64 0, .int .i64 0]).cells (grownCap w (at_ + (n + 1 - at_)) c 33 - (at_ + (n + 1 - at_))) := ⟨_, rfl⟩
  rw [← hC0, ← hK] at hap
  have hC0s : C0.size = K * 2 := by
    rw [hC0, ← hK, Array.size_append, Array.size_append, zeros_len, zeros_len, List.size_toArray, htk]
    omega
  have hC0t : C0.toList.take (at_ * 2) = scs (k.take at_) := by
    rw [hC0, Array.toList_append, Array.toList_append, List.append_assoc]
    exact List.take_left' htk
  rw [show at_ + (n + 1 - at_) = n + 1 by omega] at hap
  have hb2 := (Blk.new w.drew 33 C0)
  have hal := ((Below.refl w.heap.size w).drew).alloc (Nat.le_refl _) (.cells C0 33)
  obtain ⟨w2, hw2⟩ : ∃ w2, w2 = w.drew.alloc (.cells C0 33) := ⟨_, rfl⟩
  rw [← hw2] at hap hb2 hal
  obtain ⟨g2, hg2⟩ : ∃ g2, g2 = w.heap.size := ⟨_, rfl⟩
  have hb2 : Blk w2 g2 33 C0 := by rw [hg2]; exact hb2
  rw [← hg2] at hap
  have hGlt := hG.lt
  have hglt := hg.lt
  have HG2 := Lib.hid (hg.below hal hg.lt)
  have HGG2 := Lib.hid (hG.below hal hG.lt)
  have HB2 := Lib.hid hb2
  have HAL := Lib.hid hal
  have HT := Lib.hid ht; have HKN := Lib.hid hkn; have HCS := Lib.hid hcs; have HSP := Lib.hid hsplit; have HC0T := Lib.hid hC0t
  have hC0l : C0.toList.length = K * 2 := by rw [Array.length_toList]; exact hC0s
  -- the first copy
  have hs4 := src_of (l := [y]) (o := 0) HGG2.out (fun j v hj => by
    match j with
    | 0 => simp [scs] at hj; subst hj; rfl
    | 1 => simp [scs] at hj; subst hj; rfl
    | q + 2 => simp [scs] at hj)
  have hcp := run_copy_sps w2 49 22 3 g2 (at_ * 2) (n + 1 - at_) (K - at_) ⟨G, 0, none⟩ 1 1 C0 33 [y] Try.underlying49 hb2 (by simp only [List.length_cons, List.length_nil, Nat.min_def]; split <;> omega) hs4 (by simp only [List.length_cons, List.length_nil]; omega)
  obtain ⟨C1, hC1⟩ : ∃ C1, C1 = C0.toList.take (at_ * 2) ++ scs [y] ++ C0.toList.drop (at_ * 2 + 1 * 2) := ⟨_, rfl⟩
  have hcp2 : (Builtin.copy_ #[49, 22] 3 #[.slice (some ⟨g2, at_ * 2, none⟩) (n + 1 - at_) (K - at_), .slice (some ⟨G, 0, none⟩) 1 1]).run Try.prog w2 = .ok (goInt 1) (w2.setRow g2 C1.toArray) := by rw [hC1]; exact hcp
  obtain ⟨w3, hw3⟩ : ∃ w3, w3 = w2.setRow g2 C1.toArray := ⟨_, rfl⟩
  obtain ⟨hb3, ho3⟩ := setRow_blk hb2 C1.toArray
  rw [← hw3] at hb3 ho3 hcp2
  have HB3 := Lib.hid hb3
  have HO3 := Lib.hid ho3
  have HG3 := Lib.hid (ho3.blk HG2.out (by omega))
  have HI := Lib.hid (put_cells C0.toList k at_ y hC0t (by omega) (by omega) C1 hC1)
  have hC1l : C1.length = K * 2 := by rw [HI.out.2]; exact hC0l
  have hdl : (k.drop at_).length = n - at_ := by rw [List.length_drop, hkn]
  have HDL := Lib.hid hdl
  have HGB := Lib.hid hg2
  have HAP := Lib.hid hap
  have hz2 : ¬ ((at_ : Int) = (n : Int)) := by omega
  have hw1 : IntKind.i64.wrap ((at_ : Int) + 1) = (at_ : Int) + 1 := IntWalk.i64_in _ (by omega)
  have hwn : IntKind.i64.wrap ((n : Int) + 1) = (n : Int) + 1 := IntWalk.i64_in _ (by omega)
  have hwm : IntKind.i64.wrap ((n : Int) + 1 - (at_ : Int)) = ((n + 1 - at_ : Nat) : Int) := by rw [IntWalk.i64_in _ (by omega)]; omega
  have hr1 : (c : Int) < (n : Int) + 1 := by omega
  have hr3 : (at_ : Int) ≤ (n : Int) := by omega
  have hr6 : (at_ : Int) ≤ (c : Int) := by omega
  have hr7 : (at_ : Int) ≤ (n : Int) + 1 := by omega
  have hb2' : ¬ (K = at_ + 1) := by omega
  have hb4 : ¬ (c = at_) := by omega
  have hb5 : ¬ (K = at_) := by omega
  have hb1 : (0 : Int) ≤ (at_ : Int) + 1 := by omega
  have htn : ((at_ : Int) + 1).toNat = at_ + 1 := by omega
  have hin : at_ ≤ n := by omega
  clear hg hG ht hcs hkn hsplit htk hold hK hC0 hC0s hC0t hw2 hal hs4 hcp hw3 hb3 ho3 hC1 hb2 hi hz0 hz1 hz2 hg2 hap
  go_enter Try.func33, Try.ntmps33
  go_wp2_with (at_builtin; refine wpl_append_run rfl _ _ 49 3 rfl _ _ rfl rfl HAP.out ?_)
  go_wp2_with fail
  have HB4 := Lib.hid HB3.out.drew
  have HG4 := Lib.hid HG3.out.drew
  have HO4 := Lib.hid (HO3.out.drew)
  clear HB3 HG3 HO3 hcp2
  go_still_tail 8, (by kernel_rfl)
  change wpList _ _ _ _ _ w3.drew
  generalize w3.drew = w4 at HB4 HG4 HO4 ⊢
  refine wpl_copy_sps rfl _ _ 49 49 rfl Try.underlying49 g2 _ _ _ rfl _ _ _ rfl C1.toArray 33 (k.drop at_) HB4.out ?s1 ?s2 ?s3 ?_
  case s1 =>
    refine src_of HG4.out fun j v hj => ?_
    have htk : (scs (k.take at_)).length = at_ * 2 := by rw [scs_len, List.length_take, HKN.out]; omega
    have e : (scs k)[at_ * 2 + j]? = some v := by
      rw [HSP.out, List.getElem?_append_right (by omega), htk, show at_ * 2 + j - at_ * 2 = j by omega]
      exact hj
    rw [← HT.out, List.getElem?_take] at e
    split at e
    · rw [← Array.getElem?_toList]; exact e
    · cases e
  case s2 => rw [HDL.out]; simp only [Nat.min_def]; split <;> omega
  case s3 => rw [HDL.out, List.size_toArray]; omega
  intro w5 hw5
  obtain ⟨C2, hC2⟩ : ∃ C2, C2 = C1.take ((at_ + 1) * 2) ++ scs (k.drop at_) ++ C1.drop ((at_ + 1) * 2 + (k.drop at_).length * 2) := ⟨_, rfl⟩
  have hw5' : w5 = w4.setRow g2 C2.toArray := by rw [hw5, hC2]
  obtain ⟨hb5, ho5⟩ := setRow_blk HB4.out C2.toArray
  rw [← hw5'] at hb5 ho5
  have hl2 : (k.take at_ ++ y :: k.drop at_).length = n + 1 := by rw [List.length_append, List.length_cons, List.length_take, HDL.out, HKN.out]; omega
  have hC2l : C2.length = K * 2 := by
    have h9 := HKN.out
    rw [hC2, List.length_append, List.length_append, scs_len, List.length_take, HDL.out, List.length_drop, hC1l]
    omega
  have hg2b : base ≤ g2 := by rw [HGB.out]; exact hbase
  have hown := own_of (base := base) (cap := K) (m := k.take at_ ++ y :: k.drop at_) hb5 hg2b (by rw [hl2]; exact hKge) hKle (by rw [List.size_toArray, hC2l]) (by
    rw [hl2]
    have := HI.out.1
    rw [HKN.out, ← hC2] at this
    simpa using this)
  rw [hl2] at hown
  have HOWN := Lib.hid hown
  have HBF : Hid (Below base w w5) := Lib.hid ((HAL.out.mono hbase).trans ((HO4.out.trans ho5).below (by have := HAL.out.size; omega) hg2b))
  clear hw5 hw5' hb5 ho5 hC2 hown hl2
  go_wp2_with fail
  go_ret
  exact ⟨_, rfl, HOWN.out, HBF.out⟩
/-- A span is put in at a place. -/
theorem insert_c (v : Value) (k : List Sp) (base at_ : Nat) (y : Sp) (G : Nat) (w : World) (hown : OwnR w base v k) (hat : at_ ≤ k.length) (hk : k.length ≤ 1000000) (hG : Blk w G 33 #[.int .i64 y.f, .int .i64 y.t]) (hGv : v.ownBlock ≠ some G) (hbase : base ≤ w.heap.size) :
    Calls Try.prog 33 #[v, .int .i64 (at_ : Int), .slice (some ⟨G, 0, none⟩) 1 1] w fun e w' => ∃ v', e = .returned v' ∧ OwnR w' base v' (k.take at_ ++ y :: k.drop at_) ∧ Below base w w' := by
  by_cases hend : at_ = k.length
  · subst hend
    rw [List.take_length, List.drop_length]
    exact insert_end v k base y G w hown hk hG hbase
  · obtain ⟨hl, h⟩ := hown
    rcases h with ⟨_, h0⟩ | ⟨g, cap, cur, rfl, hbg, hg, hnc, hcm, hcs, ht⟩
    · omega
    · by_cases hroom : k.length + 1 ≤ cap
      · exact insert_room g k.length cap cur k base at_ y G w hg hbg rfl hcm hcs ht (by omega) hroom hk hG (fun e => hGv (by rw [e]; rfl))
      · exact insert_grow g k.length cap cur k base at_ y G w hg rfl hcs ht (by omega) hnc (by omega) hk hG hbase
end Go.Proofs.Ytlgpoaapmgcloaa
