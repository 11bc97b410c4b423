/- Contracts: the closure of Press. -/
import Derived.Test.YticgknjjhkgggaaWc
namespace Go.Proofs.Yticgknjjhkgggaa
open Go.RowKit
set_option linter.unusedSimpArgs false
set_option linter.unusedVariables false

/-- Words as cells. -/
def ws (l : List Wo) : Array Value := (l.map fun x => Value.int .u32 (x.toNat : Int)).toArray
theorem ws_size (l : List Wo) : (ws l).size = l.length := by simp [ws]
theorem ws_get {l : List Wo} {k : Nat} (h : k < l.length) : (ws l)[k]? = some (.int .u32 ((l.getD k 0#32).toNat : Int)) := by
  simp [ws, h]
theorem ws_set (l : List Wo) (k : Nat) (x : Wo) : (ws l).setIfInBounds k (.int .u32 (x.toNat : Int)) = ws (l.set k x) := by
  simp [ws, List.map_set]
theorem ws_one (l : List Wo) : (ws l).all (·.oneCell') = true := by
  simp [ws, Value.oneCell']
theorem blk_ws {w : World} {g : Nat} {t : TypeId} {l : List Wo} {k : Nat} (h : Blk w g t (ws l)) (hk : k < l.length) : w.cell? ⟨g, k, none⟩ = some (.int .u32 ((l.getD k 0#32).toNat : Int)) := h.cell (ws_get hk)
theorem blk_ws_set {w : World} {g : Nat} {t : TypeId} {l : List Wo} (h : Blk w g t (ws l)) (k : Nat) (x : Wo) : Blk (w.setCell ⟨g, k, none⟩ (.int .u32 (x.toNat : Int))) g t (ws (l.set k x)) := by
  rw [← ws_set]; exact h.set _ _
theorem Only.trans2 {a w w' : World} {b g : Nat} (h : Only b a w) (hO : Only g w w') (hg : a.heap.size ≤ g) : Only b a w' :=
  h.grown hO (fun k e => .inr (by injection e with e; omega))
section
variable {w0 W W' : World} {gv ga : Nat} {V : List Wo} {cs : Array Value}
theorem pbelow (hb : Below W.heap.size W W') (h : Blk W gv 61 (ws V) ∧ Blk W ga 3 cs) : Blk W' gv 61 (ws V) ∧ Blk W' ga 3 cs := ⟨h.1.below hb h.1.lt, h.2.below hb h.2.lt⟩
theorem psides {k : Nat} (h : Blk W gv 61 (ws V) ∧ Blk W ga 3 cs) (hO : Only k W W') (h1 : gv ≠ k) (h2 : ga ≠ k) : Blk W' gv 61 (ws V) ∧ Blk W' ga 3 cs := ⟨hO.blk h.1 h1, hO.blk h.2 h2⟩
theorem palloc {o : Array Value} {t : TypeId} (h : Blk W gv 61 (ws V) ∧ Blk W ga 3 cs) (hO : Only gv w0 W) : (Blk (W.alloc (.cells o t)) gv 61 (ws V) ∧ Blk (W.alloc (.cells o t)) ga 3 cs) ∧ Blk (W.alloc (.cells o t)) W.heap.size t o ∧ Only gv w0 (W.alloc (.cells o t)) ∧ gv ≠ W.heap.size ∧ ga ≠ W.heap.size ∧ w0.heap.size ≤ W.heap.size :=
  ⟨⟨h.1.alloc _, h.2.alloc _⟩, Blk.new _ _ _, hO.alloc _, Nat.ne_of_lt h.1.lt, Nat.ne_of_lt h.2.lt, hO.size⟩
end
/-- Four words of a state mixed with two. -/
def quadAt (V : List Wo) (p0 p1 p2 p3 : Nat) : Quad := ⟨V.getD p0 0#32, V.getD p1 0#32, V.getD p2 0#32, V.getD p3 0#32⟩
def mixAt (V : List Wo) (x y : Wo) (p0 p1 p2 p3 : Nat) : List Wo :=
  (((V.set p0 (mix (quadAt V p0 p1 p2 p3) x y).a).set p1 (mix (quadAt V p0 p1 p2 p3) x y).b).set p2 (mix (quadAt V p0 p1 p2 p3) x y).c).set p3 (mix (quadAt V p0 p1 p2 p3) x y).d

set_option maxRecDepth 100000 in
set_option maxHeartbeats 4000000 in
theorem pmix_c (gv ga : Nat) (V : List Wo) (x y : Wo) (p0 p1 p2 p3 : Nat) (w : World) (hv : V.length = 16) (h0 : p0 < 16) (h1 : p1 < 16) (h2 : p2 < 16) (h3 : p3 < 16) (hne : gv ≠ ga)
    (hV : Blk w gv 61 (ws V)) (hA : Blk w ga 3 #[.int .i64 (p0 : Int), .int .i64 (p1 : Int), .int .i64 (p2 : Int), .int .i64 (p3 : Int)]) :
    Calls Try.prog 31 #[.int .u32 (x.toNat : Int), .int .u32 (y.toNat : Int), .slice (some ⟨ga, 0, none⟩) 4 4, .pointer (some ⟨gv, 0, none⟩)] w fun e w' => e = .returned (.tuple #[]) ∧ Blk w' gv 61 (ws (mixAt V x y p0 p1 p2 p3)) ∧ Only gv w w' := by
  have l0 : (p0 : Int) < 16 := by omega
  have l1 : (p1 : Int) < 16 := by omega
  have l2 : (p2 : Int) < 16 := by omega
  have l3 : (p3 : Int) < 16 := by omega
  have m0 : (0 : Int) ≤ (p0 : Int) := by omega
  have m1 : (0 : Int) ≤ (p1 : Int) := by omega
  have m2 : (0 : Int) ≤ (p2 : Int) := by omega
  have m3 : (0 : Int) ≤ (p3 : Int) := by omega
  have HV := Lib.hid hV; have HA := Lib.hid hA
  clear hV hA
  have HBA := Lib.hid ((Only.refl gv w).drew)
  obtain ⟨a0, ha0⟩ : ∃ a, a = V.getD p0 0#32 := ⟨_, rfl⟩
  obtain ⟨a1, ha1⟩ : ∃ a, a = V.getD p1 0#32 := ⟨_, rfl⟩
  obtain ⟨a2, ha2⟩ : ∃ a, a = V.getD p2 0#32 := ⟨_, rfl⟩
  obtain ⟨a3, ha3⟩ : ∃ a, a = V.getD p3 0#32 := ⟨_, rfl⟩
  have HW0 := Lib.hid ha0; have HW1 := Lib.hid ha1; have HW2 := Lib.hid ha2; have HW3 := Lib.hid ha3
  obtain ⟨q, hq⟩ : ∃ q, q = quadAt V p0 p1 p2 p3 := ⟨_, rfl⟩
  have hqc : q.cells = #[.int .u32 (a0.toNat : Int), .int .u32 (a1.toNat : Int), .int .u32 (a2.toNat : Int), .int .u32 (a3.toNat : Int)] := by rw [hq, ha0, ha1, ha2, ha3]; rfl
  have HQC := Lib.hid hqc
  have HQQ := Lib.hid hq
  clear hqc hq ha0 ha1 ha2 ha3
  go_enter Try.func31, Try.ntmps31
  go_wp2_with fail
  have hS0 : Blk w.drew gv 61 (ws V) ∧ Blk w.drew ga 3 #[.int .i64 (p0 : Int), .int .i64 (p1 : Int), .int .i64 (p2 : Int), .int .i64 (p3 : Int)] := ⟨HV.out.drew, HA.out.drew⟩
  refine wp_region_held_drew (S := (fun W => Blk W gv 61 (ws V) ∧ Blk W ga 3 #[.int .i64 (p0 : Int), .int .i64 (p1 : Int), .int .i64 (p2 : Int), .int .i64 (p3 : Int)])) (by kernel_rfl) hS0 ?_
  intro hS0'
  generalize w.drew = wA at hS0' HBA ⊢
  clear hS0
  refine wpAnyH_take (i := 0) (v := .slice (some ⟨ga, 0, none⟩) 4 4) rfl (by kernel_rfl) (by kernel_rfl) (by kernel_rfl) (fun _ _ _ h => h) (Or.inl ⟨by kernel_rfl, fun w hSw => ?_⟩) hS0' ?_
  · go_simp
  try simp only [Act.put, List.getElem_toArray, List.getElem_cons_succ, List.getElem_cons_zero, List.setIfInBounds_toArray, List.set_cons_zero, List.set_cons_succ]
  refine wpAnyH_take (i := 1) (v := .pointer (some ⟨ga, 0, none⟩)) rfl (by kernel_rfl) (by kernel_rfl) (by kernel_rfl) (fun _ _ _ h => h) (Or.inl ⟨by kernel_rfl, fun w hSw => ?_⟩) hS0' ?_
  · go_simp
  try simp only [Act.put, List.getElem_toArray, List.getElem_cons_succ, List.getElem_cons_zero, List.setIfInBounds_toArray, List.set_cons_zero, List.set_cons_succ]
  refine wpAnyH_take (i := 2) (v := .int .i64 (p0 : Int)) rfl (by kernel_rfl) (by kernel_rfl) (by kernel_rfl) (fun _ _ _ h => h) (Or.inl ⟨by kernel_rfl, fun w hSw => ?_⟩) hS0' ?_
  · have hc : w.cell? ⟨ga, 0, none⟩ = some (.int .i64 (p0 : Int)) := hSw.2.cell rfl
    clear hSw
    go_simp
  try simp only [Act.put, List.getElem_toArray, List.getElem_cons_succ, List.getElem_cons_zero, List.setIfInBounds_toArray, List.set_cons_zero, List.set_cons_succ]
  refine wpAnyH_take (i := 3) (v := .pointer (some ⟨gv, p0, none⟩)) rfl (by kernel_rfl) (by kernel_rfl) (by kernel_rfl) (fun _ _ _ h => h) (Or.inl ⟨by kernel_rfl, fun w hSw => ?_⟩) hS0' ?_
  · go_simp
  try simp only [Act.put, List.getElem_toArray, List.getElem_cons_succ, List.getElem_cons_zero, List.setIfInBounds_toArray, List.set_cons_zero, List.set_cons_succ]
  refine wpAnyH_take (i := 4) (v := .int .u32 (a0.toNat : Int)) rfl (by kernel_rfl) (by kernel_rfl) (by kernel_rfl) (fun _ _ _ h => h) (Or.inl ⟨by kernel_rfl, fun w hSw => ?_⟩) hS0' ?_
  · have hc : w.cell? ⟨gv, p0, none⟩ = some (.int .u32 (a0.toNat : Int)) := by rw [HW0.out]; exact blk_ws hSw.1 (k := p0) (by omega)
    clear hSw
    go_simp
  try simp only [Act.put, List.getElem_toArray, List.getElem_cons_succ, List.getElem_cons_zero, List.setIfInBounds_toArray, List.set_cons_zero, List.set_cons_succ]
  refine wpAnyH_take (i := 5) (v := .slice (some ⟨ga, 0, none⟩) 4 4) rfl (by kernel_rfl) (by kernel_rfl) (by kernel_rfl) (fun _ _ _ h => h) (Or.inl ⟨by kernel_rfl, fun w hSw => ?_⟩) hS0' ?_
  · go_simp
  try simp only [Act.put, List.getElem_toArray, List.getElem_cons_succ, List.getElem_cons_zero, List.setIfInBounds_toArray, List.set_cons_zero, List.set_cons_succ]
  refine wpAnyH_take (i := 6) (v := .pointer (some ⟨ga, 1, none⟩)) rfl (by kernel_rfl) (by kernel_rfl) (by kernel_rfl) (fun _ _ _ h => h) (Or.inl ⟨by kernel_rfl, fun w hSw => ?_⟩) hS0' ?_
  · go_simp
  try simp only [Act.put, List.getElem_toArray, List.getElem_cons_succ, List.getElem_cons_zero, List.setIfInBounds_toArray, List.set_cons_zero, List.set_cons_succ]
  refine wpAnyH_take (i := 7) (v := .int .i64 (p1 : Int)) rfl (by kernel_rfl) (by kernel_rfl) (by kernel_rfl) (fun _ _ _ h => h) (Or.inl ⟨by kernel_rfl, fun w hSw => ?_⟩) hS0' ?_
  · have hc : w.cell? ⟨ga, 1, none⟩ = some (.int .i64 (p1 : Int)) := hSw.2.cell rfl
    clear hSw
    go_simp
  try simp only [Act.put, List.getElem_toArray, List.getElem_cons_succ, List.getElem_cons_zero, List.setIfInBounds_toArray, List.set_cons_zero, List.set_cons_succ]
  refine wpAnyH_take (i := 8) (v := .pointer (some ⟨gv, p1, none⟩)) rfl (by kernel_rfl) (by kernel_rfl) (by kernel_rfl) (fun _ _ _ h => h) (Or.inl ⟨by kernel_rfl, fun w hSw => ?_⟩) hS0' ?_
  · go_simp
  try simp only [Act.put, List.getElem_toArray, List.getElem_cons_succ, List.getElem_cons_zero, List.setIfInBounds_toArray, List.set_cons_zero, List.set_cons_succ]
  refine wpAnyH_take (i := 9) (v := .int .u32 (a1.toNat : Int)) rfl (by kernel_rfl) (by kernel_rfl) (by kernel_rfl) (fun _ _ _ h => h) (Or.inl ⟨by kernel_rfl, fun w hSw => ?_⟩) hS0' ?_
  · have hc : w.cell? ⟨gv, p1, none⟩ = some (.int .u32 (a1.toNat : Int)) := by rw [HW1.out]; exact blk_ws hSw.1 (k := p1) (by omega)
    clear hSw
    go_simp
  try simp only [Act.put, List.getElem_toArray, List.getElem_cons_succ, List.getElem_cons_zero, List.setIfInBounds_toArray, List.set_cons_zero, List.set_cons_succ]
  refine wpAnyH_take (i := 10) (v := .slice (some ⟨ga, 0, none⟩) 4 4) rfl (by kernel_rfl) (by kernel_rfl) (by kernel_rfl) (fun _ _ _ h => h) (Or.inl ⟨by kernel_rfl, fun w hSw => ?_⟩) hS0' ?_
  · go_simp
  try simp only [Act.put, List.getElem_toArray, List.getElem_cons_succ, List.getElem_cons_zero, List.setIfInBounds_toArray, List.set_cons_zero, List.set_cons_succ]
  refine wpAnyH_take (i := 11) (v := .pointer (some ⟨ga, 2, none⟩)) rfl (by kernel_rfl) (by kernel_rfl) (by kernel_rfl) (fun _ _ _ h => h) (Or.inl ⟨by kernel_rfl, fun w hSw => ?_⟩) hS0' ?_
  · go_simp
  try simp only [Act.put, List.getElem_toArray, List.getElem_cons_succ, List.getElem_cons_zero, List.setIfInBounds_toArray, List.set_cons_zero, List.set_cons_succ]
  refine wpAnyH_take (i := 12) (v := .int .i64 (p2 : Int)) rfl (by kernel_rfl) (by kernel_rfl) (by kernel_rfl) (fun _ _ _ h => h) (Or.inl ⟨by kernel_rfl, fun w hSw => ?_⟩) hS0' ?_
  · have hc : w.cell? ⟨ga, 2, none⟩ = some (.int .i64 (p2 : Int)) := hSw.2.cell rfl
    clear hSw
    go_simp
  try simp only [Act.put, List.getElem_toArray, List.getElem_cons_succ, List.getElem_cons_zero, List.setIfInBounds_toArray, List.set_cons_zero, List.set_cons_succ]
  refine wpAnyH_take (i := 13) (v := .pointer (some ⟨gv, p2, none⟩)) rfl (by kernel_rfl) (by kernel_rfl) (by kernel_rfl) (fun _ _ _ h => h) (Or.inl ⟨by kernel_rfl, fun w hSw => ?_⟩) hS0' ?_
  · go_simp
  try simp only [Act.put, List.getElem_toArray, List.getElem_cons_succ, List.getElem_cons_zero, List.setIfInBounds_toArray, List.set_cons_zero, List.set_cons_succ]
  refine wpAnyH_take (i := 14) (v := .int .u32 (a2.toNat : Int)) rfl (by kernel_rfl) (by kernel_rfl) (by kernel_rfl) (fun _ _ _ h => h) (Or.inl ⟨by kernel_rfl, fun w hSw => ?_⟩) hS0' ?_
  · have hc : w.cell? ⟨gv, p2, none⟩ = some (.int .u32 (a2.toNat : Int)) := by rw [HW2.out]; exact blk_ws hSw.1 (k := p2) (by omega)
    clear hSw
    go_simp
  try simp only [Act.put, List.getElem_toArray, List.getElem_cons_succ, List.getElem_cons_zero, List.setIfInBounds_toArray, List.set_cons_zero, List.set_cons_succ]
  refine wpAnyH_take (i := 15) (v := .slice (some ⟨ga, 0, none⟩) 4 4) rfl (by kernel_rfl) (by kernel_rfl) (by kernel_rfl) (fun _ _ _ h => h) (Or.inl ⟨by kernel_rfl, fun w hSw => ?_⟩) hS0' ?_
  · go_simp
  try simp only [Act.put, List.getElem_toArray, List.getElem_cons_succ, List.getElem_cons_zero, List.setIfInBounds_toArray, List.set_cons_zero, List.set_cons_succ]
  refine wpAnyH_take (i := 16) (v := .pointer (some ⟨ga, 3, none⟩)) rfl (by kernel_rfl) (by kernel_rfl) (by kernel_rfl) (fun _ _ _ h => h) (Or.inl ⟨by kernel_rfl, fun w hSw => ?_⟩) hS0' ?_
  · go_simp
  try simp only [Act.put, List.getElem_toArray, List.getElem_cons_succ, List.getElem_cons_zero, List.setIfInBounds_toArray, List.set_cons_zero, List.set_cons_succ]
  refine wpAnyH_take (i := 17) (v := .int .i64 (p3 : Int)) rfl (by kernel_rfl) (by kernel_rfl) (by kernel_rfl) (fun _ _ _ h => h) (Or.inl ⟨by kernel_rfl, fun w hSw => ?_⟩) hS0' ?_
  · have hc : w.cell? ⟨ga, 3, none⟩ = some (.int .i64 (p3 : Int)) := hSw.2.cell rfl
    clear hSw
    go_simp
  try simp only [Act.put, List.getElem_toArray, List.getElem_cons_succ, List.getElem_cons_zero, List.setIfInBounds_toArray, List.set_cons_zero, List.set_cons_succ]
  refine wpAnyH_take (i := 18) (v := .pointer (some ⟨gv, p3, none⟩)) rfl (by kernel_rfl) (by kernel_rfl) (by kernel_rfl) (fun _ _ _ h => h) (Or.inl ⟨by kernel_rfl, fun w hSw => ?_⟩) hS0' ?_
  · go_simp
  try simp only [Act.put, List.getElem_toArray, List.getElem_cons_succ, List.getElem_cons_zero, List.setIfInBounds_toArray, List.set_cons_zero, List.set_cons_succ]
  refine wpAnyH_take (i := 19) (v := .int .u32 (a3.toNat : Int)) rfl (by kernel_rfl) (by kernel_rfl) (by kernel_rfl) (fun _ _ _ h => h) (Or.inl ⟨by kernel_rfl, fun w hSw => ?_⟩) hS0' ?_
  · have hc : w.cell? ⟨gv, p3, none⟩ = some (.int .u32 (a3.toNat : Int)) := by rw [HW3.out]; exact blk_ws hSw.1 (k := p3) (by omega)
    clear hSw
    go_simp
  try simp only [Act.put, List.getElem_toArray, List.getElem_cons_succ, List.getElem_cons_zero, List.setIfInBounds_toArray, List.set_cons_zero, List.set_cons_succ]
  refine wpAnyH_take (i := 20) (v := .agg #[.int .u32 (a0.toNat : Int), .int .u32 (a1.toNat : Int), .int .u32 (a2.toNat : Int), .int .u32 (a3.toNat : Int)]) rfl (by kernel_rfl) (by kernel_rfl) (by kernel_rfl) (fun _ _ _ h => h) (Or.inl ⟨by kernel_rfl, fun w hSw => ?_⟩) hS0' ?_
  · go_simp
  try simp only [Act.put, List.getElem_toArray, List.getElem_cons_succ, List.getElem_cons_zero, List.setIfInBounds_toArray, List.set_cons_zero, List.set_cons_succ]
  refine wpAnyH_take (i := 21) (v := .int .u32 (x.toNat : Int)) rfl (by kernel_rfl) (by kernel_rfl) (by kernel_rfl) (fun _ _ _ h => h) (Or.inl ⟨by kernel_rfl, fun w hSw => ?_⟩) hS0' ?_
  · go_simp
  try simp only [Act.put, List.getElem_toArray, List.getElem_cons_succ, List.getElem_cons_zero, List.setIfInBounds_toArray, List.set_cons_zero, List.set_cons_succ]
  refine wpAnyH_take (i := 22) (v := .int .u32 (y.toNat : Int)) rfl (by kernel_rfl) (by kernel_rfl) (by kernel_rfl) (fun _ _ _ h => h) (Or.inl ⟨by kernel_rfl, fun w hSw => ?_⟩) hS0' ?_
  · go_simp
  try simp only [Act.put, List.getElem_toArray, List.getElem_cons_succ, List.getElem_cons_zero, List.setIfInBounds_toArray, List.set_cons_zero, List.set_cons_succ]
  refine wpAnyH_ready (rs := [23, 24]) (by kernel_rfl) (by simp) ?_
  refine AllReadyH.cons (by rfl) ?_ ?_
  · intro K hK
    go_simp
    rw [← HQC.out]
    refine (mix_c q x y _).mono ?_
    rintro e wB ⟨rfl, hb⟩
    refine hK.out _ _ (pbelow hb hS0') (fun hS1 => ?_)
    clear hK K
    have HBB := Lib.hid (HBA.out.trans (Only.of_below hb gv))
    refine wpAnyH_ready (rs := [24]) (by kernel_rfl) (by simp) ?_
    refine AllReadyH.cons (by rfl) ?_ AllReadyH.nil
    intro K hK
    go_simp
    have hal := palloc (o := #[.int .u32 0, .int .u32 0, .int .u32 0, .int .u32 0]) (t := 23) hS1 HBB.out
    generalize wB.heap.size = g7 at hal ⊢
    generalize (World.alloc _ _) = wn at hal ⊢
    obtain ⟨hSB, hz, hb2, hv7, ha7, h07⟩ := hal
    have HZ := Lib.hid hz
    have HBB := Lib.hid hb2
    refine hK.out _ _ hSB (fun hS2 => ?_)
    clear hK K
    refine wpAnyH_ready (rs := [25]) (by kernel_rfl) (by simp) ?_
    refine all_readyH_yes (by rfl) (by kernel_rfl) ?_ AllReadyH.nil
    intro K hK
    with_reducible refine wp_store_blk 23 (.tmp 7) (.tmp 33) ?_ g7 23 _ (mix q x y).cells ?_ ?_ HZ.out ?_ (Quad.info _) (Quad.one _) ?_
    · kernel_rfl
    · kernel_rfl
    · kernel_rfl
    · rfl
    intro w6 hB6 hO6 hz6
    try simp only [Act.put, List.getElem_toArray, List.getElem_cons_succ, List.getElem_cons_zero, List.setIfInBounds_toArray, List.set_cons_zero, List.set_cons_succ]
    have hS6 := psides hSB hO6 hv7 ha7
    have HBF := Lib.hid (HBB.out.trans2 hO6 h07)
    have HQ := Lib.hid hB6
    clear hO6 hz6 hB6
    refine hK.out _ _ hS6 (fun hS7 => ?_)
    clear hK K
    refine wpAnyH_done (by kernel_rfl) ?_ _
    go_wp2_with fail
    obtain ⟨r, hr⟩ : ∃ r, r = mix q x y := ⟨_, rfl⟩
    rw [← hr] at HQ
    have HRR := Lib.hid hr
    clear hr
    have HX := Lib.hid hS7.1
    have HA6 := Lib.hid hS7.2
    have hl0 : V.length = 16 := hv
    have HVL := Lib.hid hv
    clear hS0' hS1 hSB hS2 hS6 hS7 hl0
    refine wp_loop_rounds 5 ?_
    rw [rounds_succ]
    have t0 := (HA6.out.cell (i := 0) (v := .int .i64 (p0 : Int)) rfl)
    have u0 := (HQ.out.cell (i := 0) (v := .int .u32 (r.a.toNat : Int)) rfl)
    have v0 := blk_ws HX.out (k := p0) (by simp [HVL.out]; omega)
    have f0 := HX.out.frozen p0
    have HX := Lib.hid (blk_ws_set HX.out p0 r.a)
    have HBF := Lib.hid (HBF.out.setCell (p := ⟨gv, p0, none⟩) (.inl rfl) (.int .u32 (r.a.toNat : Int)))
    have HA6 := Lib.hid (HA6.out.far (p := ⟨gv, p0, none⟩) hne.symm (.int .u32 (r.a.toNat : Int)))
    have HQ := Lib.hid (HQ.out.far (p := ⟨gv, p0, none⟩) hv7.symm (.int .u32 (r.a.toNat : Int)))
    go_wp2_with fail
    generalize (World.setCell _ _ _) = wx at HX HBF HA6 HQ ⊢
    clear t0 u0 v0 f0
    rw [rounds_succ]
    have t1 := (HA6.out.cell (i := 1) (v := .int .i64 (p1 : Int)) rfl)
    have u1 := (HQ.out.cell (i := 1) (v := .int .u32 (r.b.toNat : Int)) rfl)
    have v1 := blk_ws HX.out (k := p1) (by simp [HVL.out]; omega)
    have f1 := HX.out.frozen p1
    have HX := Lib.hid (blk_ws_set HX.out p1 r.b)
    have HBF := Lib.hid (HBF.out.setCell (p := ⟨gv, p1, none⟩) (.inl rfl) (.int .u32 (r.b.toNat : Int)))
    have HA6 := Lib.hid (HA6.out.far (p := ⟨gv, p1, none⟩) hne.symm (.int .u32 (r.b.toNat : Int)))
    have HQ := Lib.hid (HQ.out.far (p := ⟨gv, p1, none⟩) hv7.symm (.int .u32 (r.b.toNat : Int)))
    go_wp2_with fail
    generalize (World.setCell _ _ _) = wx at HX HBF HA6 HQ ⊢
    clear t1 u1 v1 f1
    rw [rounds_succ]
    have t2 := (HA6.out.cell (i := 2) (v := .int .i64 (p2 : Int)) rfl)
    have u2 := (HQ.out.cell (i := 2) (v := .int .u32 (r.c.toNat : Int)) rfl)
    have v2 := blk_ws HX.out (k := p2) (by simp [HVL.out]; omega)
    have f2 := HX.out.frozen p2
    have HX := Lib.hid (blk_ws_set HX.out p2 r.c)
    have HBF := Lib.hid (HBF.out.setCell (p := ⟨gv, p2, none⟩) (.inl rfl) (.int .u32 (r.c.toNat : Int)))
    have HA6 := Lib.hid (HA6.out.far (p := ⟨gv, p2, none⟩) hne.symm (.int .u32 (r.c.toNat : Int)))
    have HQ := Lib.hid (HQ.out.far (p := ⟨gv, p2, none⟩) hv7.symm (.int .u32 (r.c.toNat : Int)))
    go_wp2_with fail
    generalize (World.setCell _ _ _) = wx at HX HBF HA6 HQ ⊢
    clear t2 u2 v2 f2
    rw [rounds_succ]
    have t3 := (HA6.out.cell (i := 3) (v := .int .i64 (p3 : Int)) rfl)
    have u3 := (HQ.out.cell (i := 3) (v := .int .u32 (r.d.toNat : Int)) rfl)
    have v3 := blk_ws HX.out (k := p3) (by simp [HVL.out]; omega)
    have f3 := HX.out.frozen p3
    have HX := Lib.hid (blk_ws_set HX.out p3 r.d)
    have HBF := Lib.hid (HBF.out.setCell (p := ⟨gv, p3, none⟩) (.inl rfl) (.int .u32 (r.d.toNat : Int)))
    have HA6 := Lib.hid (HA6.out.far (p := ⟨gv, p3, none⟩) hne.symm (.int .u32 (r.d.toNat : Int)))
    have HQ := Lib.hid (HQ.out.far (p := ⟨gv, p3, none⟩) hv7.symm (.int .u32 (r.d.toNat : Int)))
    go_wp2_with fail
    generalize (World.setCell _ _ _) = wx at HX HBF HA6 HQ ⊢
    clear t3 u3 v3 f3
    rw [rounds_succ]
    go_wp2_with fail
    go_end0
    refine ⟨rfl, ?_, HBF.out⟩
    unfold mixAt
    rw [← HQQ.out, ← HRR.out]
    exact HX.out
  refine AllReadyH.cons (by rfl) ?_ AllReadyH.nil
  intro K hK
  go_simp
  have hal := palloc (o := #[.int .u32 0, .int .u32 0, .int .u32 0, .int .u32 0]) (t := 23) hS0' HBA.out
  generalize wA.heap.size = g7 at hal ⊢
  generalize (World.alloc _ _) = wn at hal ⊢
  obtain ⟨hS1, hz, hb2, hv7, ha7, h07⟩ := hal
  have HZ0 := Lib.hid hz
  have HBN := Lib.hid hb2
  refine hK.out _ _ hS1 (fun hS1' => ?_)
  clear hK K
  refine wpAnyH_ready (rs := [23]) (by kernel_rfl) (by simp) ?_
  refine AllReadyH.cons (by rfl) ?_ AllReadyH.nil
  intro K hK
  go_simp
  rw [← HQC.out]
  refine (mix_c q x y _).mono ?_
  rintro e wB ⟨rfl, hb⟩
  have hSB := pbelow hb hS1
  have HZ := Lib.hid (HZ0.out.below hb HZ0.out.lt)
  have HBB := Lib.hid (HBN.out.trans (Only.of_below hb gv))
  refine hK.out _ _ hSB (fun hS2 => ?_)
  clear hK K
  refine wpAnyH_ready (rs := [25]) (by kernel_rfl) (by simp) ?_
  refine all_readyH_yes (by rfl) (by kernel_rfl) ?_ AllReadyH.nil
  intro K hK
  with_reducible refine wp_store_blk 23 (.tmp 7) (.tmp 33) ?_ g7 23 _ (mix q x y).cells ?_ ?_ HZ.out ?_ (Quad.info _) (Quad.one _) ?_
  · kernel_rfl
  · kernel_rfl
  · kernel_rfl
  · rfl
  intro w6 hB6 hO6 hz6
  try simp only [Act.put, List.getElem_toArray, List.getElem_cons_succ, List.getElem_cons_zero, List.setIfInBounds_toArray, List.set_cons_zero, List.set_cons_succ]
  have hS6 := psides hSB hO6 hv7 ha7
  have HBF := Lib.hid (HBB.out.trans2 hO6 h07)
  have HQ := Lib.hid hB6
  clear hO6 hz6 hB6
  refine hK.out _ _ hS6 (fun hS7 => ?_)
  clear hK K
  refine wpAnyH_done (by kernel_rfl) ?_ _
  go_wp2_with fail
  obtain ⟨r, hr⟩ : ∃ r, r = mix q x y := ⟨_, rfl⟩
  rw [← hr] at HQ
  have HRR := Lib.hid hr
  clear hr
  have HX := Lib.hid hS7.1
  have HA6 := Lib.hid hS7.2
  have hl0 : V.length = 16 := hv
  have HVL := Lib.hid hv
  clear hS0' hS1 hSB hS2 hS6 hS7 hl0
  refine wp_loop_rounds 5 ?_
  rw [rounds_succ]
  have t0 := (HA6.out.cell (i := 0) (v := .int .i64 (p0 : Int)) rfl)
  have u0 := (HQ.out.cell (i := 0) (v := .int .u32 (r.a.toNat : Int)) rfl)
  have v0 := blk_ws HX.out (k := p0) (by simp [HVL.out]; omega)
  have f0 := HX.out.frozen p0
  have HX := Lib.hid (blk_ws_set HX.out p0 r.a)
  have HBF := Lib.hid (HBF.out.setCell (p := ⟨gv, p0, none⟩) (.inl rfl) (.int .u32 (r.a.toNat : Int)))
  have HA6 := Lib.hid (HA6.out.far (p := ⟨gv, p0, none⟩) hne.symm (.int .u32 (r.a.toNat : Int)))
  have HQ := Lib.hid (HQ.out.far (p := ⟨gv, p0, none⟩) hv7.symm (.int .u32 (r.a.toNat : Int)))
  go_wp2_with fail
  generalize (World.setCell _ _ _) = wx at HX HBF HA6 HQ ⊢
  clear t0 u0 v0 f0
  rw [rounds_succ]
  have t1 := (HA6.out.cell (i := 1) (v := .int .i64 (p1 : Int)) rfl)
  have u1 := (HQ.out.cell (i := 1) (v := .int .u32 (r.b.toNat : Int)) rfl)
  have v1 := blk_ws HX.out (k := p1) (by simp [HVL.out]; omega)
  have f1 := HX.out.frozen p1
  have HX := Lib.hid (blk_ws_set HX.out p1 r.b)
  have HBF := Lib.hid (HBF.out.setCell (p := ⟨gv, p1, none⟩) (.inl rfl) (.int .u32 (r.b.toNat : Int)))
  have HA6 := Lib.hid (HA6.out.far (p := ⟨gv, p1, none⟩) hne.symm (.int .u32 (r.b.toNat : Int)))
  have HQ := Lib.hid (HQ.out.far (p := ⟨gv, p1, none⟩) hv7.symm (.int .u32 (r.b.toNat : Int)))
  go_wp2_with fail
  generalize (World.setCell _ _ _) = wx at HX HBF HA6 HQ ⊢
  clear t1 u1 v1 f1
  rw [rounds_succ]
  have t2 := (HA6.out.cell (i := 2) (v := .int .i64 (p2 : Int)) rfl)
  have u2 := (HQ.out.cell (i := 2) (v := .int .u32 (r.c.toNat : Int)) rfl)
  have v2 := blk_ws HX.out (k := p2) (by simp [HVL.out]; omega)
  have f2 := HX.out.frozen p2
  have HX := Lib.hid (blk_ws_set HX.out p2 r.c)
  have HBF := Lib.hid (HBF.out.setCell (p := ⟨gv, p2, none⟩) (.inl rfl) (.int .u32 (r.c.toNat : Int)))
  have HA6 := Lib.hid (HA6.out.far (p := ⟨gv, p2, none⟩) hne.symm (.int .u32 (r.c.toNat : Int)))
  have HQ := Lib.hid (HQ.out.far (p := ⟨gv, p2, none⟩) hv7.symm (.int .u32 (r.c.toNat : Int)))
  go_wp2_with fail
  generalize (World.setCell _ _ _) = wx at HX HBF HA6 HQ ⊢
  clear t2 u2 v2 f2
  rw [rounds_succ]
  have t3 := (HA6.out.cell (i := 3) (v := .int .i64 (p3 : Int)) rfl)
  have u3 := (HQ.out.cell (i := 3) (v := .int .u32 (r.d.toNat : Int)) rfl)
  have v3 := blk_ws HX.out (k := p3) (by simp [HVL.out]; omega)
  have f3 := HX.out.frozen p3
  have HX := Lib.hid (blk_ws_set HX.out p3 r.d)
  have HBF := Lib.hid (HBF.out.setCell (p := ⟨gv, p3, none⟩) (.inl rfl) (.int .u32 (r.d.toNat : Int)))
  have HA6 := Lib.hid (HA6.out.far (p := ⟨gv, p3, none⟩) hne.symm (.int .u32 (r.d.toNat : Int)))
  have HQ := Lib.hid (HQ.out.far (p := ⟨gv, p3, none⟩) hv7.symm (.int .u32 (r.d.toNat : Int)))
  go_wp2_with fail
  generalize (World.setCell _ _ _) = wx at HX HBF HA6 HQ ⊢
  clear t3 u3 v3 f3
  rw [rounds_succ]
  go_wp2_with fail
  go_end0
  refine ⟨rfl, ?_, HBF.out⟩
  unfold mixAt
  rw [← HQQ.out, ← HRR.out]
  exact HX.out
end Go.Proofs.Yticgknjjhkgggaa
