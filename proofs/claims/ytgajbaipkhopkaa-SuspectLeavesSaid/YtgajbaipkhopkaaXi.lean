/- A watch against the reference's: is. -/
import Derived.Test.YtgajbaipkhopkaaXh
import Derived.Deep.RegionHeld3
namespace Go.Proofs.Ytgajbaipkhopkaa
open Go.RowKit
set_option linter.unusedSimpArgs false
set_option linter.unusedVariables false

set_option maxHeartbeats 400000 in
theorem now_c (b : Nat) (s : St) (w : World) (hW : IsW w b s) (hs : Sane s) :
    Calls Try.prog 20 #[.pointer (some ⟨b, 0, none⟩)] w fun e w' => e = .returned (.int .i64 s.now) ∧ w = w' := by
  have c1 := hs.c1
  have h0 := hW.c0
  have h1 := hW.c1
  have Hc0 : Hid ((s.c == 0) = false) := Lib.hid (by rw [beq_eq_false_iff_ne]; omega)
  go_enter Try.func20, Try.ntmps20
  go_wp2_with fail
  refine (none_no _ _ _ h1).mono ?_; rintro e w' ⟨rfl, rfl⟩
  rw [Hc0.out]
  go_wp2_with fail
  go_ret
  exact ⟨rfl, rfl⟩

theorem Wds.below {w w' : World} {base : Nat} {v : Value} {xs : List Wd} (h : Wds w base v xs) (hb : Below w.heap.size w w') : Wds w' base v xs := by
  refine World.ownsRow.kept (h : w.ownsRow _ _ _ _ _ _) (Only.of_below hb w.heap.size) ?_
  cases hv : v.ownBlock with
  | none => exact .inl rfl
  | some k =>
    have := (World.ownsRow.lt (h : w.ownsRow _ _ _ _ _ _) k hv).2
    exact .inr (fun e => by injection e with e; omega)
theorem yieldsIf_load_blk {P : Program} {ops : Array Oper} {S : World → Prop} {op : Oper} {a : Act} (hw : Region.wanted op (yielded ops a.tmps) = true) (ty : TypeId) (x : Operand) (ho : op.op = .load ty x)
    (g : Nat) (hx : a.eval x = .pointer (some ⟨g, 0, none⟩)) (t : TypeId) (cs : Array Value) (d : TypeDesc) (hS : ∀ w, S w → Blk w g t cs)
    (hu : P.underlying ty = some d) (hd : (match d with | .struct _ | .array _ _ => true | _ => false) = true) (hi : (P.info? ty).map (·.size) = some cs.size) : YieldsIf P ops S op (.agg cs) a :=
  .inl ⟨hw, fun w hw' => by
    unfold execOp
    simp only [ho, hx, Instr.loadAt, Instr.sureAddr, Sem.run_bind, Sem.run_pure, Result.andThen_ok, run_loadVar_row w g t ty cs (0, 0) d (hS w hw') hu hd hi]⟩
theorem is_keep {w0 w w' : World} {b g : Nat} {cs : Array Value} {s : St} {v : Value} (hb : Below w.heap.size w w')
    (h : Blk w g 35 cs ∧ IsR w g s ∧ IsW w b s ∧ Below w0.heap.size w0 w ∧ Wds w (g + 1) v s.list) : Blk w' g 35 cs ∧ IsR w' g s ∧ IsW w' b s ∧ Below w0.heap.size w0 w' ∧ Wds w' (g + 1) v s.list :=
  ⟨h.1.below hb h.1.lt, h.2.1.below hb h.2.1.lt, h.2.2.1.below hb h.2.2.1.lt, h.2.2.2.1.trans (hb.mono h.2.2.2.1.size), h.2.2.2.2.below hb⟩
theorem isW_drewN {w : World} {b : Nat} {s : St} (h : IsW w b s) (n : Nat) : IsW (w.drewN n) b s := h.below (below_drewN (Below.refl _ _) n) h.lt
/-- What the loop of 'is' keeps. -/
def IsRow3 (W : World) (base g cap k : Nat) (s : St) : Prop := ∃ L, W.ownsRow base 32 3 (.slice (some ⟨g, 0, none⟩) s.c.toNat cap) s.c.toNat L ∧ ∀ j, k ≤ j → j < s.c.toNat → L[j * 3]? = some (.int .i64 (s.pl j).since) ∧ L[j * 3 + 1]? = some (.int .i64 (s.pl j).wait) ∧ L[j * 3 + 2]? = some (.bool (s.pl j).susp)
def IsLoop (w0 W : World) (b g cap k : Nat) (cs : Array Value) (s : St) : Prop := Blk W w0.heap.size 35 cs ∧ IsR W w0.heap.size s ∧ IsW W b s ∧ Below w0.heap.size w0 W ∧ IsRow3 W (w0.heap.size + 1) g cap k s
theorem loop_below {w0 w w' : World} {b g cap k : Nat} {cs : Array Value} {s : St} (hb : Below w.heap.size w w') (h : IsLoop w0 w b g cap k cs s) : IsLoop w0 w' b g cap k cs s := by
  obtain ⟨h1, h2, h3, h4, L, h5, h6⟩ := h
  refine ⟨h1.below hb h1.lt, h2.below hb h2.lt, h3.below hb h3.lt, h4.trans (hb.mono h4.size), L, ?_, h6⟩
  refine World.ownsRow.kept h5 (Only.of_below hb w.heap.size) ?_
  have := (World.ownsRow.lt h5 g rfl).2
  exact .inr (fun e => by simp [Value.ownBlock] at e; omega)
theorem loop_store {w0 w : World} {b g cap k : Nat} {cs : Array Value} {s : St} (h : IsLoop w0 w b g cap k cs s) (hk : k < s.c.toNat) (u : Value) (hg : w0.heap.size < g) (hb : b < w0.heap.size) : IsLoop w0 (w.setCell ⟨g, k * 3 + 1, none⟩ u) b g cap (k + 1) cs s := by
  obtain ⟨h1, h2, h3, h4, L, h5, h6⟩ := h
  refine ⟨h1.far (p := ⟨g, k * 3 + 1, none⟩) (Nat.ne_of_lt hg) u, h2.far (p := ⟨g, k * 3 + 1, none⟩) (Nat.ne_of_lt hg) u, h3.far (p := ⟨g, k * 3 + 1, none⟩) (by show b ≠ g; omega) u, h4.setCell (p := ⟨g, k * 3 + 1, none⟩) (Nat.le_of_lt hg) u, L.set (k * 3 + 1) u, (h5.stored (k * 3 + 1) u).1, fun j hj hj2 => ?_⟩
  obtain ⟨a, b', c⟩ := h6 j (by omega) hj2
  rw [List.getElem?_set_ne (by omega), List.getElem?_set_ne (by omega), List.getElem?_set_ne (by omega)]
  exact ⟨a, b', c⟩
theorem row_start {W : World} {base g cap : Nat} {s : St} (h : Wds W base (.slice (some ⟨g, 0, none⟩) s.c.toNat cap) s.list) (hn : s.list.length = s.c.toNat) : IsRow3 W base g cap 0 s := by
  unfold Wds at h
  rw [hn] at h
  exact ⟨_, h, fun j _ hj => flat_at s.list j (s.pl j) (list_get hj)⟩
theorem row_cells {W : World} {base g cap n k : Nat} {s : St} {L : List Value} (h : W.ownsRow base 32 3 (.slice (some ⟨g, 0, none⟩) n cap) n L) (hn : n = s.c.toNat)
    (hL : ∀ j, k ≤ j → j < s.c.toNat → L[j * 3]? = some (.int .i64 (s.pl j).since) ∧ L[j * 3 + 1]? = some (.int .i64 (s.pl j).wait) ∧ L[j * 3 + 2]? = some (.bool (s.pl j).susp)) (hk : k < s.c.toNat) :
    W.cell? ⟨g, k * 3, none⟩ = some (.int .i64 (s.pl k).since) ∧ W.cell? ⟨g, k * 3 + 1, none⟩ = some (.int .i64 (s.pl k).wait) ∧ W.cell? ⟨g, k * 3 + 2, none⟩ = some (.bool (s.pl k).susp) := by
  obtain ⟨a, b, c⟩ := hL k (Nat.le_refl _) hk
  exact ⟨by rw [h.cellAt _ (by omega)]; exact a, by rw [h.cellAt _ (by omega)]; exact b, by rw [h.cellAt _ (by omega)]; exact c⟩
set_option maxHeartbeats 4000000 in
set_option maxRecDepth 100000 in
theorem is_c (b : Nat) (s : St) (cs : Array Value) (w : World) (hW : IsW w b s) (hs : Fair s) (h : RC cs s) (m : Nat) (hm : m < s.c.toNat) (hf : (s.pl m).susp = false) :
    Calls Try.prog 24 #[.pointer (some ⟨b, 0, none⟩), .agg cs] w fun e w' => e = .returned (.bool true) ∧ Below w.heap.size w w' := by
  have c1 := hs.sane.c1
  have c2 := hs.sane.c2
  have HW := Lib.hid hW
  have HR := Lib.hid h
  have HF := Lib.hid hf
  clear hW h hf
  have hblt := HW.out.lt
  go_enter Try.func24, Try.ntmps24
  go_wp2_with fail
  refine (state_any b s _ (HW.out.alloc _) hs.sane).mono ?_
  rintro e w2 ⟨v, rfl, hv, hb, hnn⟩
  obtain ⟨g, cap, rfl, hg, hg2, hat⟩ := wds_form hv hnn
  have hb' := ((Below.refl w.heap.size w).alloc (Nat.le_refl _) (.cells cs 35)).trans (hb.mono (by simp))
  have HK0 := Lib.hid ((Blk.new w 35 cs).below hb (by simp))
  have HI := Lib.hid (show IsR w2 w.heap.size s from ⟨cs, ((Blk.new w 35 cs).below hb (by simp)), HR.out⟩)
  have HW2 := Lib.hid (HW.out.below hb' hblt)
  have HB2 := Lib.hid hb'
  have HV := Lib.hid hv
  have HA := Lib.hid hat
  have hg3 : w.heap.size < g := by have := hg; simp at this; omega
  have HN := Lib.hid (list_len s)
  have hcn : ((s.c.toNat : Nat) : Int) = s.c := by omega
  clear hv hb hb' hat hnn hg
  rw [HN.out]
  go_wp2_with fail
  have HL : Hid (((sus s.list s.list.length).map Int.ofNat).length ≤ 1000000) := Lib.hid (by have := sus_len s.list s.list.length; rw [List.length_map]; have := HN.out; omega)
  have hV : Wds w2 (w.heap.size + 1) (.slice (some ⟨g, 0, none⟩) s.c.toNat cap) s.list := by
    have := HV.out
    rw [HN.out] at this
    simpa using this
  have hS0 := is_keep (w0 := w) (b := b) (g := w.heap.size) (cs := cs) (s := s) ((Below.refl _ _).drew) ⟨HK0.out, HI.out, HW2.out, HB2.out, hV⟩
  clear HW2 HK0 HB2 HV HA HI hV
  refine wp_region_held_drew (S := (fun W => Blk W w.heap.size 35 cs ∧ IsR W w.heap.size s ∧ IsW W b s ∧ Below w.heap.size w W ∧ Wds W (w.heap.size + 1) (.slice (some ⟨g, 0, none⟩) s.c.toNat cap) s.list)) (by kernel_rfl) hS0 ?_
  intro hS0'
  refine wpAnyH_take (i := 0) (v := .slice (some ⟨g, 0, none⟩) s.c.toNat cap) rfl (by kernel_rfl) (by kernel_rfl) (by kernel_rfl) (fun _ _ _ h => h) (Or.inl ⟨by kernel_rfl, fun w hSw => ?_⟩) hS0' ?_
  · go_simp
  try simp only [Act.put, List.setIfInBounds_toArray, List.set_cons_zero, List.set_cons_succ]
  refine wpAnyH_take (i := 1) (v := .int .i64 s.c) rfl (by kernel_rfl) (by kernel_rfl) (by kernel_rfl) (fun _ _ _ h => h) (Or.inl ⟨by kernel_rfl, fun w hSw => ?_⟩) hS0' ?_
  · go_simp
  try simp only [Act.put, List.setIfInBounds_toArray, List.set_cons_zero, List.set_cons_succ]
  refine wpAnyH_take (i := 2) (v := .pointer (some ⟨w.heap.size, 0, none⟩)) rfl (by kernel_rfl) (by kernel_rfl) (by kernel_rfl) (fun _ _ _ h => h) (Or.inl ⟨by kernel_rfl, fun w hSw => ?_⟩) hS0' ?_
  · go_simp
  try simp only [Act.put, List.setIfInBounds_toArray, List.set_cons_zero, List.set_cons_succ]
  refine wpAnyH_take (i := 3) (v := .int .i64 s.c) rfl (by kernel_rfl) (by kernel_rfl) (by kernel_rfl) (fun _ _ _ h => h) (Or.inl ⟨by kernel_rfl, fun w hSw => ?_⟩) hS0' ?_
  · have hcc := hSw.2.1
    have r0 := hcc.r0
    have r3 := hcc.r3
    clear hcc
    go_simp
  try simp only [Act.put, List.setIfInBounds_toArray, List.set_cons_zero, List.set_cons_succ]
  refine wpAnyH_take (i := 4) (v := .bool false) rfl (by kernel_rfl) (by kernel_rfl) (by kernel_rfl) (fun _ _ _ h => h) (Or.inl ⟨by kernel_rfl, fun w hSw => ?_⟩) hS0' ?_
  · go_simp
  try simp only [Act.put, List.setIfInBounds_toArray, List.set_cons_zero, List.set_cons_succ]
  refine wpAnyH_take (i := 5) (v := .bool false) rfl (by kernel_rfl) (by kernel_rfl) (by kernel_rfl) (fun _ _ _ h => h) (Or.inl ⟨by kernel_rfl, fun w hSw => ?_⟩) hS0' ?_
  · go_simp
  try simp only [Act.put, List.setIfInBounds_toArray, List.set_cons_zero, List.set_cons_succ]
  refine wpAnyH_take (i := 6) (v := .pointer (some ⟨b, 0, none⟩)) rfl (by kernel_rfl) (by kernel_rfl) (by kernel_rfl) (fun _ _ _ h => h) (Or.inl ⟨by kernel_rfl, fun w hSw => ?_⟩) hS0' ?_
  · go_simp
  try simp only [Act.put, List.setIfInBounds_toArray, List.set_cons_zero, List.set_cons_succ]
  refine wpAnyH_take (i := 8) (v := .pointer (some ⟨w.heap.size, 3, none⟩)) rfl (by kernel_rfl) (by kernel_rfl) (by kernel_rfl) (fun _ _ _ h => h) (Or.inl ⟨by kernel_rfl, fun w hSw => ?_⟩) hS0' ?_
  · go_simp
  try simp only [Act.put, List.setIfInBounds_toArray, List.set_cons_zero, List.set_cons_succ]
  refine wpAnyH_take (i := 9) (v := .int .i64 s.now) rfl (by kernel_rfl) (by kernel_rfl) (by kernel_rfl) (fun _ _ _ h => h) (Or.inl ⟨by kernel_rfl, fun w hSw => ?_⟩) hS0' ?_
  · have hcc := hSw.2.1
    have r0 := hcc.r0
    have r3 := hcc.r3
    clear hcc
    go_simp
  try simp only [Act.put, List.setIfInBounds_toArray, List.set_cons_zero, List.set_cons_succ]
  refine wpAnyH_ready (rs := [7]) (by kernel_rfl) (by simp) ?_
  refine AllReadyH.cons (by rfl) ?_ AllReadyH.nil
  intro K hK
  go_simp
  refine (now_c b s _ hS0'.2.2.1 hs.sane).mono ?_
  rintro e w' ⟨rfl, rfl⟩
  refine hK.out _ _ hS0' (fun hS1 => ?_)
  clear hK K
  refine wpAnyH_take (i := 10) (v := .bool false) rfl (by kernel_rfl) (by kernel_rfl) (by kernel_rfl) (fun _ _ _ h => h) (Or.inl ⟨by kernel_rfl, fun w hSw => ?_⟩) hS1 ?_
  · go_simp
  try simp only [Act.put, List.setIfInBounds_toArray, List.set_cons_zero, List.set_cons_succ]
  refine wpAnyH_take (i := 11) (v := .bool false) rfl (by kernel_rfl) (by kernel_rfl) (by kernel_rfl) (fun _ _ _ h => h) (Or.inl ⟨by kernel_rfl, fun w hSw => ?_⟩) hS1 ?_
  · go_simp
  try simp only [Act.put, List.setIfInBounds_toArray, List.set_cons_zero, List.set_cons_succ]
  refine wpAnyH_take (i := 12) (v := .bool false) rfl (by kernel_rfl) (by kernel_rfl) (by kernel_rfl) (fun _ _ _ h => h) (Or.inl ⟨by kernel_rfl, fun w hSw => ?_⟩) hS1 ?_
  · go_simp
  try simp only [Act.put, List.setIfInBounds_toArray, List.set_cons_zero, List.set_cons_succ]
  refine wpAnyH_take (i := 13) (v := .pointer (some ⟨b, 0, none⟩)) rfl (by kernel_rfl) (by kernel_rfl) (by kernel_rfl) (fun _ _ _ h => h) (Or.inl ⟨by kernel_rfl, fun w hSw => ?_⟩) hS1 ?_
  · go_simp
  try simp only [Act.put, List.setIfInBounds_toArray, List.set_cons_zero, List.set_cons_succ]
  refine wpAnyH_take (i := 15) (v := .agg cs) rfl (by kernel_rfl) (by kernel_rfl) (by kernel_rfl) (fun _ _ _ h => h) ?_ hS1 ?_
  · exact yieldsIf_load_blk (by kernel_rfl) 35 (.tmp 3) (by kernel_rfl) w.heap.size (by kernel_rfl) 35 cs _ (fun _ h => h.1) Try.underlying35 rfl HR.out.info
  try simp only [Act.put, List.setIfInBounds_toArray, List.set_cons_zero, List.set_cons_succ]
  refine wpAnyH_ready (rs := [14]) (by kernel_rfl) (by simp) ?_
  refine AllReadyH.cons (by rfl) ?_ AllReadyH.nil
  intro K hK
  go_simp
  refine (foremost_any _ _ _ (goes_any hS1.2.2.1 hs.sane)).mono ?_
  rintro e wB ⟨rfl, hb⟩
  refine hK.out _ _ (is_keep hb hS1) (fun hS2 => ?_)
  clear hK K
  refine wpAnyH_ready (rs := [16]) (by kernel_rfl) (by simp) ?_
  refine AllReadyH.cons (by rfl) ?_ AllReadyH.nil
  intro K hK
  go_simp
  refine (rfor_c cs s _ HR.out hs.sane m hm HF.out).mono ?_
  rintro e wC ⟨rfl, hb⟩
  refine hK.out _ _ (is_keep hb hS2) (fun hS3 => ?_)
  clear hK K
  refine wpAnyH_take (i := 17) (v := .bool false) rfl (by kernel_rfl) (by kernel_rfl) (by kernel_rfl) (fun _ _ _ h => h) (Or.inl ⟨by kernel_rfl, fun w hSw => ?_⟩) hS3 ?_
  · go_simp
  try simp only [Act.put, List.setIfInBounds_toArray, List.set_cons_zero, List.set_cons_succ]
  refine wpAnyH_take (i := 18) (v := .bool false) rfl (by kernel_rfl) (by kernel_rfl) (by kernel_rfl) (fun _ _ _ h => h) (Or.inl ⟨by kernel_rfl, fun w hSw => ?_⟩) hS3 ?_
  · go_simp
  try simp only [Act.put, List.setIfInBounds_toArray, List.set_cons_zero, List.set_cons_succ]
  refine wpAnyH_take (i := 19) (v := .bool false) rfl (by kernel_rfl) (by kernel_rfl) (by kernel_rfl) (fun _ _ _ h => h) (Or.inl ⟨by kernel_rfl, fun w hSw => ?_⟩) hS3 ?_
  · go_simp
  try simp only [Act.put, List.setIfInBounds_toArray, List.set_cons_zero, List.set_cons_succ]
  refine wpAnyH_take (i := 20) (v := .pointer (some ⟨b, 0, none⟩)) rfl (by kernel_rfl) (by kernel_rfl) (by kernel_rfl) (fun _ _ _ h => h) (Or.inl ⟨by kernel_rfl, fun w hSw => ?_⟩) hS3 ?_
  · go_simp
  try simp only [Act.put, List.setIfInBounds_toArray, List.set_cons_zero, List.set_cons_succ]
  refine wpAnyH_take (i := 22) (v := .agg cs) rfl (by kernel_rfl) (by kernel_rfl) (by kernel_rfl) (fun _ _ _ h => h) ?_ hS3 ?_
  · exact yieldsIf_load_blk (by kernel_rfl) 35 (.tmp 3) (by kernel_rfl) w.heap.size (by kernel_rfl) 35 cs _ (fun _ h => h.1) Try.underlying35 rfl HR.out.info
  try simp only [Act.put, List.setIfInBounds_toArray, List.set_cons_zero, List.set_cons_succ]
  refine wpAnyH_ready (rs := [21]) (by kernel_rfl) (by simp) ?_
  refine AllReadyH.cons (by rfl) ?_ AllReadyH.nil
  intro K hK
  go_simp
  refine (all_any _ _ _ (goes_any hS3.2.2.1 hs.sane)).mono ?_
  rintro e wD ⟨a1, d1, rfl, hi1, hb⟩
  have HR1 := Lib.hid hi1.ri
  clear hi1
  refine hK.out _ _ (is_keep hb hS3) (fun hS4 => ?_)
  clear hK K
  refine wpAnyH_ready (rs := [23]) (by kernel_rfl) (by simp) ?_
  refine AllReadyH.cons (by rfl) ?_ AllReadyH.nil
  intro K hK
  go_simp
  refine (rsus_c cs s _ HR.out hs.sane).mono ?_
  rintro e wE ⟨⟨v2, rfl, hi2⟩, hb⟩
  have HR2 := Lib.hid hi2.ri
  have HR1' := Lib.hid (HR1.out.kept hb)
  clear hi2
  refine hK.out _ _ (is_keep hb hS4) (fun hS5 => ?_)
  clear hK K
  refine wpAnyH_ready (rs := [24]) (by kernel_rfl) (by simp) ?_
  refine AllReadyH.cons (by rfl) ?_ AllReadyH.nil
  intro K hK
  go_simp
  refine (ints_as _ _ _ _ true _ HR1'.out HR2.out HL.out (by simp)).mono ?_
  rintro e wF ⟨rfl, hb⟩
  refine hK.out _ _ (is_keep hb hS5) (fun hS6 => ?_)
  clear hK K
  refine wpAnyH_take (i := 25) (v := .bool false) rfl (by kernel_rfl) (by kernel_rfl) (by kernel_rfl) (fun _ _ _ h => h) (Or.inl ⟨by kernel_rfl, fun w hSw => ?_⟩) hS6 ?_
  · go_simp
  try simp only [Act.put, List.setIfInBounds_toArray, List.set_cons_zero, List.set_cons_succ]
  refine wpAnyH_take (i := 26) (v := .bool false) rfl (by kernel_rfl) (by kernel_rfl) (by kernel_rfl) (fun _ _ _ h => h) (Or.inl ⟨by kernel_rfl, fun w hSw => ?_⟩) hS6 ?_
  · go_simp
  try simp only [Act.put, List.setIfInBounds_toArray, List.set_cons_zero, List.set_cons_succ]
  refine wpAnyH_done (by kernel_rfl) ?_ _
  go_wp2_with fail
  have hrow := row_start hS6.2.2.2.2 HN.out
  have hS7 := hS6
  clear hS0 hS0' hS1 hS2 hS3 hS4 hS5 hS6 HR1 HR2 HR1' HL hb
  have HROW := Lib.hid hrow
  have HS7 := Lib.hid hS7
  clear hrow hS7
  go_loopw [6] (fun i wr => ∃ k : Nat, k ≤ s.c.toNat ∧ i = .int .i64 k ∧ IsLoop w wr b g cap k cs s) (fun i _ => s.c.toNat - (intOf i).toNat)
  case atStart => exact ⟨0, Nat.zero_le _, rfl, HS7.out.1, HS7.out.2.1, HS7.out.2.2.1, HS7.out.2.2.2.1, HROW.out⟩
  case round =>
    obtain ⟨k, hk, rfl, hX⟩ := hrel
    have HX := Lib.hid hX; clear hX
    clear HROW HS7
    by_cases hlt : k < s.c.toNat
    · have hlt' : (k : Int) < s.c := by omega
      have j0 : (0 : Int) ≤ (k : Int) := by omega
      have j1 : (k : Int) < 9 := by omega
      have j2 : (k : Int) < (s.c.toNat : Int) := by omega
      obtain ⟨L, hown, hL⟩ := HX.out.2.2.2.2
      obtain ⟨l0, l1, l2⟩ := row_cells hown rfl hL hlt
      have p0 := HX.out.2.1.p0 (p := k) (by omega)
      have p1 := HX.out.2.1.p1 (p := k) (by omega)
      have p2 := HX.out.2.1.p2 (p := k) (by omega)
      have HOWN := Lib.hid hown; have HLL := Lib.hid hL
      clear hown hL
      go_wp2_with fail
      go_quiet ((go_at_call 17; exact ((susp_in b s k _ (isW_drewN HX.out.2.2.1 _) hs.sane hlt).mono fun _ _ h => ⟨h.1, _, h.2.symm⟩)))
      have HXq := Lib.hid (loop_below (below_drewN (Below.refl wr.heap.size wr) nq) HX.out)
      clear l0 l1 l2 p0 p1 p2 HOWN HLL HX
      generalize wr.drewN nq = w3 at HXq ⊢
      obtain ⟨L2, hown, hL⟩ := HXq.out.2.2.2.2
      obtain ⟨l0, l1, l2⟩ := row_cells hown rfl hL hlt
      have f1 := hown.frozenAt (k * 3 + 1)
      have x0 := hs.x0 k
      have x1 := hs.x1 k
      have x2 := hs.w1
      have HN2 := Lib.hid (loop_store HXq.out hlt (.int .i64 ((s.pl k).wait + 1)) hg3 hblt)
      clear hown hL
      go_wp2_with fail
      go_roundw
      case rel => exact ⟨k + 1, by omega, by go_num, HN2.out⟩
      case measure => simp [intOf]; omega
    · obtain rfl : k = s.c.toNat := by omega
      have r0 := HX.out.2.1.r0
      have Hi1 : Hid (inB (-1) 0 (s.c - 1) = false) := Lib.hid (by simp [inB])
      have Hi2 : Hid (inB s.c 0 (s.c - 1) = false) := Lib.hid (by simp [inB]; omega)
      go_wp2_with fail
      refine (susp_out b s _ _ HX.out.2.2.1 hs.sane Hi1.out).mono ?_
      rintro e w' ⟨rfl, rfl⟩
      go_wp2_with fail
      refine (susp_out b s _ _ HX.out.2.2.1 hs.sane Hi2.out).mono ?_
      rintro e w' ⟨rfl, rfl⟩
      go_wp2_with fail
      go_ret
      exact ⟨rfl, HX.out.2.2.2.1⟩
end Go.Proofs.Ytgajbaipkhopkaa
