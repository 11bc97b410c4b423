/- Contracts: strings.Builder, written. Contracts: strings.Builder, a byte. Contracts: strings.Builder, its string. -/
import Derived.Test.YtomnjhhpeglcnaaGreatZu
namespace Go.Proofs.YtomnjhhpeglcnaaGreat
open Go.RowKit Go.Shelf
set_option linter.unusedSimpArgs false
set_option linter.unusedVariables false
set_option maxRecDepth 100000

theorem infoBuilder : (Tryz.prog.info? 89).map (·.size) = some 2 := by kernel_rfl
set_option maxHeartbeats 1000000 in
theorem copyCheck_used (b : Nat) (w : World) (h0 : w.cell? ⟨b, 0, none⟩ = some (.pointer (some ⟨b, 0, none⟩))) :
    Calls Tryz.prog 68 #[.pointer (some ⟨b, 0, none⟩)] w fun e w' => e = .returned (.tuple #[]) ∧ w = w' := by
  obtain ⟨j, hj, _⟩ := Option.map_eq_some_iff.1 infoBuilder
  go_enter Tryz.func68, Tryz.ntmps68
  go_wp2
  rw [Lib.run_neq_ptr_same w _ Tryz.underlying87 hj]
  go_wp2
  go_end0
  exact ⟨rfl, rfl⟩
set_option maxHeartbeats 1000000 in
theorem copyCheck_fresh (b : Nat) (w : World) (h0 : w.cell? ⟨b, 0, none⟩ = some (.pointer none)) (hsh : w.shape? b = some (89, 2)) (hfz : w.frozen? ⟨b, 0, none⟩ = false) :
    Calls Tryz.prog 68 #[.pointer (some ⟨b, 0, none⟩)] w fun e w' => e = .returned (.tuple #[]) ∧ w' = w.setCell ⟨b, 0, none⟩ (.pointer (some ⟨b, 0, none⟩)) := by
  obtain ⟨j, hj, hjs⟩ := Option.map_eq_some_iff.1 infoBuilder
  go_enter Tryz.func68, Tryz.ntmps68
  go_wp2
  rw [Lib.run_to_unsafe w ⟨b, 0, none⟩ Tryz.underlying87 Tryz.underlying137 hj (by rw [hjs]; decide) hsh (Nat.zero_lt_succ 1)]
  simp only [Result.andThen]
  rw [Oper.upon_value]
  go_wp2
  rw [run_callFunc_extern Tryz.func82 (by kernel_rfl) (by kernel_rfl) (by kernel_rfl) (e := Extern.AbiNoEscape.same) (by kernel_rfl)]
  rw [Lib.run_noEscape]
  simp only [Result.andThen]
  rw [Oper.upon_value]
  go_wp2
  rw [Lib.run_from_unsafe w ⟨b, 0, none⟩ Tryz.underlying137 Tryz.underlying87 hj hsh (by kernel_rfl)]
  simp only [Result.andThen]
  rw [Oper.upon_value]
  go_wp2
  go_end0
  exact ⟨rfl, rfl⟩
theorem copyCheck_c (B b : Nat) (bs : List Value) (w : World) (h : Lib.IsBuilder 89 5 B b bs w) :
    Calls Tryz.prog 68 #[.pointer (some ⟨b, 0, none⟩)] w fun e w' => e = .returned (.tuple #[]) ∧ (Lib.BuilderAt 89 5 B b (.pointer (some ⟨b, 0, none⟩)) bs w' ∧ Tch (fun i => i = b) w w') := by
  rcases h with h | h
  · refine (copyCheck_fresh b w h.cell0 h.shape h.frozen0).mono ?_
    rintro e w' ⟨rfl, rfl⟩
    exact ⟨rfl, h.used _, Tch.setCell (S := fun i => i = b) (Tch.refl _ w) (p := ⟨b, 0, none⟩) (.inl rfl) _⟩
  · refine (copyCheck_used b w h.cell0).mono ?_
    rintro e w' ⟨rfl, rfl⟩
    exact ⟨rfl, h, Tch.refl _ _⟩
end Go.Proofs.YtomnjhhpeglcnaaGreat

namespace Go.Proofs.YtomnjhhpeglcnaaGreat
open Go.RowKit Go.Shelf
set_option linter.unusedSimpArgs false
set_option linter.unusedVariables false
set_option maxRecDepth 100000

/-- A builder in block b that holds bytes, its row from D on. -/
def Bld (w : World) (D b : Nat) (l : List By) : Prop := ∃ p v, (p = .pointer none ∨ p = .pointer (some ⟨b, 0, none⟩)) ∧ Blk w b 89 #[p, v] ∧ OwnB w D v l
theorem Bld.tch {S : Nat → Prop} {w w' : World} {D b : Nat} {l : List By} (h : Bld w D b l) (ht : Tch S w w') (hb : ¬ S b) (hS : ∀ i, S i → i < D) : Bld w' D b l := by
  obtain ⟨p, v, hp, hk, ho⟩ := h
  exact ⟨p, v, hp, ht.blk hk hb, ht.own ho (fun i e e2 => by have := (own_lt ho i e).1; have := hS i e2; omega)⟩
set_option maxHeartbeats 1000000 in
theorem wbyte_c (D b : Nat) (l : List By) (x : By) (w : World) (h : Bld w D b l) (hlen : l.length ≤ 1000000000) (hb : b < D) (hD : D ≤ w.heap.size) :
    Calls Tryz.prog 49 #[.pointer (some ⟨b, 0, none⟩), .int .u8 (x.toNat : Int)] w fun e w' => e = .returned .nilIface ∧ Bld w' D b (l ++ [x]) ∧ Tch (fun i => i = b ∨ D ≤ i) w w' := by
  obtain ⟨p, v, hp, hk, ho⟩ := h
  have hcc : Calls Tryz.prog 68 #[.pointer (some ⟨b, 0, none⟩)] w fun e w' => e = .returned (.tuple #[]) ∧ Blk w' b 89 #[.pointer (some ⟨b, 0, none⟩), v] ∧ OwnB w' D v l ∧ Tch (fun i => i = b) w w' := by
    rcases hp with rfl | rfl
    · refine (copyCheck_fresh b w (hk.cell rfl) (by unfold Blk at hk; simp [World.shape?, hk]) (hk.frozen 0)).mono ?_
      rintro e w' ⟨rfl, rfl⟩
      have ht := Tch.setCell (S := fun i => i = b) (Tch.refl _ w) (p := ⟨b, 0, none⟩) (.inl rfl) (.pointer (some ⟨b, 0, none⟩))
      exact ⟨rfl, hk.set 0 _, ht.own ho (fun i e e2 => by have := (own_lt ho i e).1; omega), ht⟩
    · refine (copyCheck_used b w (hk.cell rfl)).mono ?_
      rintro e w' ⟨rfl, rfl⟩
      exact ⟨rfl, hk, ho, Tch.refl _ _⟩
  clear hk ho hp
  go_enter Tryz.func49, Tryz.ntmps49
  go_wp2_with fail
  refine hcc.mono ?_
  rintro e w1 ⟨rfl, hk1, ho1, ht1⟩
  clear hcc
  have c1 : w1.cell? ⟨b, 1, none⟩ = some v := hk1.cell rfl
  have hal := (Below.refl w1.heap.size w1).alloc (Nat.le_refl _) (.cells #[.int .u8 (x.toNat : Int)] 5)
  have HOa := Lib.hid (ho1.below hal)
  have HYa : Hid (Bys (w1.alloc (.cells #[.int .u8 (x.toNat : Int)] 5)) (some ⟨w1.heap.size, 0, none⟩) 1 [x]) := Lib.hid (bys_blk (l := [x]) (Blk.new w1 5 #[.int .u8 (x.toNat : Int)]))
  have HKa := Lib.hid (hk1.below hal hk1.lt)
  have HTa : Hid (Tch (fun i => i = b ∨ D ≤ i) w (w1.alloc (.cells #[.int .u8 (x.toNat : Int)] 5))) := Lib.hid ((ht1.mono (fun i _ e => .inl e)).alloc _)
  have hz1 : D ≤ w1.heap.size := Nat.le_trans hD ht1.size
  have hlt1 := hk1.lt
  clear hk1 ho1 ht1 hal
  go_wp2_with (at_builtin; refine wpl_append_bys rfl _ _ rfl D v l rfl HOa.out (some ⟨w1.heap.size, 0, none⟩) 1 1 [x] rfl HYa.out (by omega) (by simp; omega) ?_)
  intro v' w2 ho2 hg2 _
  obtain ⟨a2, c2, hv2, -, -⟩ := ho2.bys
  obtain ⟨n2, hn2⟩ : ∃ n2, v' = .slice a2 n2 c2 := ⟨_, hv2⟩
  clear hv2
  subst hn2
  have hk2 : Blk w2 b 89 #[.pointer (some ⟨b, 0, none⟩), v] := HKa.out.grown hg2 (fun e => by have := (own_lt HOa.out b e.symm).1; omega)
  have d1 : w2.cell? ⟨b, 1, none⟩ = some v := hk2.cell rfl
  have f1 : w2.frozen? ⟨b, 1, none⟩ = false := hk2.frozen 1
  have HK2 := Lib.hid hk2; have HO2 := Lib.hid ho2
  have HT2 : Hid (Tch (fun i => i = b ∨ D ≤ i) w w2) := Lib.hid (HTa.out.trans (Tch.of_grown hg2) (fun i _ e => .inr (own_lt HOa.out i e).1))
  clear hk2 ho2 hg2
  go_wp2_with fail
  go_ret
  have ht := Tch.setCell (S := fun i => i = b) (Tch.refl _ w2) (p := ⟨b, 1, none⟩) (.inl rfl) (.slice a2 n2 c2)
  exact ⟨rfl, ⟨_, _, .inr rfl, HK2.out.set 1 _, ht.own HO2.out (fun i e e2 => by have := (own_lt HO2.out i e).1; omega)⟩, HT2.out.setCell (p := ⟨b, 1, none⟩) (.inl (.inl rfl)) _⟩
end Go.Proofs.YtomnjhhpeglcnaaGreat

namespace Go.Proofs.YtomnjhhpeglcnaaGreat
open Go.RowKit Go.Shelf
set_option linter.unusedSimpArgs false
set_option linter.unusedVariables false
set_option maxRecDepth 100000

theorem bl_byteCells (l : List By) : Lib.byteCells (l.map UInt8.ofBitVec) = bl l := by
  simp [Lib.byteCells, bl]
set_option maxHeartbeats 2000000 in
theorem bstr_full (D b : Nat) (l : List UInt8) (p v : Value) (w : World) (hbk : w.heap[b]? = some (.cells #[p, v] 89 (0, 0))) (hown : w.ownsRow D 5 1 v l.length (Lib.byteCells l)) (h0 : l ≠ []) :
    Calls Tryz.prog 50 #[.pointer (some ⟨b, 0, none⟩)] w fun e w' => e = .returned (.string ⟨l.toArray⟩) ∧ Below D w w' := by
  have hl0 : l.length ≠ 0 := by simpa using h0
  obtain ⟨g, cap, cur, rfl, hbg, hg, hnc, hcm, hcs, htake⟩ : ∃ g cap cur, v = .slice (some ⟨g, 0, none⟩) l.length cap ∧ D ≤ g ∧ w.heap[g]? = some (.cells cur 5 (0, 0)) ∧ l.length ≤ cap ∧ cap ≤ maxLen ∧ cur.size = cap * 1 ∧ cur.toList.take (l.length * 1) = Lib.byteCells l := by
    rcases hown.2 with ⟨_, hz⟩ | ⟨g, cap, cur, hv, r⟩
    · exact absurd hz hl0
    · exact ⟨g, cap, cur, hv, r⟩
  have c1 : w.drew.cell? ⟨b, 1, none⟩ = some (.slice (some ⟨g, 0, none⟩) l.length cap) := by
    have : w.drew.heap[b]? = some (.cells #[p, .slice (some ⟨g, 0, none⟩) l.length cap] 89 (0, 0)) := hbk
    rw [Lib.cell_of_heap this]; rfl
  have hSD : (Builtin.unsafeSliceData_ #[40] 119 #[.slice (some ⟨g, 0, none⟩) l.length cap]).run Tryz.prog w.drew = .ok (.pointer (some ⟨g, 0, none⟩)) w.drew :=
    Lib.run_unsafeSliceData_row _ _ _ _ _ _ (by omega)
  have hUS : (Builtin.unsafeString_ #[119, 3] 9 #[.pointer (some ⟨g, 0, none⟩), .int .i64 l.length]).run Tryz.prog w.drew = .ok (.string ⟨l.toArray⟩) (w.drew.freeze ⟨g, 0, none⟩ l.length) := by
    refine Lib.run_unsafeString_row w.drew 119 3 9 5 Tryz.underlying119 Tryz.Builder_Extra_169.cellsByte g cur.size (by have hg' : w.drew.heap[g]? = some (.cells cur 5 (0, 0)) := hg; simp [World.shape?, hg']) l h0 (by omega) (by unfold maxLen at hcm; omega) ?_
    intro j x hx
    have := hown.cells (g := g) rfl j (.int .u8 x.toNat) (by simp [Lib.byteCells, hx])
    exact this
  have mixed := Tryz.lays169.mixed
  go_enter Tryz.func50, Tryz.ntmps50
  go_wp2
  go_region_o
  all_goals (go_wp2; go_ret; exact ⟨rfl, Lib.below_freeze (Below.drew (Below.refl D w)) (p := ⟨g, 0, none⟩) hbg _⟩)
theorem bstr_c (D b : Nat) (l : List By) (w : World) (h : Bld w D b l) (hbD : b < D) (hBw : D ≤ w.heap.size) :
    Calls Tryz.prog 50 #[.pointer (some ⟨b, 0, none⟩)] w fun e w' => e = .returned (.string (strOf l)) ∧ Below D w w' := by
  obtain ⟨p, v, hp, hk, ho⟩ := h
  cases l with
  | nil =>
    rcases ho.2 with ⟨rfl, _⟩ | ⟨g, cap, cur, rfl, hbg, hg, _⟩
    · exact Any.Builder_String_nil Tryz.lays169 Tryz.Builder_Extra_169 D b p w hk
    · by_cases hc : cap = 0
      · subst hc
        exact Any.Builder_String_noroom Tryz.lays169 Tryz.Builder_Extra_169 D b g p cur w hBw hk hg
      · exact Any.Builder_String_room Tryz.lays169 Tryz.Builder_Extra_169 D b g cap p w hc hk
  | cons c r =>
    refine bstr_full D b ((c :: r).map UInt8.ofBitVec) p v w hk ?_ (by simp)
    rw [bl_byteCells, List.length_map]
    exact ho
end Go.Proofs.YtomnjhhpeglcnaaGreat
