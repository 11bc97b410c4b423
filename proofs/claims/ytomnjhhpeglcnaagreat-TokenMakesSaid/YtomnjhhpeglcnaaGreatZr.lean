/- Contracts: a key's block, halves. Contracts: halves. Contracts: a tag under way. Contracts: a tag under way, call by call. Contracts: a tag under way: writing, the tag. Contracts: tags of parts, the first bytes of one. -/
import Derived.Test.YtomnjhhpeglcnaaGreatZq
namespace Go.Proofs.YtomnjhhpeglcnaaGreat
open Go.RowKit
set_option linter.unusedSimpArgs false
set_option linter.unusedVariables false
set_option maxRecDepth 100000

/-! ### Plain -/
def H32 (l : List By) : List By := keyed 32 [] l
theorem H32_len (l : List By) : (H32 l).length = 32 := keyed_len 32 [] l (by decide)
def keyBlk (key : List By) : List By := pad (if 64 < key.length then H32 key else key)
theorem keyBlk_len (key : List By) : (keyBlk key).length = 64 := by
  unfold keyBlk
  split
  · exact pad_len _ (by rw [H32_len]; decide)
  · exact pad_len _ (by omega)
def xorB (by_ : By) (l : List By) : List By := l.map (· ^^^ by_)
theorem xorB_len (b : By) (l : List By) : (xorB b l).length = l.length := by simp [xorB]
def tagB (key msg : List By) : List By := H32 (xorB 92 (keyBlk key) ++ H32 (xorB 54 (keyBlk key) ++ msg))
theorem tagB_len (key msg : List By) : (tagB key msg).length = 32 := H32_len _

theorem zeroBlock (w : World) : (zeroValue 152).run Tryz.prog w = .ok (.agg (bya (List.replicate 64 0#8))) w := by kernel_rfl
theorem run_arr64 (g : Nat) (w : World) (cs : Array Value) (t : TypeId) : True := trivial
theorem bys_blk {w : World} {g : Nat} {t : TypeId} {l : List By} (h : Blk w g t (bya l)) : Bys w (some ⟨g, 0, none⟩) l.length l := by
  refine ⟨rfl, fun i c hi => ⟨g, 0, rfl, h.lt, ?_⟩⟩
  rw [Nat.zero_add]
  refine h.cell ?_
  simp [bya, hi]
theorem info125 : (Tryz.prog.info? 152).map (·.size) = some 64 := by kernel_rfl
theorem info104 : (Tryz.prog.info? 134).map (·.size) = some 32 := by kernel_rfl
set_option maxHeartbeats 1000000 in
theorem of_c (a : Option Addr) (n c : Nat) (key : List By) (w : World) (hk : Bys w a n key) (hn : n ≤ 1000000) :
    Calls Tryz.prog 91 #[.slice a n c] w fun e w' => e = .returned (.agg (bya (keyBlk key))) ∧ Below w.heap.size w w' := by
  have HK := Lib.hid hk
  have hkl := hk.1
  clear hk
  have z := zeroBlock
  obtain ⟨Z, hZ⟩ : ∃ Z, Z = bya (List.replicate 64 0#8) := ⟨_, rfl⟩
  rw [← hZ] at z
  have HR : Hid (Blk (w.alloc (.cells Z 152)) w.heap.size 152 (bya (List.replicate 64 0#8))) := Lib.hid (by rw [← hZ]; exact Blk.new w 152 Z)
  have HB0 := Lib.hid ((Below.refl w.heap.size w).alloc (Nat.le_refl _) (.cells Z 152))
  have hzs : (w.alloc (.cells Z 152)).heap.size = w.heap.size + 1 := by simp
  clear hZ
  rcases Nat.lt_or_ge 64 n with h64 | h64
  · have q1 : (64 : Int) < (n : Int) := by omega
    have HKB : Hid (keyBlk key = pad (H32 key)) := Lib.hid (by unfold keyBlk; rw [if_pos (by omega)])
    obtain ⟨w1, hw1⟩ : ∃ w1, w1 = w.alloc (.cells Z 152) := ⟨_, rfl⟩
    rw [← hw1] at HR HB0 hzs
    have HK1 := Lib.hid (HK.out.below HB0.out)
    have hal := (Below.refl w1.heap.size w1).alloc (Nat.le_refl _) (.cells #[.slice a n c] 40)
    have HP : Hid (Prs (w1.alloc (.cells #[.slice a n c] 40)) (some ⟨w1.heap.size, 0, none⟩) 1 [key]) := Lib.hid ⟨rfl, fun i p hi => by
      match i with
      | 0 =>
        simp at hi
        subst hi
        exact ⟨by omega, w1.heap.size, 0, a, c, rfl, by simp, by rw [hkl]; exact blk0 rfl, by rw [hkl]; exact HK1.out.below hal⟩
      | j + 1 => simp at hi⟩
    have HB1 := Lib.hid (HB0.out.trans (hal.mono HB0.out.size))
    have HR1 := Lib.hid (HR.out.below hal HR.out.lt)
    have z32 := zero36
    obtain ⟨Y, hY⟩ : ∃ Y, Y = bya (List.replicate 32 0#8) := ⟨_, rfl⟩
    rw [← hY] at z32
    have HY : Hid (Y.size = 32) := Lib.hid (by rw [hY]; rfl)
    rw [hw1, World.size_alloc] at HP
    rw [hw1] at HB1 HR1
    clear hal hY HK1 hw1
    go_enter Tryz.func91, Tryz.ntmps91
    go_wp2_with fail
    generalize (World.alloc _ _) = w2 at HP HB1 HR1 ⊢
    refine (bsum_c _ 1 1 [key] w2 HP.out (by decide) (by simp; omega)).mono ?_
    rintro e w3 ⟨rfl, hb3⟩
    have ekk : keyed 32 [] [key].flatten = H32 key := by simp [H32]
    rw [ekk]
    obtain ⟨hh, hhe⟩ : ∃ hh, hh = H32 key := ⟨_, rfl⟩
    rw [← hhe] at HKB ⊢
    have hhl : hh.length = 32 := by rw [hhe, H32_len]
    have HHL := Lib.hid hhl
    have HB3 := Lib.hid (HB1.out.trans (hb3.mono HB1.out.size))
    have HR3 := Lib.hid (HR1.out.below hb3 HR1.out.lt)
    have hws : w.heap.size < w3.heap.size := HR3.out.lt
    clear hb3 ekk hhe hhl HP HB1 HR1
    obtain ⟨R, hR⟩ : ∃ R, R = bya (keyBlk key) := ⟨_, rfl⟩
    have HRE : Hid (R = bya (keyBlk key)) := Lib.hid hR
    have HKL : Hid (R.size = 64) := Lib.hid (by rw [hR, bya_size, keyBlk_len])
    have HKO : Hid (R.all (·.oneCell') = true) := Lib.hid (by rw [hR]; exact bya_one _)
    have hkx : Hid (bya (hh ++ (List.replicate 64 0#8).drop 32) = R) := Lib.hid (by rw [hR, HKB.out, ← HHL.out, pad_copy hh (by rw [HHL.out]; decide)])
    have hwne : w3.heap.size ≠ w.heap.size := by omega
    clear hR
    go_wp2_with (first | (refine wpl_store_blk rfl 134 _ _ rfl w3.heap.size 134 Y (bya hh) rfl rfl (Blk.new w3 134 Y) (by rw [HY.out, bya_size, HHL.out]) (by rw [bya_size, HHL.out]; exact info104) (bya_one hh) ?_; intro w4 hB4 hO4 hz4; have HB4 := Lib.hid hB4; have HY4 : Hid (Bys w4 (some ⟨w3.heap.size, 0, none⟩) 32 hh) := Lib.hid (by have := bys_blk hB4; rw [HHL.out] at this; exact this); have HR4 := Lib.hid (hO4.blk (HR3.out.alloc _) (Ne.symm hwne)); have HBL4 := Lib.hid ((HB3.out.alloc HB3.out.size (.cells Y 134)).trans (hO4.below (B := w.heap.size) (by simp; omega) (by omega))); clear hB4 hO4 hz4) | (refine wpl_copy_bys rfl _ _ rfl w.heap.size (List.replicate 64 0#8) 152 (some ⟨w3.heap.size, 0, none⟩) 32 32 64 64 hh rfl rfl HR4.out HY4.out (by decide) (by simp) ?_; intro w5 hB5 hO5 hz5; have HB2 : Hid (Blk w5 w.heap.size 152 R) := Lib.hid (by rw [← hkx.out]; exact hB5); have HBL := Lib.hid (HBL4.out.trans (hO5.below (B := w.heap.size) HBL4.out.size (Nat.le_refl _))); clear hB5 hO5 hz5) | (refine wpl_load_blk rfl 152 _ rfl w.heap.size rfl 152 _ _ HB2.out Tryz.underlying152 rfl (by rw [HKL.out]; exact info125) ?_) | (refine wpl_store_blk rfl 152 _ _ rfl w.heap.size 152 _ R rfl rfl HB2.out rfl (by rw [HKL.out]; exact info125) HKO.out ?_; intro w6 hB6 hO6 hz6))
    exact bodyPost_ret (results_cell_row rfl _ _ w.heap.size 152 _ (0, 0) _ rfl hB6 Tryz.underlying152 rfl (by rw [HKL.out]; exact info125)) rfl ⟨by rw [HRE.out], HBL.out.trans (hO6.below (B := w.heap.size) HBL.out.size (Nat.le_refl _))⟩
  · have q1 : ¬ (64 : Int) < (n : Int) := by omega
    have HKB : Hid (keyBlk key = pad key) := Lib.hid (by unfold keyBlk; rw [if_neg (by omega)])
    have HK1 := Lib.hid (HK.out.below HB0.out)
    obtain ⟨R, hR⟩ : ∃ R, R = bya (keyBlk key) := ⟨_, rfl⟩
    have HRE : Hid (R = bya (keyBlk key)) := Lib.hid hR
    have HKL : Hid (R.size = 64) := Lib.hid (by rw [hR, bya_size, keyBlk_len])
    have HKO : Hid (R.all (·.oneCell') = true) := Lib.hid (by rw [hR]; exact bya_one _)
    have hkx : Hid (bya (key ++ (List.replicate 64 0#8).drop n) = R) := Lib.hid (by rw [hR, HKB.out, ← hkl, pad_copy key (by omega)])
    clear hR
    go_enter Tryz.func91, Tryz.ntmps91
    go_wp2_with (first | (refine wpl_copy_bys rfl _ _ rfl w.heap.size (List.replicate 64 0#8) 152 a n c 64 64 key rfl rfl HR.out HK1.out h64 (by simp) ?_; intro w2 hB2 hO2 hz2; have HB2 : Hid (Blk w2 w.heap.size 152 R) := Lib.hid (by rw [← hkx.out]; exact hB2); have HBL := Lib.hid (HB0.out.trans (hO2.below (B := w.heap.size) HB0.out.size (Nat.le_refl _))); clear hB2 hO2 hz2) | (refine wpl_load_blk rfl 152 _ rfl w.heap.size rfl 152 _ _ HB2.out Tryz.underlying152 rfl (by rw [HKL.out]; exact info125) ?_) | (refine wpl_store_blk rfl 152 _ _ rfl w.heap.size 152 _ R rfl rfl HB2.out rfl (by rw [HKL.out]; exact info125) HKO.out ?_; intro w6 hB6 hO6 hz6))
    exact bodyPost_ret (results_cell_row rfl _ _ w.heap.size 152 _ (0, 0) _ rfl hB6 Tryz.underlying152 rfl (by rw [HKL.out]; exact info125)) rfl ⟨by rw [HRE.out], HBL.out.trans (hO6.below (B := w.heap.size) HBL.out.size (Nat.le_refl _))⟩
end Go.Proofs.YtomnjhhpeglcnaaGreat

namespace Go.Proofs.YtomnjhhpeglcnaaGreat
open Go.RowKit
set_option linter.unusedSimpArgs false
set_option linter.unusedVariables false
set_option maxRecDepth 100000

theorem index_bya (B : List By) (hB : B.length = 64) (k : Nat) (x : By) (hx : B[k]? = some x) (w : World) : (Instr.index 152 (.agg (bya B)) (.int .i64 (k : Int))).run Tryz.prog w = .ok (.int .u8 (x.toNat : Int)) w := by
  obtain ⟨i0, hi, hz0, hz1, hz2⟩ := info_parts info5
  have hk : k < 64 := by rw [← hB]; exact (List.getElem?_eq_some_iff.1 hx).1
  have hc : (bya B)[k]? = some (.int .u8 (x.toNat : Int)) := by simp [bya, hx]
  simp [Instr.index, asIntOf, run_underlying Tryz.underlying152, sizeOf, typeInfo, hi, hz1, hk, part, run_underlying Tryz.underlying5, hc]
theorem xor8 (x y : By) : bits .xor .u8 (x.toNat : Int) (y.toNat : Int) = ((x ^^^ y).toNat : Int) := by
  rw [u8_xor_nat _ _ x.isLt y.isLt, BitVec.toNat_xor]
theorem halves_c (B : List By) (w : World) : Calls Tryz.prog 93 #[.agg (bya B)] w fun e w' => e = .returned (.func (.func 103) #[] #[.pointer (some ⟨w.heap.size, 0, none⟩)]) ∧ w' = w.alloc (.cells (bya B) 152) := by
  have hmf : ∀ (fn : Fn) (first cap : Array Value) (w : World), (Instr.makeFunc fn first cap).run Tryz.prog w = .ok (.func fn first cap) w := fun _ _ _ _ => rfl
  generalize bya B = R
  go_enter Tryz.func93, Tryz.ntmps93
  go_wp2_with fail
  go_ret
  exact ⟨rfl, rfl⟩
set_option maxHeartbeats 1000000 in
theorem half_of (g : Nat) (B : List By) (hB : B.length = 64) (by_ : By) (w : World) (h : Blk w g 152 (bya B)) :
    Calls Tryz.prog 103 #[.int .u8 (by_.toNat : Int), .pointer (some ⟨g, 0, none⟩)] w fun e w' => ∃ v, e = .returned v ∧ OwnB w' w.heap.size v (xorB by_ B) ∧ Below w.heap.size w w' := by
  obtain ⟨i0, hi, hz0, hz1, hz2⟩ := info_parts info5
  have HB := Lib.hid h
  have hlt := h.lt
  have HSZ : Hid ((Tryz.prog.info? 152).map (·.size) = some (bya B).size) := Lib.hid (by rw [info125, bya_size, hB])
  have hix := index_bya B hB
  have HIX := Lib.hid hix
  clear h hix
  go_enter Tryz.func103, Tryz.ntmps103
  go_wp2_with (first | (refine wpList_make_own _ rfl _ _ 40 rfl w.heap.size 5 i0 (.int .u8 0) 1 Tryz.underlying40 hi hz0 hz1 .i64 .i64 64 64 rfl rfl rfl (by rw [hz2]; omega) (by decide) (Nat.le_refl _) ?_; intro w1 ho1 hg1; have HO1 := Lib.hid ho1; have HB1 := Lib.hid ((Below.refl w.heap.size w).grown hg1 (Nat.le_refl _) (fun k e => by cases e)); have HK1 := Lib.hid (HB.out.below HB1.out HB.out.lt); clear ho1 hg1) | (refine wpl_load_blk rfl 152 _ rfl g rfl 152 _ _ HK1.out Tryz.underlying152 rfl HSZ.out ?_))
  go_loopw [4, 9] (fun bv iv wr => ∃ (k : Nat) (v : Value), k ≤ 64 ∧ iv = .int .i64 (k : Int) ∧ v = bv ∧ OwnB wr w.heap.size v (xorB by_ (B.take k)) ∧ Below w.heap.size w wr) (fun _ iv _ => 64 - (intOf iv).toNat)
  case atStart => exact ⟨0, _, Nat.zero_le _, rfl, rfl, HO1.out, HB1.out⟩
  case round =>
  obtain ⟨k, v, hk, rfl, rfl, ho, hb⟩ := hrel
  have HO := Lib.hid ho; have HBW := Lib.hid hb
  clear ho hb
  by_cases hlt : k < 64
  · obtain ⟨x, hx⟩ : ∃ x, B[k]? = some x := ⟨B[k]'(by omega), List.getElem?_eq_getElem _⟩
    have hix := fun w => HIX.out k x hx w
    have hxr := xor8 x by_
    obtain ⟨y, hy⟩ : ∃ y, y = x ^^^ by_ := ⟨_, rfl⟩
    rw [← hy] at hxr
    have HY := Lib.hid hy
    have HX := Lib.hid hx
    have hal := (Below.refl wr.heap.size wr).alloc (Nat.le_refl _) (.cells #[.int .u8 (y.toNat : Int)] 5)
    have HOa := Lib.hid (HO.out.below hal)
    have HYa : Hid (Bys (wr.alloc (.cells #[.int .u8 (y.toNat : Int)] 5)) (some ⟨wr.heap.size, 0, none⟩) 1 [y]) := Lib.hid (bys_blk (l := [y]) (Blk.new wr 5 #[.int .u8 (y.toNat : Int)]))
    have HBa := Lib.hid (HBW.out.trans (hal.mono HBW.out.size))
    have HLa : Hid ((xorB by_ (B.take k)).length + 1 ≤ 1000000000000) := Lib.hid (by rw [xorB_len, List.length_take]; omega)
    clear hy hx hal
    go_wp2_with (at_builtin; refine wpl_append_bys rfl _ _ rfl w.heap.size _ _ rfl HOa.out _ 1 1 [y] rfl HYa.out HLa.out HBa.out.size ?_)
    intro v' w' ho' hg' _
    have HO' : Hid (OwnB w' w.heap.size v' (xorB by_ (B.take (k + 1)))) := Lib.hid (by
      have e : xorB by_ (B.take (k + 1)) = xorB by_ (B.take k) ++ [y] := by unfold xorB; rw [List.take_add_one, HX.out, HY.out]; simp
      rw [e]; exact ho')
    have HB' := Lib.hid (HBa.out.trans (own_grown HOa.out hg' (Nat.le_refl _) HBa.out.size))
    clear ho' hg' hxr hix
    go_wp2_with fail
    go_roundw
    case rel => exact ⟨k + 1, v', by omega, by go_num, rfl, HO'.out, HB'.out⟩
    case measure => simp [intOf]; omega
  obtain rfl : k = 64 := by omega
  have e : B.take 64 = B := List.take_of_length_le (by omega)
  rw [e] at HO
  clear e
  go_wp2_with fail
  go_ret
  exact ⟨v, rfl, HO.out, HBW.out⟩
end Go.Proofs.YtomnjhhpeglcnaaGreat

namespace Go.Proofs.YtomnjhhpeglcnaaGreat
open Go.RowKit
set_option linter.unusedSimpArgs false
set_option linter.unusedVariables false
set_option maxRecDepth 100000

def mcells (b : Nat) (B : List By) : Array Value := (Value.pointer (some ⟨b, 0, none⟩) :: bl B).toArray
theorem mcells_size (b : Nat) (B : List By) : (mcells b B).size = B.length + 1 := by simp [mcells, bl]
theorem fold_set (off : Nat) : ∀ (vs : List Value) (k : Nat) (cs : Array Value),
    ((vs.zipIdx k).foldl (fun (cs : Array Value) (p : Value × Nat) => cs.setIfInBounds (off + p.2) p.1) cs).size = cs.size ∧
    ∀ i, ((vs.zipIdx k).foldl (fun (cs : Array Value) (p : Value × Nat) => cs.setIfInBounds (off + p.2) p.1) cs)[i]? = if off + k ≤ i ∧ i < off + k + vs.length ∧ i < cs.size then vs[i - (off + k)]? else cs[i]? := by
  intro vs
  induction vs with
  | nil => intro k cs; exact ⟨rfl, fun i => by rw [if_neg (by simp; omega)]; rfl⟩
  | cons v r ih =>
    intro k cs
    obtain ⟨h2, h3⟩ := ih (k + 1) (cs.setIfInBounds (off + k) v)
    rw [List.zipIdx_cons, List.foldl_cons]
    refine ⟨by rw [h2]; simp, fun i => ?_⟩
    rw [h3 i, Array.getElem?_setIfInBounds, Array.size_setIfInBounds]
    by_cases e : off + k = i
    · subst e
      rw [if_neg (by omega), if_pos rfl]
      by_cases hs : off + k < cs.size
      · rw [if_pos hs, if_pos ⟨Nat.le_refl _, by simp, hs⟩]; simp
      · rw [if_neg hs, if_neg (by omega), Array.getElem?_eq_none (by omega)]
    · rw [if_neg e]
      by_cases hc : off + (k + 1) ≤ i ∧ i < off + (k + 1) + r.length ∧ i < cs.size
      · rw [if_pos hc, if_pos ⟨by omega, by simp; omega, hc.2.2⟩]
        obtain ⟨j, rfl⟩ : ∃ j, i = off + k + 1 + j := ⟨i - (off + k + 1), by omega⟩
        rw [show off + k + 1 + j - (off + (k + 1)) = j by omega, show off + k + 1 + j - (off + k) = j + 1 by omega]
        rfl
      · rw [if_neg hc, if_neg (by simp; omega)]
theorem zc128 : Tryz.zeroCells155.size = 65 := by kernel_rfl
theorem build_mac (b : Nat) (B : List By) (hB : B.length = 64) (w : World) : (Instr.build 155 #[(0, .agg #[.pointer (some ⟨b, 0, none⟩)]), (1, .agg (bya B))]).run Tryz.prog w = .ok (.agg (mcells b B)) w := by
  simp [Instr.build]
  have hz : (Value.agg Tryz.zeroCells155).cells.size = 65 := zc128
  have hb : (bya B).size = 64 := by rw [bya_size, hB]
  have hf : Instr.fill (fun x => [(0, 1), (1, 64)][x]?) (Value.agg Tryz.zeroCells155).cells [(0, Value.agg #[Value.pointer (some { block := b, off := 0 })]), (1, Value.agg (bya B))] = some (mcells b B) := by
    generalize (Value.agg Tryz.zeroCells155).cells = Z at hz ⊢
    have h1 : (Value.agg #[Value.pointer (some { block := b, off := 0 })]).cells = #[Value.pointer (some { block := b, off := 0 })] := rfl
    have h2 : (Value.agg (bya B)).cells = bya B := rfl
    have hzs : Z.size ≠ 0 := by omega
    simp only [Instr.fill, h1, h2, List.getElem?_cons_zero, List.getElem?_cons_succ]
    have hone : Array.foldl (fun cs x => cs.setIfInBounds (0 + x.snd) x.fst) Z #[Value.pointer (some { block := b, off := 0 })].zipIdx = Z.setIfInBounds 0 (Value.pointer (some { block := b, off := 0 })) := by simp
    rw [if_neg (show ¬ (_ = true) from by simp [hz]), hone, if_neg (show ¬ (_ = true) from by simp [hb, hz])]
    congr 1
    obtain ⟨f1, f2⟩ := fold_set 1 (bl B) 0 (Z.setIfInBounds 0 (Value.pointer (some { block := b, off := 0 })))
    have e1 : ((bya B).zipIdx.foldl (fun (cs : Array Value) (p : Value × Nat) => cs.setIfInBounds (1 + p.2) p.1) (Z.setIfInBounds 0 (Value.pointer (some { block := b, off := 0 })))) = (((bl B).zipIdx 0).foldl (fun (cs : Array Value) (p : Value × Nat) => cs.setIfInBounds (1 + p.2) p.1) (Z.setIfInBounds 0 (Value.pointer (some { block := b, off := 0 })))) := by
      rw [bya_bl]; simp
    have e2 : ((bl B).zipIdx 0).foldl (fun (cs : Array Value) (p : Value × Nat) => cs.setIfInBounds (1 + p.2) p.1) (Z.setIfInBounds 0 (Value.pointer (some { block := b, off := 0 }))) = mcells b B := by
      apply Array.ext_getElem?
      intro i
      rw [f2 i]
      have hs : (Z.setIfInBounds 0 (Value.pointer (some { block := b, off := 0 }))).size = 65 := by simp [hz]
      cases i with
      | zero => rw [if_neg (by omega)]; simp [mcells, hz]
      | succ i =>
        by_cases hi : i < 64
        · rw [if_pos ⟨by omega, by rw [bl_len, hB]; omega, by rw [hs]; omega⟩]
          rw [show i + 1 - (1 + 0) = i by omega]
          simp [mcells]
        · rw [if_neg (by rw [bl_len, hB]; omega), Array.getElem?_eq_none (by rw [hs]; omega), Array.getElem?_eq_none (by rw [mcells_size, hB]; omega)]
    rw [← e2, ← e1]
  rw [hf]
  rfl
end Go.Proofs.YtomnjhhpeglcnaaGreat

namespace Go.Proofs.YtomnjhhpeglcnaaGreat
open Go.RowKit
set_option linter.unusedSimpArgs false
set_option linter.unusedVariables false
set_option maxRecDepth 100000

structure IsMac (w : World) (m b : Nat) (B d : List By) : Prop where
  blk : Blk w m 155 (mcells b B)
  len : B.length = 64
  hash : IsHash w b (start 32 0) (xorB 54 B ++ d) 32 (64 + d.length)
  ne : b ≠ m
theorem mac_range {w : World} {m b : Nat} {B : List By} (h : Blk w m 155 (mcells b B)) : w.rangeAt m 1 (bl B) := fun j v hv => h.cell (by rw [show mcells b B = (Value.pointer (some ⟨b, 0, none⟩) :: bl B).toArray from rfl, Nat.add_comm]; simpa using hv)
theorem mac_ptr {w : World} {m b : Nat} {B : List By} (h : Blk w m 155 (mcells b B)) : w.cell? ⟨m, 0, none⟩ = some (.pointer (some ⟨b, 0, none⟩)) := h.cell rfl
theorem IsHash.belowq {w w' : World} {b : Nat} {h0 : List Wo} {d : List By} {wide len : Nat} (h : IsHash w b h0 d wide len) (hb : Below w.heap.size w w') : IsHash w' b h0 d wide len := h.below hb

theorem fold_mac (b : Nat) (B : List By) (hB : B.length = 64) :
    Array.foldl (fun cs x => cs.setIfInBounds (1 + x.snd) x.fst) (Tryz.zeroCells155.setIfInBounds 0 (Value.pointer (some ⟨b, 0, none⟩))) (bya B).zipIdx 0 (bya B).size = mcells b B := by
  have hz : Tryz.zeroCells155.size = 65 := zc128
  generalize Tryz.zeroCells155 = Z at hz ⊢
  obtain ⟨f1, f2⟩ := fold_set 1 (bl B) 0 (Z.setIfInBounds 0 (Value.pointer (some ⟨b, 0, none⟩)))
  have e1 : Array.foldl (fun cs x => cs.setIfInBounds (1 + x.snd) x.fst) (Z.setIfInBounds 0 (Value.pointer (some ⟨b, 0, none⟩))) (bya B).zipIdx 0 (bya B).size = (((bl B).zipIdx 0).foldl (fun (cs : Array Value) (p : Value × Nat) => cs.setIfInBounds (1 + p.2) p.1) (Z.setIfInBounds 0 (Value.pointer (some ⟨b, 0, none⟩)))) := by
    rw [show (bya B).size = (bya B).zipIdx.size by simp, bya_bl]; simp
  rw [e1]
  apply Array.ext_getElem?
  intro i
  rw [f2 i]
  have hs : (Z.setIfInBounds 0 (Value.pointer (some ⟨b, 0, none⟩))).size = 65 := by simp [hz]
  cases i with
  | zero => rw [if_neg (by omega)]; simp [mcells, hz]
  | succ i =>
    by_cases hi : i < 64
    · rw [if_pos ⟨by omega, by rw [bl_len, hB]; omega, by rw [hs]; omega⟩]
      rw [show i + 1 - (1 + 0) = i by omega]
      simp [mcells]
    · rw [if_neg (by rw [bl_len, hB]; omega), Array.getElem?_eq_none (by rw [hs]; omega), Array.getElem?_eq_none (by rw [mcells_size, hB]; omega)]
set_option maxHeartbeats 4000000 in
theorem hnew_c (a : Option Addr) (n c : Nat) (key : List By) (w : World) (hk : Bys w a n key) (hn : n ≤ 1000000) :
    Calls Tryz.prog 85 #[.slice a n c] w fun e w' => ∃ m b, e = .returned (.pointer (some ⟨m, 0, none⟩)) ∧ w.heap.size ≤ m ∧ w.heap.size ≤ b ∧ IsMac w' m b (keyBlk key) [] ∧ Below w.heap.size w w' := by
  have HK := Lib.hid hk; clear hk
  go_enter Tryz.func85, Tryz.ntmps85
  go_wp2_with fail
  refine (new_c 32 none 0 0 [] _ ⟨rfl, fun i c hi => by simp at hi⟩ (by decide) (by decide) (by decide)).mono ?_
  rintro e w1 ⟨b, rfl, hh, hbb, hb1⟩
  have HH := Lib.hid hh; have HB1 := Lib.hid hb1
  clear hh hb1
  go_wp2_with fail
  refine (of_c a n c key _ (HK.out.below HB1.out) hn).mono ?_
  rintro e w2 ⟨rfl, hb2⟩
  have HH2 := Lib.hid (HH.out.below hb2)
  have HB2 := Lib.hid (HB1.out.trans (hb2.mono HB1.out.size))
  have hbl := keyBlk_len key
  obtain ⟨B, hB⟩ : ∃ B, B = keyBlk key := ⟨_, rfl⟩
  rw [← hB] at hbl ⊢
  have HBE := Lib.hid hB
  have hfm := fold_mac b B hbl
  have hbs : (bya B).size = 64 := by rw [bya_size, hbl]
  have HFM := Lib.hid hfm
  rw [hbs] at hfm
  have HFN := Lib.hid hfm
  clear hfm
  have HBM := Lib.hid (Blk.new w2 155 (mcells b B))
  have hb2s : b < w2.heap.size := HH2.out.lt
  have HB3 := Lib.hid (HB2.out.alloc HB2.out.size (.cells (mcells b B) 155))
  have HH3 := Lib.hid (HH2.out.below ((Below.refl w2.heap.size w2).alloc (Nat.le_refl _) (.cells (mcells b B) 155)))
  have hz2 : w.heap.size ≤ w2.heap.size := HB2.out.size
  have HBL := Lib.hid hbl
  clear hb2 HH HB1 hB
  go_wp2_with fail
  first | rw [HFM.out] | rw [HFN.out]
  clear HFM HFN hbs
  obtain ⟨m, hm⟩ : ∃ m, m = w2.heap.size := ⟨_, rfl⟩
  rw [← hm] at HBM hb2s hz2 ⊢
  have hbm : b ≠ m := by omega
  clear hm
  generalize (World.alloc _ _) = w3 at HBM HB3 HH3 ⊢
  have HB3 := Lib.hid HB3.out.drew
  have HH3 := Lib.hid (HH3.out.below (Below.refl w3.heap.size w3).drew)
  have hS0 : (fun W => Blk W m 155 (mcells b B)) w3.drew := HBM.out.drew
  refine wp_region_held_drew (S := (fun W => Blk W m 155 (mcells b B))) (by kernel_rfl) hS0 ?_
  intro hS0'
  refine wpAnyH_take (i := 0) (v := .pointer (some ⟨m, 0, none⟩)) rfl (by kernel_rfl) (by kernel_rfl) (by kernel_rfl) (fun _ _ _ h => h) (Or.inl ⟨by kernel_rfl, fun w hSw => ?_⟩) hS0' ?_
  · go_simp
  try simp only [Act.put, List.getElem_toArray, List.getElem_cons_succ, List.getElem_cons_zero, List.setIfInBounds_toArray, List.set_cons_zero, List.set_cons_succ]
  refine wpAnyH_take (i := 1) (v := .pointer (some ⟨m, 0, none⟩)) rfl (by kernel_rfl) (by kernel_rfl) (by kernel_rfl) (fun _ _ _ h => h) (Or.inl ⟨by kernel_rfl, fun w hSw => ?_⟩) hS0' ?_
  · go_simp
  try simp only [Act.put, List.getElem_toArray, List.getElem_cons_succ, List.getElem_cons_zero, List.setIfInBounds_toArray, List.set_cons_zero, List.set_cons_succ]
  refine wpAnyH_take (i := 2) (v := .pointer (some ⟨m, 0, none⟩)) rfl (by kernel_rfl) (by kernel_rfl) (by kernel_rfl) (fun _ _ _ h => h) (Or.inl ⟨by kernel_rfl, fun w hSw => ?_⟩) hS0' ?_
  · go_simp
  try simp only [Act.put, List.getElem_toArray, List.getElem_cons_succ, List.getElem_cons_zero, List.setIfInBounds_toArray, List.set_cons_zero, List.set_cons_succ]
  refine wpAnyH_take (i := 3) (v := .pointer (some ⟨m, 0, none⟩)) rfl (by kernel_rfl) (by kernel_rfl) (by kernel_rfl) (fun _ _ _ h => h) (Or.inl ⟨by kernel_rfl, fun w hSw => ?_⟩) hS0' ?_
  · go_simp
  try simp only [Act.put, List.getElem_toArray, List.getElem_cons_succ, List.getElem_cons_zero, List.setIfInBounds_toArray, List.set_cons_zero, List.set_cons_succ]
  refine wpAnyH_take (i := 4) (v := .pointer (some ⟨b, 0, none⟩)) rfl (by kernel_rfl) (by kernel_rfl) (by kernel_rfl) (fun _ _ _ h => h) (Or.inl ⟨by kernel_rfl, fun w hSw => ?_⟩) hS0' ?_
  · have q := mac_ptr hSw
    go_simp
  try simp only [Act.put, List.getElem_toArray, List.getElem_cons_succ, List.getElem_cons_zero, List.setIfInBounds_toArray, List.set_cons_zero, List.set_cons_succ]
  refine wpAnyH_take (i := 5) (v := .pointer (some ⟨m, 0, none⟩)) rfl (by kernel_rfl) (by kernel_rfl) (by kernel_rfl) (fun _ _ _ h => h) (Or.inl ⟨by kernel_rfl, fun w hSw => ?_⟩) hS0' ?_
  · go_simp
  try simp only [Act.put, List.getElem_toArray, List.getElem_cons_succ, List.getElem_cons_zero, List.setIfInBounds_toArray, List.set_cons_zero, List.set_cons_succ]
  refine wpAnyH_take (i := 6) (v := .pointer (some ⟨m, 0, none⟩)) rfl (by kernel_rfl) (by kernel_rfl) (by kernel_rfl) (fun _ _ _ h => h) (Or.inl ⟨by kernel_rfl, fun w hSw => ?_⟩) hS0' ?_
  · go_simp
  try simp only [Act.put, List.getElem_toArray, List.getElem_cons_succ, List.getElem_cons_zero, List.setIfInBounds_toArray, List.set_cons_zero, List.set_cons_succ]
  refine wpAnyH_take (i := 7) (v := .pointer (some ⟨m, 1, none⟩)) rfl (by kernel_rfl) (by kernel_rfl) (by kernel_rfl) (fun _ _ _ h => h) (Or.inl ⟨by kernel_rfl, fun w hSw => ?_⟩) hS0' ?_
  · go_simp
  try simp only [Act.put, List.getElem_toArray, List.getElem_cons_succ, List.getElem_cons_zero, List.setIfInBounds_toArray, List.set_cons_zero, List.set_cons_succ]
  refine wpAnyH_take (i := 8) (v := .agg (bl B).toArray) rfl (by kernel_rfl) (by kernel_rfl) (by kernel_rfl) (fun _ _ _ h => h) ?_ hS0' ?_
  · exact yieldsIf_load_mid (by kernel_rfl) 152 _ rfl m 1 (by kernel_rfl) (bl B) _ (fun w h => mac_range h) Tryz.underlying152 rfl (by rw [bl_len, HBL.out]; exact info125)
  try simp only [Act.put, List.getElem_toArray, List.getElem_cons_succ, List.getElem_cons_zero, List.setIfInBounds_toArray, List.set_cons_zero, List.set_cons_succ]
  refine wpAnyH_ready (rs := [9]) (by kernel_rfl) (by simp) ?_
  refine AllReadyH.cons (by rfl) ?_ AllReadyH.nil
  intro K hK
  go_simp
  rw [← bya_bl]
  refine (halves_c B _).mono ?_
  rintro e w4 ⟨rfl, rfl⟩
  refine hK.out _ _ (hS0'.alloc _) (fun hS1 => ?_)
  clear hK K
  refine wpAnyH_ready (rs := [10]) (by kernel_rfl) (by simp) ?_
  refine AllReadyH.cons (by rfl) ?_ AllReadyH.nil
  intro K hK
  go_simp
  refine (half_of w3.drew.heap.size B HBL.out 54 _ (Blk.new w3.drew 152 (bya B))).mono ?_
  rintro e w5 ⟨vh, rfl, hoh, hbh⟩
  obtain ⟨ah, ch, hv, _, hyb⟩ := hoh.bys
  have exl : (xorB 54 B).length = 64 := by rw [xorB_len, HBL.out]
  rw [exl] at hv hyb
  subst hv
  have HYH := Lib.hid hyb
  have hbq := (Below.refl w3.drew.heap.size w3.drew).alloc (Nat.le_refl _) (.cells (bya B) 152)
  have HH6 := Lib.hid ((HH3.out.below hbq).below hbh)
  have HB6 := Lib.hid ((HB3.out.trans (hbq.mono HB3.out.size)).trans (hbh.mono (by have := HB3.out.size; rw [World.size_alloc]; omega)))
  clear hyb exl hoh
  refine hK.out _ _ (hS1.below hbh hS1.lt) (fun hS2 => ?_)
  clear hK K
  refine wpAnyH_ready (rs := [11]) (by kernel_rfl) (by simp) ?_
  refine AllReadyH.cons (by rfl) ?_ AllReadyH.nil
  intro K hK
  go_simp
  refine (write_c b _ _ 32 _ ah 64 ch _ _ HH6.out HYH.out (by decide) (by simp [keyB]) (by decide)).mono ?_
  rintro e w6 ⟨rfl, hh6, ho6⟩
  have HH7 := Lib.hid hh6
  have HB7 := Lib.hid (HB6.out.trans (ho6.below (B := w.heap.size) HB6.out.size hbb))
  clear hh6
  refine hK.out _ _ (ho6.blk hS2 (Ne.symm hbm)) (fun hS3 => ?_)
  clear hK K
  refine wpAnyH_done (by kernel_rfl) ?_ _
  go_wp2_with fail
  go_ret
  refine ⟨m, rfl, hz2, b, hbb, ?_, HB7.out⟩
  rw [← HBE.out]
  exact ⟨hS3, HBL.out, by simpa [keyB] using HH7.out, hbm⟩
end Go.Proofs.YtomnjhhpeglcnaaGreat

namespace Go.Proofs.YtomnjhhpeglcnaaGreat
open Go.RowKit
set_option linter.unusedSimpArgs false
set_option linter.unusedVariables false
set_option maxRecDepth 100000

/-! ### Plain -/
structure MacIn (w : World) (m b : Nat) (B d : List By) (W : World) : Prop where
  mac : IsMac W m b B d
  here : Below w.heap.size w W
theorem IsMac.below {w w' : World} {m b : Nat} {B d : List By} (h : IsMac w m b B d) (hb : Below w.heap.size w w') : IsMac w' m b B d :=
  ⟨h.blk.below hb h.blk.lt, h.len, h.hash.below hb, h.ne⟩
theorem MacIn.below {w W W' : World} {m b : Nat} {B d : List By} (h : MacIn w m b B d W) (hb : Below W.heap.size W W') : MacIn w m b B d W' :=
  ⟨h.mac.below hb, h.here.trans (hb.mono h.here.size)⟩
theorem alloc_facts {W w' : World} {Z : Array Value} {t : TypeId} (h : W.alloc (.cells Z t) = w') : Blk w' W.heap.size t Z ∧ Below W.heap.size W w' := by
  subst h
  exact ⟨Blk.new W t Z, (Below.refl _ _).alloc (Nat.le_refl _) _⟩
theorem prs2 {W w' : World} {a a' : Option Addr} {n n' c c' : Nat} {t : TypeId} {l l' : List By} (h : W.alloc (.cells #[.slice a n c, .slice a' n' c'] t) = w') (h1 : Bys W a n l) (h2 : Bys W a' n' l') (hn : n ≤ 1000000000) (hn' : n' ≤ 1000000000) :
    Prs w' (some ⟨W.heap.size, 0, none⟩) 2 [l, l'] ∧ Below W.heap.size W w' := by
  have hb := (alloc_facts h).2
  obtain ⟨hk, _⟩ := alloc_facts h
  have e1 := h1.1
  have e2 := h2.1
  subst h
  refine ⟨⟨rfl, fun i p hi => ?_⟩, hb⟩
  match i with
  | 0 =>
    simp at hi; subst hi
    exact ⟨by omega, W.heap.size, 0, a, c, rfl, by simp, by rw [e1]; exact blk0 rfl, by rw [e1]; exact h1.below hb⟩
  | 1 =>
    simp at hi; subst hi
    exact ⟨by omega, W.heap.size, 0, a', c', rfl, by simp, by rw [e2]; exact blk0 rfl, by rw [e2]; exact h2.below hb⟩
  | j + 2 => simp at hi
theorem halves_b (B : List By) (w : World) : Calls Tryz.prog 93 #[.agg (bya B)] w fun e w' => ∃ g, e = .returned (.func (.func 103) #[] #[.pointer (some ⟨g, 0, none⟩)]) ∧ w.heap.size ≤ g ∧ Blk w' g 152 (bya B) ∧ Below w.heap.size w w' :=
  (halves_c B w).mono (by
    rintro e w' ⟨rfl, rfl⟩
    exact ⟨_, rfl, Nat.le_refl _, Blk.new w 152 (bya B), (Below.refl _ _).alloc (Nat.le_refl _) _⟩)

/-! ### The calls -/
theorem mnone_c (m b : Nat) (B d : List By) (w : World) (h : IsMac w m b B d) : Calls Tryz.prog 94 #[.pointer (some ⟨m, 0, none⟩)] w fun e w' => e = .returned (.bool false) ∧ w = w' := by
  have q := mac_ptr h.blk
  clear h
  go_enter Tryz.func94, Tryz.ntmps94
  go_wp2_with fail
  go_ret
  exact ⟨rfl, rfl⟩
theorem mwrite_c (m b : Nat) (B d : List By) (a : Option Addr) (n c : Nat) (l : List By) (w : World) (h : IsMac w m b B d) (hl : Bys w a n l) (hn : n ≤ 100000000) (hd : d.length + n + 64 ≤ 100000000000) :
    Calls Tryz.prog 86 #[.pointer (some ⟨m, 0, none⟩), .slice a n c] w fun e w' => e = .returned (.int .i64 0) ∧ IsMac w' m b B (d ++ l) ∧ Only b w w' := by
  have hM := mnone_c m b B d w h
  have H := Lib.hid h
  have HL := Lib.hid hl
  have hll := hl.1
  have q := mac_ptr h.blk
  clear h hl
  go_enter Tryz.func86, Tryz.ntmps86
  go_wp2_with fail
  refine hM.mono ?_
  rintro e w1 ⟨rfl, rfl⟩
  clear hM
  go_wp2_with fail
  refine (write_c b _ _ 32 _ a n c l _ H.out.hash HL.out hn (by rw [List.length_append, xorB_len, H.out.len]; omega) (by omega)).mono ?_
  rintro e w2 ⟨rfl, hh, ho⟩
  have HM2 : Hid (IsMac w2 m b B (d ++ l)) := Lib.hid ⟨ho.blk H.out.blk (Ne.symm H.out.ne), H.out.len, by rw [List.length_append, hll, ← List.append_assoc, ← Nat.add_assoc]; exact hh, H.out.ne⟩
  have HO := Lib.hid ho
  clear hh ho
  go_wp2_with fail
  go_ret
  exact ⟨rfl, HM2.out, HO.out⟩
set_option maxHeartbeats 8000000 in
theorem mtag_c (m b : Nat) (B d : List By) (w : World) (h : IsMac w m b B d) :
    Calls Tryz.prog 88 #[.pointer (some ⟨m, 0, none⟩)] w fun e w' => ∃ g, e = .returned (.slice (some ⟨g, 0, none⟩) 32 32) ∧ w.heap.size ≤ g ∧ Bys w' (some ⟨g, 0, none⟩) 32 (H32 (xorB 92 B ++ H32 (xorB 54 B ++ d))) ∧ Below w.heap.size w w' := by
  have hM := mnone_c m b B d w h
  have HBL : Hid (B.length = 64) := Lib.hid h.len
  have H := Lib.hid h
  have z := zero36
  obtain ⟨Z, hZ⟩ : ∃ Z, Z = bya (List.replicate 32 0#8) := ⟨_, rfl⟩
  rw [← hZ] at z
  have HZS : Hid (Z.size = 32) := Lib.hid (by rw [hZ]; rfl)
  clear hZ h
  go_enter Tryz.func88, Tryz.ntmps88
  go_wp2_with fail
  refine hM.mono ?_
  rintro e w1 ⟨rfl, rfl⟩
  clear hM
  go_wp2_with fail
  have hS0 : (fun W => MacIn w m b B d W) w.drew := ⟨H.out.below (Below.refl w.heap.size w).drew, (Below.refl w.heap.size w).drew⟩
  refine wp_region_held_drew (S := (fun W => MacIn w m b B d W)) (by kernel_rfl) hS0 ?_
  intro hS0'
  generalize World.drew w = wd at hS0' ⊢
  refine wpAnyH_take (i := 0) (v := .pointer (some ⟨m, 0, none⟩)) rfl (by kernel_rfl) (by kernel_rfl) (by kernel_rfl) (fun _ _ _ h => h) (Or.inl ⟨by kernel_rfl, fun w hSw => ?_⟩) hS0' ?_
  · go_simp
  try simp only [Act.put, List.getElem_toArray, List.getElem_cons_succ, List.getElem_cons_zero, List.setIfInBounds_toArray, List.set_cons_zero, List.set_cons_succ]
  refine wpAnyH_take (i := 1) (v := .pointer (some ⟨m, 0, none⟩)) rfl (by kernel_rfl) (by kernel_rfl) (by kernel_rfl) (fun _ _ _ h => h) (Or.inl ⟨by kernel_rfl, fun w hSw => ?_⟩) hS0' ?_
  · go_simp
  try simp only [Act.put, List.getElem_toArray, List.getElem_cons_succ, List.getElem_cons_zero, List.setIfInBounds_toArray, List.set_cons_zero, List.set_cons_succ]
  refine wpAnyH_take (i := 2) (v := .pointer (some ⟨m, 1, none⟩)) rfl (by kernel_rfl) (by kernel_rfl) (by kernel_rfl) (fun _ _ _ h => h) (Or.inl ⟨by kernel_rfl, fun w hSw => ?_⟩) hS0' ?_
  · go_simp
  try simp only [Act.put, List.getElem_toArray, List.getElem_cons_succ, List.getElem_cons_zero, List.setIfInBounds_toArray, List.set_cons_zero, List.set_cons_succ]
  refine wpAnyH_take (i := 3) (v := .agg (bl B).toArray) rfl (by kernel_rfl) (by kernel_rfl) (by kernel_rfl) (fun _ _ _ h => h) ?_ hS0' ?_
  · exact yieldsIf_load_mid (by kernel_rfl) 152 _ rfl m 1 (by kernel_rfl) (bl B) _ (fun w h => mac_range h.mac.blk) Tryz.underlying152 rfl (by rw [bl_len, HBL.out]; exact info125)
  try simp only [Act.put, List.getElem_toArray, List.getElem_cons_succ, List.getElem_cons_zero, List.setIfInBounds_toArray, List.set_cons_zero, List.set_cons_succ]
  refine wpAnyH_take (i := 6) (v := .pointer (some ⟨m, 0, none⟩)) rfl (by kernel_rfl) (by kernel_rfl) (by kernel_rfl) (fun _ _ _ h => h) (Or.inl ⟨by kernel_rfl, fun w hSw => ?_⟩) hS0' ?_
  · go_simp
  try simp only [Act.put, List.getElem_toArray, List.getElem_cons_succ, List.getElem_cons_zero, List.setIfInBounds_toArray, List.set_cons_zero, List.set_cons_succ]
  refine wpAnyH_take (i := 7) (v := .pointer (some ⟨m, 0, none⟩)) rfl (by kernel_rfl) (by kernel_rfl) (by kernel_rfl) (fun _ _ _ h => h) (Or.inl ⟨by kernel_rfl, fun w hSw => ?_⟩) hS0' ?_
  · go_simp
  try simp only [Act.put, List.getElem_toArray, List.getElem_cons_succ, List.getElem_cons_zero, List.setIfInBounds_toArray, List.set_cons_zero, List.set_cons_succ]
  refine wpAnyH_take (i := 8) (v := .pointer (some ⟨m, 0, none⟩)) rfl (by kernel_rfl) (by kernel_rfl) (by kernel_rfl) (fun _ _ _ h => h) (Or.inl ⟨by kernel_rfl, fun w hSw => ?_⟩) hS0' ?_
  · go_simp
  try simp only [Act.put, List.getElem_toArray, List.getElem_cons_succ, List.getElem_cons_zero, List.setIfInBounds_toArray, List.set_cons_zero, List.set_cons_succ]
  refine wpAnyH_take (i := 9) (v := .pointer (some ⟨m, 0, none⟩)) rfl (by kernel_rfl) (by kernel_rfl) (by kernel_rfl) (fun _ _ _ h => h) (Or.inl ⟨by kernel_rfl, fun w hSw => ?_⟩) hS0' ?_
  · go_simp
  try simp only [Act.put, List.getElem_toArray, List.getElem_cons_succ, List.getElem_cons_zero, List.setIfInBounds_toArray, List.set_cons_zero, List.set_cons_succ]
  refine wpAnyH_take (i := 10) (v := .pointer (some ⟨b, 0, none⟩)) rfl (by kernel_rfl) (by kernel_rfl) (by kernel_rfl) (fun _ _ _ h => h) (Or.inl ⟨by kernel_rfl, fun w hSw => ?_⟩) hS0' ?_
  · have q := mac_ptr hSw.mac.blk
    go_simp
  try simp only [Act.put, List.getElem_toArray, List.getElem_cons_succ, List.getElem_cons_zero, List.setIfInBounds_toArray, List.set_cons_zero, List.set_cons_succ]
  refine wpAnyH_ready (rs := [4, 14]) (by kernel_rfl) (by simp) ?_
  refine AllReadyH.cons (by rfl) ?_ ?_
  · intro K hK
    go_simp
    rw [← bya_bl]
    refine (halves_b B _).mono ?_
    rintro e wq ⟨gb, rfl, hgb, hkb, hbq⟩
    try replace HGB := Lib.hid (HGB.out.below hbq HGB.out.lt)
    try replace HZZ := Lib.hid (HZZ.out.below hbq HZZ.out.lt)
    try replace HY1 := Lib.hid (HY1.out.below hbq)
    try replace HY2 := Lib.hid (HY2.out.below hbq)
    try replace HPR := Lib.hid (HPR.out.below hbq)
    try replace HBA := Lib.hid (HBA.out.trans (hbq.mono HBA.out.size))
    have HGB := Lib.hid hkb
    clear hkb
    refine hK.out _ _ (hS0'.below hbq) (fun hS1 => ?_)
    clear hK K
    refine wpAnyH_ready (rs := [5, 14]) (by kernel_rfl) (by simp) ?_
    refine AllReadyH.cons (by rfl) ?_ ?_
    · intro K hK
      go_simp
      refine (half_of _ B HBL.out 92 _ HGB.out).mono ?_
      rintro e wq ⟨vh, rfl, hoh, hbq⟩
      obtain ⟨ah, ch, hv, _, hyb⟩ := hoh.bys
      have exl : (xorB 92 B).length = 64 := by rw [xorB_len, HBL.out]
      rw [exl] at hv hyb
      subst hv
      try replace HGB := Lib.hid (HGB.out.below hbq HGB.out.lt)
      try replace HZZ := Lib.hid (HZZ.out.below hbq HZZ.out.lt)
      try replace HY1 := Lib.hid (HY1.out.below hbq)
      try replace HY2 := Lib.hid (HY2.out.below hbq)
      try replace HPR := Lib.hid (HPR.out.below hbq)
      try replace HBA := Lib.hid (HBA.out.trans (hbq.mono HBA.out.size))
      have HY1 := Lib.hid hyb
      clear hyb exl hoh
      refine hK.out _ _ (hS1.below hbq) (fun hS2 => ?_)
      clear hK K
      refine wpAnyH_ready (rs := [11, 14]) (by kernel_rfl) (by simp) ?_
      refine AllReadyH.cons (by rfl) ?_ ?_
      · intro K hK
        go_simp
        refine (sum_c b _ _ 32 _ _ hS2.mac.hash).mono ?_
        rintro e wq ⟨vs, rfl, hoh, hbq⟩
        obtain ⟨as0, cs0, hv, _, hyb⟩ := hoh.bys
        have exs : sumOf (start 32 0) (xorB 54 B ++ d) 32 = H32 (xorB 54 B ++ d) := rfl
        rw [exs, H32_len] at hv hyb
        subst hv
        try replace HGB := Lib.hid (HGB.out.below hbq HGB.out.lt)
        try replace HZZ := Lib.hid (HZZ.out.below hbq HZZ.out.lt)
        try replace HY1 := Lib.hid (HY1.out.below hbq)
        try replace HY2 := Lib.hid (HY2.out.below hbq)
        try replace HPR := Lib.hid (HPR.out.below hbq)
        try replace HBA := Lib.hid (HBA.out.trans (hbq.mono HBA.out.size))
        have HY2 := Lib.hid hyb
        clear hyb exs hoh
        refine hK.out _ _ (hS2.below hbq) (fun hS3 => ?_)
        clear hK K
        refine wpAnyH_ready (rs := [12, 14]) (by kernel_rfl) (by simp) ?_
        refine AllReadyH.cons (by rfl) ?_ ?_
        · intro K hK
          go_simp
          generalize hwq : World.alloc _ _ = wq
          obtain ⟨hpr, hbq⟩ := prs2 hwq HY1.out HY2.out (by decide) (by decide)
          clear hwq
          try replace HGB := Lib.hid (HGB.out.below hbq HGB.out.lt)
          try replace HZZ := Lib.hid (HZZ.out.below hbq HZZ.out.lt)
          try replace HY1 := Lib.hid (HY1.out.below hbq)
          try replace HY2 := Lib.hid (HY2.out.below hbq)
          try replace HPR := Lib.hid (HPR.out.below hbq)
          try replace HBA := Lib.hid (HBA.out.trans (hbq.mono HBA.out.size))
          have HPR := Lib.hid hpr
          clear hpr
          refine hK.out _ _ (hS3.below hbq) (fun hS4 => ?_)
          clear hK K
          refine wpAnyH_ready (rs := [13, 14]) (by kernel_rfl) (by simp) ?_
          refine AllReadyH.cons (by rfl) ?_ ?_
          · intro K hK
            go_simp
            refine (bsum_c _ 2 2 [xorB 92 B, H32 (xorB 54 B ++ d)] _ HPR.out (by decide) (by simp [xorB_len, HBL.out, H32_len])).mono ?_
            rintro e wq ⟨rfl, hbq⟩
            rw [show keyed 32 [] [xorB 92 B, H32 (xorB 54 B ++ d)].flatten = H32 (xorB 92 B ++ H32 (xorB 54 B ++ d)) by simp [H32]]
            try replace HGB := Lib.hid (HGB.out.below hbq HGB.out.lt)
            try replace HZZ := Lib.hid (HZZ.out.below hbq HZZ.out.lt)
            try replace HY1 := Lib.hid (HY1.out.below hbq)
            try replace HY2 := Lib.hid (HY2.out.below hbq)
            try replace HPR := Lib.hid (HPR.out.below hbq)
            try replace HBA := Lib.hid (HBA.out.trans (hbq.mono HBA.out.size))
            refine hK.out _ _ (hS4.below hbq) (fun hS5 => ?_)
            clear hK K
            refine wpAnyH_ready (rs := [14]) (by kernel_rfl) (by simp) ?_
            refine AllReadyH.cons (by rfl) ?_ AllReadyH.nil
            intro K hK
            go_simp
            generalize hwq : World.alloc _ _ = wq
            obtain ⟨hzz, hbq⟩ := alloc_facts hwq
            clear hwq
            try replace HGB := Lib.hid (HGB.out.below hbq HGB.out.lt)
            try replace HZZ := Lib.hid (HZZ.out.below hbq HZZ.out.lt)
            try replace HY1 := Lib.hid (HY1.out.below hbq)
            try replace HY2 := Lib.hid (HY2.out.below hbq)
            try replace HPR := Lib.hid (HPR.out.below hbq)
            try replace HBA := Lib.hid (HBA.out.trans (hbq.mono HBA.out.size))
            have HZZ := Lib.hid hzz
            have HGE := Lib.hid hS5.here.size
            have HMA := Lib.hid hS5
            have HBA := Lib.hid hbq
            clear hzz
            refine hK.out _ _ (hS5.below hbq) (fun hS6 => ?_)
            clear hK K
            refine wpAnyH_ready (rs := [15]) (by kernel_rfl) (by simp) ?_
            refine all_readyH_yes (by rfl) (by kernel_rfl) ?_ AllReadyH.nil
            intro K hK
            with_reducible refine wp_store_blk 134 (.tmp 3) (.tmp 19) ?_ _ 134 Z (bya (H32 (xorB 92 B ++ H32 (xorB 54 B ++ d)))) ?_ ?_ HZZ.out ?_ ?_ (bya_one _) ?_
            · kernel_rfl
            · kernel_rfl
            · kernel_rfl
            · rw [HZS.out, bya_size, H32_len]
            · rw [bya_size, H32_len]; exact info104
            intro wz hBz hOz hzz
            have hbq := HBA.out.trans (hOz.below HBA.out.size (Nat.le_refl _))
            try simp only [Act.put, List.getElem_toArray, List.getElem_cons_succ, List.getElem_cons_zero, List.setIfInBounds_toArray, List.set_cons_zero, List.set_cons_succ]
            refine hK.out _ _ (HMA.out.below hbq) (fun hS7 => ?_)
            clear hK K
            refine wpAnyH_done (by kernel_rfl) ?_ _
            have HS := Lib.hid hS7
            have HBZ : Hid (Bys wz _ 32 (H32 (xorB 92 B ++ H32 (xorB 54 B ++ d)))) := Lib.hid (by have := bys_blk hBz; rw [H32_len] at this; exact this)
            clear hBz hOz hzz hbq
            go_wp2_with fail
            go_ret
            exact ⟨_, rfl, HGE.out, HBZ.out, HS.out.here⟩
          refine AllReadyH.cons (by rfl) ?_ AllReadyH.nil
          intro K hK
          go_simp
          generalize hwq : World.alloc _ _ = wq
          obtain ⟨hzz, hbq⟩ := alloc_facts hwq
          clear hwq
          try replace HGB := Lib.hid (HGB.out.below hbq HGB.out.lt)
          try replace HZZ := Lib.hid (HZZ.out.below hbq HZZ.out.lt)
          try replace HY1 := Lib.hid (HY1.out.below hbq)
          try replace HY2 := Lib.hid (HY2.out.below hbq)
          try replace HPR := Lib.hid (HPR.out.below hbq)
          try replace HBA := Lib.hid (HBA.out.trans (hbq.mono HBA.out.size))
          have HZZ := Lib.hid hzz
          have HGE := Lib.hid hS4.here.size
          have HMA := Lib.hid hS4
          have HBA := Lib.hid hbq
          clear hzz
          refine hK.out _ _ (hS4.below hbq) (fun hS8 => ?_)
          clear hK K
          refine wpAnyH_ready (rs := [13]) (by kernel_rfl) (by simp) ?_
          refine AllReadyH.cons (by rfl) ?_ AllReadyH.nil
          intro K hK
          go_simp
          refine (bsum_c _ 2 2 [xorB 92 B, H32 (xorB 54 B ++ d)] _ HPR.out (by decide) (by simp [xorB_len, HBL.out, H32_len])).mono ?_
          rintro e wq ⟨rfl, hbq⟩
          rw [show keyed 32 [] [xorB 92 B, H32 (xorB 54 B ++ d)].flatten = H32 (xorB 92 B ++ H32 (xorB 54 B ++ d)) by simp [H32]]
          try replace HGB := Lib.hid (HGB.out.below hbq HGB.out.lt)
          try replace HZZ := Lib.hid (HZZ.out.below hbq HZZ.out.lt)
          try replace HY1 := Lib.hid (HY1.out.below hbq)
          try replace HY2 := Lib.hid (HY2.out.below hbq)
          try replace HPR := Lib.hid (HPR.out.below hbq)
          try replace HBA := Lib.hid (HBA.out.trans (hbq.mono HBA.out.size))
          refine hK.out _ _ (hS8.below hbq) (fun hS9 => ?_)
          clear hK K
          refine wpAnyH_ready (rs := [15]) (by kernel_rfl) (by simp) ?_
          refine all_readyH_yes (by rfl) (by kernel_rfl) ?_ AllReadyH.nil
          intro K hK
          with_reducible refine wp_store_blk 134 (.tmp 3) (.tmp 19) ?_ _ 134 Z (bya (H32 (xorB 92 B ++ H32 (xorB 54 B ++ d)))) ?_ ?_ HZZ.out ?_ ?_ (bya_one _) ?_
          · kernel_rfl
          · kernel_rfl
          · kernel_rfl
          · rw [HZS.out, bya_size, H32_len]
          · rw [bya_size, H32_len]; exact info104
          intro wz hBz hOz hzz
          have hbq := HBA.out.trans (hOz.below HBA.out.size (Nat.le_refl _))
          try simp only [Act.put, List.getElem_toArray, List.getElem_cons_succ, List.getElem_cons_zero, List.setIfInBounds_toArray, List.set_cons_zero, List.set_cons_succ]
          refine hK.out _ _ (HMA.out.below hbq) (fun hS10 => ?_)
          clear hK K
          refine wpAnyH_done (by kernel_rfl) ?_ _
          have HS := Lib.hid hS10
          have HBZ : Hid (Bys wz _ 32 (H32 (xorB 92 B ++ H32 (xorB 54 B ++ d)))) := Lib.hid (by have := bys_blk hBz; rw [H32_len] at this; exact this)
          clear hBz hOz hzz hbq
          go_wp2_with fail
          go_ret
          exact ⟨_, rfl, HGE.out, HBZ.out, HS.out.here⟩
        refine AllReadyH.cons (by rfl) ?_ AllReadyH.nil
        intro K hK
        go_simp
        generalize hwq : World.alloc _ _ = wq
        obtain ⟨hzz, hbq⟩ := alloc_facts hwq
        clear hwq
        try replace HGB := Lib.hid (HGB.out.below hbq HGB.out.lt)
        try replace HZZ := Lib.hid (HZZ.out.below hbq HZZ.out.lt)
        try replace HY1 := Lib.hid (HY1.out.below hbq)
        try replace HY2 := Lib.hid (HY2.out.below hbq)
        try replace HPR := Lib.hid (HPR.out.below hbq)
        try replace HBA := Lib.hid (HBA.out.trans (hbq.mono HBA.out.size))
        have HZZ := Lib.hid hzz
        have HGE := Lib.hid hS3.here.size
        have HMA := Lib.hid hS3
        have HBA := Lib.hid hbq
        clear hzz
        refine hK.out _ _ (hS3.below hbq) (fun hS11 => ?_)
        clear hK K
        refine wpAnyH_ready (rs := [12]) (by kernel_rfl) (by simp) ?_
        refine AllReadyH.cons (by rfl) ?_ AllReadyH.nil
        intro K hK
        go_simp
        generalize hwq : World.alloc _ _ = wq
        obtain ⟨hpr, hbq⟩ := prs2 hwq HY1.out HY2.out (by decide) (by decide)
        clear hwq
        try replace HGB := Lib.hid (HGB.out.below hbq HGB.out.lt)
        try replace HZZ := Lib.hid (HZZ.out.below hbq HZZ.out.lt)
        try replace HY1 := Lib.hid (HY1.out.below hbq)
        try replace HY2 := Lib.hid (HY2.out.below hbq)
        try replace HPR := Lib.hid (HPR.out.below hbq)
        try replace HBA := Lib.hid (HBA.out.trans (hbq.mono HBA.out.size))
        have HPR := Lib.hid hpr
        clear hpr
        refine hK.out _ _ (hS11.below hbq) (fun hS12 => ?_)
        clear hK K
        refine wpAnyH_ready (rs := [13]) (by kernel_rfl) (by simp) ?_
        refine AllReadyH.cons (by rfl) ?_ AllReadyH.nil
        intro K hK
        go_simp
        refine (bsum_c _ 2 2 [xorB 92 B, H32 (xorB 54 B ++ d)] _ HPR.out (by decide) (by simp [xorB_len, HBL.out, H32_len])).mono ?_
        rintro e wq ⟨rfl, hbq⟩
        rw [show keyed 32 [] [xorB 92 B, H32 (xorB 54 B ++ d)].flatten = H32 (xorB 92 B ++ H32 (xorB 54 B ++ d)) by simp [H32]]
        try replace HGB := Lib.hid (HGB.out.below hbq HGB.out.lt)
        try replace HZZ := Lib.hid (HZZ.out.below hbq HZZ.out.lt)
        try replace HY1 := Lib.hid (HY1.out.below hbq)
        try replace HY2 := Lib.hid (HY2.out.below hbq)
        try replace HPR := Lib.hid (HPR.out.below hbq)
        try replace HBA := Lib.hid (HBA.out.trans (hbq.mono HBA.out.size))
        refine hK.out _ _ (hS12.below hbq) (fun hS13 => ?_)
        clear hK K
        refine wpAnyH_ready (rs := [15]) (by kernel_rfl) (by simp) ?_
        refine all_readyH_yes (by rfl) (by kernel_rfl) ?_ AllReadyH.nil
        intro K hK
        with_reducible refine wp_store_blk 134 (.tmp 3) (.tmp 19) ?_ _ 134 Z (bya (H32 (xorB 92 B ++ H32 (xorB 54 B ++ d)))) ?_ ?_ HZZ.out ?_ ?_ (bya_one _) ?_
        · kernel_rfl
        · kernel_rfl
        · kernel_rfl
        · rw [HZS.out, bya_size, H32_len]
        · rw [bya_size, H32_len]; exact info104
        intro wz hBz hOz hzz
        have hbq := HBA.out.trans (hOz.below HBA.out.size (Nat.le_refl _))
        try simp only [Act.put, List.getElem_toArray, List.getElem_cons_succ, List.getElem_cons_zero, List.setIfInBounds_toArray, List.set_cons_zero, List.set_cons_succ]
        refine hK.out _ _ (HMA.out.below hbq) (fun hS14 => ?_)
        clear hK K
        refine wpAnyH_done (by kernel_rfl) ?_ _
        have HS := Lib.hid hS14
        have HBZ : Hid (Bys wz _ 32 (H32 (xorB 92 B ++ H32 (xorB 54 B ++ d)))) := Lib.hid (by have := bys_blk hBz; rw [H32_len] at this; exact this)
        clear hBz hOz hzz hbq
        go_wp2_with fail
        go_ret
        exact ⟨_, rfl, HGE.out, HBZ.out, HS.out.here⟩
      refine AllReadyH.cons (by rfl) ?_ AllReadyH.nil
      intro K hK
      go_simp
      generalize hwq : World.alloc _ _ = wq
      obtain ⟨hzz, hbq⟩ := alloc_facts hwq
      clear hwq
      try replace HGB := Lib.hid (HGB.out.below hbq HGB.out.lt)
      try replace HZZ := Lib.hid (HZZ.out.below hbq HZZ.out.lt)
      try replace HY1 := Lib.hid (HY1.out.below hbq)
      try replace HY2 := Lib.hid (HY2.out.below hbq)
      try replace HPR := Lib.hid (HPR.out.below hbq)
      try replace HBA := Lib.hid (HBA.out.trans (hbq.mono HBA.out.size))
      have HZZ := Lib.hid hzz
      have HGE := Lib.hid hS2.here.size
      have HMA := Lib.hid hS2
      have HBA := Lib.hid hbq
      clear hzz
      refine hK.out _ _ (hS2.below hbq) (fun hS15 => ?_)
      clear hK K
      refine wpAnyH_ready (rs := [11]) (by kernel_rfl) (by simp) ?_
      refine AllReadyH.cons (by rfl) ?_ AllReadyH.nil
      intro K hK
      go_simp
      refine (sum_c b _ _ 32 _ _ hS15.mac.hash).mono ?_
      rintro e wq ⟨vs, rfl, hoh, hbq⟩
      obtain ⟨as0, cs0, hv, _, hyb⟩ := hoh.bys
      have exs : sumOf (start 32 0) (xorB 54 B ++ d) 32 = H32 (xorB 54 B ++ d) := rfl
      rw [exs, H32_len] at hv hyb
      subst hv
      try replace HGB := Lib.hid (HGB.out.below hbq HGB.out.lt)
      try replace HZZ := Lib.hid (HZZ.out.below hbq HZZ.out.lt)
      try replace HY1 := Lib.hid (HY1.out.below hbq)
      try replace HY2 := Lib.hid (HY2.out.below hbq)
      try replace HPR := Lib.hid (HPR.out.below hbq)
      try replace HBA := Lib.hid (HBA.out.trans (hbq.mono HBA.out.size))
      have HY2 := Lib.hid hyb
      clear hyb exs hoh
      refine hK.out _ _ (hS15.below hbq) (fun hS16 => ?_)
      clear hK K
      refine wpAnyH_ready (rs := [12]) (by kernel_rfl) (by simp) ?_
      refine AllReadyH.cons (by rfl) ?_ AllReadyH.nil
      intro K hK
      go_simp
      generalize hwq : World.alloc _ _ = wq
      obtain ⟨hpr, hbq⟩ := prs2 hwq HY1.out HY2.out (by decide) (by decide)
      clear hwq
      try replace HGB := Lib.hid (HGB.out.below hbq HGB.out.lt)
      try replace HZZ := Lib.hid (HZZ.out.below hbq HZZ.out.lt)
      try replace HY1 := Lib.hid (HY1.out.below hbq)
      try replace HY2 := Lib.hid (HY2.out.below hbq)
      try replace HPR := Lib.hid (HPR.out.below hbq)
      try replace HBA := Lib.hid (HBA.out.trans (hbq.mono HBA.out.size))
      have HPR := Lib.hid hpr
      clear hpr
      refine hK.out _ _ (hS16.below hbq) (fun hS17 => ?_)
      clear hK K
      refine wpAnyH_ready (rs := [13]) (by kernel_rfl) (by simp) ?_
      refine AllReadyH.cons (by rfl) ?_ AllReadyH.nil
      intro K hK
      go_simp
      refine (bsum_c _ 2 2 [xorB 92 B, H32 (xorB 54 B ++ d)] _ HPR.out (by decide) (by simp [xorB_len, HBL.out, H32_len])).mono ?_
      rintro e wq ⟨rfl, hbq⟩
      rw [show keyed 32 [] [xorB 92 B, H32 (xorB 54 B ++ d)].flatten = H32 (xorB 92 B ++ H32 (xorB 54 B ++ d)) by simp [H32]]
      try replace HGB := Lib.hid (HGB.out.below hbq HGB.out.lt)
      try replace HZZ := Lib.hid (HZZ.out.below hbq HZZ.out.lt)
      try replace HY1 := Lib.hid (HY1.out.below hbq)
      try replace HY2 := Lib.hid (HY2.out.below hbq)
      try replace HPR := Lib.hid (HPR.out.below hbq)
      try replace HBA := Lib.hid (HBA.out.trans (hbq.mono HBA.out.size))
      refine hK.out _ _ (hS17.below hbq) (fun hS18 => ?_)
      clear hK K
      refine wpAnyH_ready (rs := [15]) (by kernel_rfl) (by simp) ?_
      refine all_readyH_yes (by rfl) (by kernel_rfl) ?_ AllReadyH.nil
      intro K hK
      with_reducible refine wp_store_blk 134 (.tmp 3) (.tmp 19) ?_ _ 134 Z (bya (H32 (xorB 92 B ++ H32 (xorB 54 B ++ d)))) ?_ ?_ HZZ.out ?_ ?_ (bya_one _) ?_
      · kernel_rfl
      · kernel_rfl
      · kernel_rfl
      · rw [HZS.out, bya_size, H32_len]
      · rw [bya_size, H32_len]; exact info104
      intro wz hBz hOz hzz
      have hbq := HBA.out.trans (hOz.below HBA.out.size (Nat.le_refl _))
      try simp only [Act.put, List.getElem_toArray, List.getElem_cons_succ, List.getElem_cons_zero, List.setIfInBounds_toArray, List.set_cons_zero, List.set_cons_succ]
      refine hK.out _ _ (HMA.out.below hbq) (fun hS19 => ?_)
      clear hK K
      refine wpAnyH_done (by kernel_rfl) ?_ _
      have HS := Lib.hid hS19
      have HBZ : Hid (Bys wz _ 32 (H32 (xorB 92 B ++ H32 (xorB 54 B ++ d)))) := Lib.hid (by have := bys_blk hBz; rw [H32_len] at this; exact this)
      clear hBz hOz hzz hbq
      go_wp2_with fail
      go_ret
      exact ⟨_, rfl, HGE.out, HBZ.out, HS.out.here⟩
    refine AllReadyH.cons (by rfl) ?_ AllReadyH.nil
    intro K hK
    go_simp
    generalize hwq : World.alloc _ _ = wq
    obtain ⟨hzz, hbq⟩ := alloc_facts hwq
    clear hwq
    try replace HGB := Lib.hid (HGB.out.below hbq HGB.out.lt)
    try replace HZZ := Lib.hid (HZZ.out.below hbq HZZ.out.lt)
    try replace HY1 := Lib.hid (HY1.out.below hbq)
    try replace HY2 := Lib.hid (HY2.out.below hbq)
    try replace HPR := Lib.hid (HPR.out.below hbq)
    try replace HBA := Lib.hid (HBA.out.trans (hbq.mono HBA.out.size))
    have HZZ := Lib.hid hzz
    have HGE := Lib.hid hS1.here.size
    have HMA := Lib.hid hS1
    have HBA := Lib.hid hbq
    clear hzz
    refine hK.out _ _ (hS1.below hbq) (fun hS20 => ?_)
    clear hK K
    refine wpAnyH_ready (rs := [5]) (by kernel_rfl) (by simp) ?_
    refine AllReadyH.cons (by rfl) ?_ AllReadyH.nil
    intro K hK
    go_simp
    refine (half_of _ B HBL.out 92 _ HGB.out).mono ?_
    rintro e wq ⟨vh, rfl, hoh, hbq⟩
    obtain ⟨ah, ch, hv, _, hyb⟩ := hoh.bys
    have exl : (xorB 92 B).length = 64 := by rw [xorB_len, HBL.out]
    rw [exl] at hv hyb
    subst hv
    try replace HGB := Lib.hid (HGB.out.below hbq HGB.out.lt)
    try replace HZZ := Lib.hid (HZZ.out.below hbq HZZ.out.lt)
    try replace HY1 := Lib.hid (HY1.out.below hbq)
    try replace HY2 := Lib.hid (HY2.out.below hbq)
    try replace HPR := Lib.hid (HPR.out.below hbq)
    try replace HBA := Lib.hid (HBA.out.trans (hbq.mono HBA.out.size))
    have HY1 := Lib.hid hyb
    clear hyb exl hoh
    refine hK.out _ _ (hS20.below hbq) (fun hS21 => ?_)
    clear hK K
    refine wpAnyH_ready (rs := [11]) (by kernel_rfl) (by simp) ?_
    refine AllReadyH.cons (by rfl) ?_ AllReadyH.nil
    intro K hK
    go_simp
    refine (sum_c b _ _ 32 _ _ hS21.mac.hash).mono ?_
    rintro e wq ⟨vs, rfl, hoh, hbq⟩
    obtain ⟨as0, cs0, hv, _, hyb⟩ := hoh.bys
    have exs : sumOf (start 32 0) (xorB 54 B ++ d) 32 = H32 (xorB 54 B ++ d) := rfl
    rw [exs, H32_len] at hv hyb
    subst hv
    try replace HGB := Lib.hid (HGB.out.below hbq HGB.out.lt)
    try replace HZZ := Lib.hid (HZZ.out.below hbq HZZ.out.lt)
    try replace HY1 := Lib.hid (HY1.out.below hbq)
    try replace HY2 := Lib.hid (HY2.out.below hbq)
    try replace HPR := Lib.hid (HPR.out.below hbq)
    try replace HBA := Lib.hid (HBA.out.trans (hbq.mono HBA.out.size))
    have HY2 := Lib.hid hyb
    clear hyb exs hoh
    refine hK.out _ _ (hS21.below hbq) (fun hS22 => ?_)
    clear hK K
    refine wpAnyH_ready (rs := [12]) (by kernel_rfl) (by simp) ?_
    refine AllReadyH.cons (by rfl) ?_ AllReadyH.nil
    intro K hK
    go_simp
    generalize hwq : World.alloc _ _ = wq
    obtain ⟨hpr, hbq⟩ := prs2 hwq HY1.out HY2.out (by decide) (by decide)
    clear hwq
    try replace HGB := Lib.hid (HGB.out.below hbq HGB.out.lt)
    try replace HZZ := Lib.hid (HZZ.out.below hbq HZZ.out.lt)
    try replace HY1 := Lib.hid (HY1.out.below hbq)
    try replace HY2 := Lib.hid (HY2.out.below hbq)
    try replace HPR := Lib.hid (HPR.out.below hbq)
    try replace HBA := Lib.hid (HBA.out.trans (hbq.mono HBA.out.size))
    have HPR := Lib.hid hpr
    clear hpr
    refine hK.out _ _ (hS22.below hbq) (fun hS23 => ?_)
    clear hK K
    refine wpAnyH_ready (rs := [13]) (by kernel_rfl) (by simp) ?_
    refine AllReadyH.cons (by rfl) ?_ AllReadyH.nil
    intro K hK
    go_simp
    refine (bsum_c _ 2 2 [xorB 92 B, H32 (xorB 54 B ++ d)] _ HPR.out (by decide) (by simp [xorB_len, HBL.out, H32_len])).mono ?_
    rintro e wq ⟨rfl, hbq⟩
    rw [show keyed 32 [] [xorB 92 B, H32 (xorB 54 B ++ d)].flatten = H32 (xorB 92 B ++ H32 (xorB 54 B ++ d)) by simp [H32]]
    try replace HGB := Lib.hid (HGB.out.below hbq HGB.out.lt)
    try replace HZZ := Lib.hid (HZZ.out.below hbq HZZ.out.lt)
    try replace HY1 := Lib.hid (HY1.out.below hbq)
    try replace HY2 := Lib.hid (HY2.out.below hbq)
    try replace HPR := Lib.hid (HPR.out.below hbq)
    try replace HBA := Lib.hid (HBA.out.trans (hbq.mono HBA.out.size))
    refine hK.out _ _ (hS23.below hbq) (fun hS24 => ?_)
    clear hK K
    refine wpAnyH_ready (rs := [15]) (by kernel_rfl) (by simp) ?_
    refine all_readyH_yes (by rfl) (by kernel_rfl) ?_ AllReadyH.nil
    intro K hK
    with_reducible refine wp_store_blk 134 (.tmp 3) (.tmp 19) ?_ _ 134 Z (bya (H32 (xorB 92 B ++ H32 (xorB 54 B ++ d)))) ?_ ?_ HZZ.out ?_ ?_ (bya_one _) ?_
    · kernel_rfl
    · kernel_rfl
    · kernel_rfl
    · rw [HZS.out, bya_size, H32_len]
    · rw [bya_size, H32_len]; exact info104
    intro wz hBz hOz hzz
    have hbq := HBA.out.trans (hOz.below HBA.out.size (Nat.le_refl _))
    try simp only [Act.put, List.getElem_toArray, List.getElem_cons_succ, List.getElem_cons_zero, List.setIfInBounds_toArray, List.set_cons_zero, List.set_cons_succ]
    refine hK.out _ _ (HMA.out.below hbq) (fun hS25 => ?_)
    clear hK K
    refine wpAnyH_done (by kernel_rfl) ?_ _
    have HS := Lib.hid hS25
    have HBZ : Hid (Bys wz _ 32 (H32 (xorB 92 B ++ H32 (xorB 54 B ++ d)))) := Lib.hid (by have := bys_blk hBz; rw [H32_len] at this; exact this)
    clear hBz hOz hzz hbq
    go_wp2_with fail
    go_ret
    exact ⟨_, rfl, HGE.out, HBZ.out, HS.out.here⟩
  refine AllReadyH.cons (by rfl) ?_ AllReadyH.nil
  intro K hK
  go_simp
  generalize hwq : World.alloc _ _ = wq
  obtain ⟨hzz, hbq⟩ := alloc_facts hwq
  clear hwq
  try replace HGB := Lib.hid (HGB.out.below hbq HGB.out.lt)
  try replace HZZ := Lib.hid (HZZ.out.below hbq HZZ.out.lt)
  try replace HY1 := Lib.hid (HY1.out.below hbq)
  try replace HY2 := Lib.hid (HY2.out.below hbq)
  try replace HPR := Lib.hid (HPR.out.below hbq)
  try replace HBA := Lib.hid (HBA.out.trans (hbq.mono HBA.out.size))
  have HZZ := Lib.hid hzz
  have HGE := Lib.hid hS0'.here.size
  have HMA := Lib.hid hS0'
  have HBA := Lib.hid hbq
  clear hzz
  refine hK.out _ _ (hS0'.below hbq) (fun hS26 => ?_)
  clear hK K
  refine wpAnyH_ready (rs := [4]) (by kernel_rfl) (by simp) ?_
  refine AllReadyH.cons (by rfl) ?_ AllReadyH.nil
  intro K hK
  go_simp
  rw [← bya_bl]
  refine (halves_b B _).mono ?_
  rintro e wq ⟨gb, rfl, hgb, hkb, hbq⟩
  try replace HGB := Lib.hid (HGB.out.below hbq HGB.out.lt)
  try replace HZZ := Lib.hid (HZZ.out.below hbq HZZ.out.lt)
  try replace HY1 := Lib.hid (HY1.out.below hbq)
  try replace HY2 := Lib.hid (HY2.out.below hbq)
  try replace HPR := Lib.hid (HPR.out.below hbq)
  try replace HBA := Lib.hid (HBA.out.trans (hbq.mono HBA.out.size))
  have HGB := Lib.hid hkb
  clear hkb
  refine hK.out _ _ (hS26.below hbq) (fun hS27 => ?_)
  clear hK K
  refine wpAnyH_ready (rs := [5]) (by kernel_rfl) (by simp) ?_
  refine AllReadyH.cons (by rfl) ?_ AllReadyH.nil
  intro K hK
  go_simp
  refine (half_of _ B HBL.out 92 _ HGB.out).mono ?_
  rintro e wq ⟨vh, rfl, hoh, hbq⟩
  obtain ⟨ah, ch, hv, _, hyb⟩ := hoh.bys
  have exl : (xorB 92 B).length = 64 := by rw [xorB_len, HBL.out]
  rw [exl] at hv hyb
  subst hv
  try replace HGB := Lib.hid (HGB.out.below hbq HGB.out.lt)
  try replace HZZ := Lib.hid (HZZ.out.below hbq HZZ.out.lt)
  try replace HY1 := Lib.hid (HY1.out.below hbq)
  try replace HY2 := Lib.hid (HY2.out.below hbq)
  try replace HPR := Lib.hid (HPR.out.below hbq)
  try replace HBA := Lib.hid (HBA.out.trans (hbq.mono HBA.out.size))
  have HY1 := Lib.hid hyb
  clear hyb exl hoh
  refine hK.out _ _ (hS27.below hbq) (fun hS28 => ?_)
  clear hK K
  refine wpAnyH_ready (rs := [11]) (by kernel_rfl) (by simp) ?_
  refine AllReadyH.cons (by rfl) ?_ AllReadyH.nil
  intro K hK
  go_simp
  refine (sum_c b _ _ 32 _ _ hS28.mac.hash).mono ?_
  rintro e wq ⟨vs, rfl, hoh, hbq⟩
  obtain ⟨as0, cs0, hv, _, hyb⟩ := hoh.bys
  have exs : sumOf (start 32 0) (xorB 54 B ++ d) 32 = H32 (xorB 54 B ++ d) := rfl
  rw [exs, H32_len] at hv hyb
  subst hv
  try replace HGB := Lib.hid (HGB.out.below hbq HGB.out.lt)
  try replace HZZ := Lib.hid (HZZ.out.below hbq HZZ.out.lt)
  try replace HY1 := Lib.hid (HY1.out.below hbq)
  try replace HY2 := Lib.hid (HY2.out.below hbq)
  try replace HPR := Lib.hid (HPR.out.below hbq)
  try replace HBA := Lib.hid (HBA.out.trans (hbq.mono HBA.out.size))
  have HY2 := Lib.hid hyb
  clear hyb exs hoh
  refine hK.out _ _ (hS28.below hbq) (fun hS29 => ?_)
  clear hK K
  refine wpAnyH_ready (rs := [12]) (by kernel_rfl) (by simp) ?_
  refine AllReadyH.cons (by rfl) ?_ AllReadyH.nil
  intro K hK
  go_simp
  generalize hwq : World.alloc _ _ = wq
  obtain ⟨hpr, hbq⟩ := prs2 hwq HY1.out HY2.out (by decide) (by decide)
  clear hwq
  try replace HGB := Lib.hid (HGB.out.below hbq HGB.out.lt)
  try replace HZZ := Lib.hid (HZZ.out.below hbq HZZ.out.lt)
  try replace HY1 := Lib.hid (HY1.out.below hbq)
  try replace HY2 := Lib.hid (HY2.out.below hbq)
  try replace HPR := Lib.hid (HPR.out.below hbq)
  try replace HBA := Lib.hid (HBA.out.trans (hbq.mono HBA.out.size))
  have HPR := Lib.hid hpr
  clear hpr
  refine hK.out _ _ (hS29.below hbq) (fun hS30 => ?_)
  clear hK K
  refine wpAnyH_ready (rs := [13]) (by kernel_rfl) (by simp) ?_
  refine AllReadyH.cons (by rfl) ?_ AllReadyH.nil
  intro K hK
  go_simp
  refine (bsum_c _ 2 2 [xorB 92 B, H32 (xorB 54 B ++ d)] _ HPR.out (by decide) (by simp [xorB_len, HBL.out, H32_len])).mono ?_
  rintro e wq ⟨rfl, hbq⟩
  rw [show keyed 32 [] [xorB 92 B, H32 (xorB 54 B ++ d)].flatten = H32 (xorB 92 B ++ H32 (xorB 54 B ++ d)) by simp [H32]]
  try replace HGB := Lib.hid (HGB.out.below hbq HGB.out.lt)
  try replace HZZ := Lib.hid (HZZ.out.below hbq HZZ.out.lt)
  try replace HY1 := Lib.hid (HY1.out.below hbq)
  try replace HY2 := Lib.hid (HY2.out.below hbq)
  try replace HPR := Lib.hid (HPR.out.below hbq)
  try replace HBA := Lib.hid (HBA.out.trans (hbq.mono HBA.out.size))
  refine hK.out _ _ (hS30.below hbq) (fun hS31 => ?_)
  clear hK K
  refine wpAnyH_ready (rs := [15]) (by kernel_rfl) (by simp) ?_
  refine all_readyH_yes (by rfl) (by kernel_rfl) ?_ AllReadyH.nil
  intro K hK
  with_reducible refine wp_store_blk 134 (.tmp 3) (.tmp 19) ?_ _ 134 Z (bya (H32 (xorB 92 B ++ H32 (xorB 54 B ++ d)))) ?_ ?_ HZZ.out ?_ ?_ (bya_one _) ?_
  · kernel_rfl
  · kernel_rfl
  · kernel_rfl
  · rw [HZS.out, bya_size, H32_len]
  · rw [bya_size, H32_len]; exact info104
  intro wz hBz hOz hzz
  have hbq := HBA.out.trans (hOz.below HBA.out.size (Nat.le_refl _))
  try simp only [Act.put, List.getElem_toArray, List.getElem_cons_succ, List.getElem_cons_zero, List.setIfInBounds_toArray, List.set_cons_zero, List.set_cons_succ]
  refine hK.out _ _ (HMA.out.below hbq) (fun hS32 => ?_)
  clear hK K
  refine wpAnyH_done (by kernel_rfl) ?_ _
  have HS := Lib.hid hS32
  have HBZ : Hid (Bys wz _ 32 (H32 (xorB 92 B ++ H32 (xorB 54 B ++ d)))) := Lib.hid (by have := bys_blk hBz; rw [H32_len] at this; exact this)
  clear hBz hOz hzz hbq
  go_wp2_with fail
  go_ret
  exact ⟨_, rfl, HGE.out, HBZ.out, HS.out.here⟩
end Go.Proofs.YtomnjhhpeglcnaaGreat

namespace Go.Proofs.YtomnjhhpeglcnaaGreat
open Go.RowKit
set_option linter.unusedSimpArgs false
set_option linter.unusedVariables false
set_option maxRecDepth 100000

set_option maxHeartbeats 1000000 in
theorem whole_c (a : Option Addr) (c : Nat) (l : List By) (w : World) (h : Bys w a 32 l) :
    Calls Tryz.prog 87 #[.slice a 32 c] w fun e w' => e = .returned (.agg (bya l)) ∧ Below w.heap.size w w' := by
  have hll := h.1
  have z := zero36
  obtain ⟨Z, hZ⟩ : ∃ Z, Z = bya (List.replicate 32 0#8) := ⟨_, rfl⟩
  rw [← hZ] at z
  have HR : Hid (Blk (w.alloc (.cells Z 134)) w.heap.size 134 (bya (List.replicate 32 0#8))) := Lib.hid (by rw [← hZ]; exact Blk.new w 134 Z)
  have HB0 := Lib.hid ((Below.refl w.heap.size w).alloc (Nat.le_refl _) (.cells Z 134))
  have HK1 := Lib.hid (h.below HB0.out)
  obtain ⟨R, hR⟩ : ∃ R, R = bya l := ⟨_, rfl⟩
  have HRE : Hid (R = bya l) := Lib.hid hR
  have HKL : Hid (R.size = 32) := Lib.hid (by rw [hR, bya_size, hll])
  have HKO : Hid (R.all (·.oneCell') = true) := Lib.hid (by rw [hR]; exact bya_one _)
  have hkx : Hid (bya (l ++ (List.replicate 32 0#8).drop 32) = R) := Lib.hid (by rw [hR, List.drop_of_length_le (by simp), List.append_nil])
  clear hR hZ h
  go_enter Tryz.func87, Tryz.ntmps87
  go_wp2_with (first | (refine wpl_copy_bys rfl _ _ rfl w.heap.size (List.replicate 32 0#8) 134 a 32 c 32 32 l rfl rfl HR.out HK1.out (Nat.le_refl _) (by simp) ?_; intro w2 hB2 hO2 hz2; have HB2 : Hid (Blk w2 w.heap.size 134 R) := Lib.hid (by rw [← hkx.out]; exact hB2); have HBL := Lib.hid (HB0.out.trans (hO2.below (B := w.heap.size) HB0.out.size (Nat.le_refl _))); clear hB2 hO2 hz2) | (refine wpl_load_blk rfl 134 _ rfl w.heap.size rfl 134 _ _ HB2.out Tryz.underlying134 rfl (by rw [HKL.out]; exact info104) ?_) | (refine wpl_store_blk rfl 134 _ _ rfl w.heap.size 134 _ R rfl rfl HB2.out rfl (by rw [HKL.out]; exact info104) HKO.out ?_; intro w6 hB6 hO6 hz6))
  exact bodyPost_ret (results_cell_row rfl _ _ w.heap.size 134 _ (0, 0) _ rfl hB6 Tryz.underlying134 rfl (by rw [HKL.out]; exact info104)) rfl ⟨by rw [HRE.out], HBL.out.trans (hO6.below (B := w.heap.size) HBL.out.size (Nat.le_refl _))⟩

set_option maxHeartbeats 4000000 in
theorem tag_c (a : Option Addr) (n c : Nat) (key : List By) (pa : Option Addr) (pn pc : Nat) (ps : List (List By)) (w : World) (hk : Bys w a n key) (hn : n ≤ 1000000) (hp : Prs w pa pn ps) (hpn : pn ≤ 1000000) (hf : ps.flatten.length ≤ 100000000) :
    Calls Tryz.prog 79 #[.slice a n c, .slice pa pn pc] w fun e w' => e = .returned (.agg (bya (tagB key ps.flatten))) ∧ Below w.heap.size w w' := by
  have z := zero36
  obtain ⟨Z, hZ⟩ : ∃ Z, Z = bya (List.replicate 32 0#8) := ⟨_, rfl⟩
  rw [← hZ] at z
  have HZS : Hid (Z.size = 32) := Lib.hid (by rw [hZ]; rfl)
  clear hZ
  have HB0 := Lib.hid ((Below.refl w.heap.size w).alloc (Nat.le_refl _) (.cells Z 134))
  have HR := Lib.hid (Blk.new w 134 Z)
  have HK := Lib.hid (hk.below HB0.out); have HP := Lib.hid (hp.below HB0.out); have HF := Lib.hid hf
  clear hk hp hf
  go_enter Tryz.func79, Tryz.ntmps79
  go_wp2_with fail
  obtain ⟨s, hs⟩ : ∃ s, s = w.heap.size := ⟨_, rfl⟩
  rw [← hs] at HR ⊢
  have Hs := Lib.hid hs
  clear hs z
  generalize (World.alloc _ _) = w1 at HB0 HR HK HP ⊢
  refine (hnew_c a n c key _ HK.out hn).mono ?_
  rintro e w2 ⟨m, b, rfl, hm, hb, hM, hb2⟩
  have HM := Lib.hid hM
  have HBX := Lib.hid (HB0.out.trans (hb2.mono HB0.out.size))
  have HR2 := Lib.hid (HR.out.below hb2 HR.out.lt)
  have HP2 := Lib.hid (HP.out.below hb2)
  have hws : w.heap.size < w1.heap.size := by have := HR.out.lt; have := Hs.out; omega
  have hsb : s < b := by have := HR.out.lt; omega
  have hwb : w.heap.size < b := by omega
  have HSB := Lib.hid hb2
  clear hM hb2
  go_wp2_with fail
  go_loopw [12] (fun iv wr => ∃ k : Nat, k ≤ pn ∧ iv = .int .i64 k ∧ IsMac wr m b (keyBlk key) (ps.take k).flatten ∧ Below w1.heap.size w1 wr) (fun iv _ => pn - (intOf iv).toNat)
  case atStart => exact ⟨0, Nat.zero_le _, rfl, by simpa using HM.out, HSB.out⟩
  case round =>
    obtain ⟨k, hk, rfl, hh, hb3⟩ := hrel
    have HH := Lib.hid hh; have HB := Lib.hid hb3
    clear hh hb3
    by_cases hlt : k < pn
    · obtain ⟨p, hpk⟩ : ∃ p, ps[k]? = some p := ⟨ps[k]'(by rw [HP.out.1]; exact hlt), List.getElem?_eq_getElem _⟩
      obtain ⟨hpl, g, off, a', c', rfl, hg, hcell, hbys⟩ := (HP.out.below HB.out).2 k p hpk
      have HY := Lib.hid hbys
      have HPK := Lib.hid hpk
      have hle : (ps.take k).flatten.length + p.length ≤ 100000000 := by
        have := flat_take _ _ _ HPK.out
        have h2 := flat_le ps (k + 1)
        rw [this, List.length_append] at h2
        exact Nat.le_trans h2 HF.out
      have HLE := Lib.hid hle
      clear hbys hpk hle
      go_wp2_with fail
      refine (mwrite_c m b _ _ a' p.length c' p _ HH.out HY.out (by have := HLE.out; omega) (by have := HLE.out; omega)).mono ?_
      rintro e w3 ⟨rfl, hh3, hO3⟩
      have hh4 : IsMac w3 m b (keyBlk key) (ps.take (k + 1)).flatten := by
        rw [flat_take _ _ _ HPK.out]
        exact hh3
      have HH4 := Lib.hid hh4
      have HB4 := Lib.hid (HB.out.trans (hO3.below HB.out.size hb))
      clear hh3 hh4 hO3 hcell
      go_wp2_with fail
      go_roundw
      case rel => exact ⟨k + 1, by omega, by go_num, HH4.out, HB4.out⟩
      case measure => simp [intOf]; omega
    · obtain rfl : k = pn := by omega
      have hh := HH.out
      rw [List.take_of_length_le (by rw [HP.out.1]; exact Nat.le_refl _)] at hh
      have HH5 := Lib.hid hh
      clear hh
      go_wp2_with fail
      refine (mtag_c m b _ _ _ HH5.out).mono ?_
      rintro e w5 ⟨g, rfl, hg5, hv, hb5⟩
      have HV := Lib.hid hv
      have HB5 := Lib.hid (HB.out.trans (hb5.mono HB.out.size))
      clear hv hb5
      go_wp2_with fail
      refine (whole_c _ _ _ _ HV.out).mono ?_
      rintro e w6 ⟨rfl, hb6⟩
      have etag : H32 (xorB 92 (keyBlk key) ++ H32 (xorB 54 (keyBlk key) ++ ps.flatten)) = tagB key ps.flatten := rfl
      rw [etag]
      have HB6 := Lib.hid (HB5.out.trans (hb6.mono HB5.out.size))
      have HR6 := Lib.hid (HR.out.below HB6.out HR.out.lt)
      have htl := tagB_len key ps.flatten
      obtain ⟨R, hR⟩ : ∃ R, R = bya (tagB key ps.flatten) := ⟨_, rfl⟩
      have HRE : Hid (R = bya (tagB key ps.flatten)) := Lib.hid hR
      have HKL : Hid (R.size = 32) := Lib.hid (by rw [hR, bya_size, htl])
      have HKO : Hid (R.all (·.oneCell') = true) := Lib.hid (by rw [hR]; exact bya_one _)
      rw [← hR]
      clear hR hb6 etag htl
      go_wp2_with (refine wpl_store_blk rfl 134 _ _ rfl s 134 Z R rfl rfl HR6.out (by rw [HZS.out, HKL.out]) (by rw [HKL.out]; exact info104) HKO.out ?_; intro w7 hB7 hO7 hz7)
      have hf := (HB0.out.trans (HB6.out.mono HB0.out.size)).trans (hO7.below (B := w.heap.size) (HB0.out.trans (HB6.out.mono HB0.out.size)).size (by have := Hs.out; omega))
      refine bodyPost_ret (results_cell_row rfl _ _ s 134 _ (0, 0) _ rfl hB7 Tryz.underlying134 rfl (by rw [HKL.out]; exact info104)) rfl ⟨by rw [HRE.out], hf⟩

set_option maxHeartbeats 1000000 in
theorem short_c (a : Option Addr) (n c : Nat) (key : List By) (k : Nat) (pa : Option Addr) (pn pc : Nat) (ps : List (List By)) (w : World) (hk : Bys w a n key) (hn : n ≤ 1000000) (h8 : 8 ≤ k) (h32 : k ≤ 32) (hp : Prs w pa pn ps) (hpn : pn ≤ 1000000) (hf : ps.flatten.length ≤ 100000000) :
    Calls Tryz.prog 58 #[.slice a n c, .int .i64 (k : Int), .slice pa pn pc] w fun e w' => ∃ v, e = .returned (.tuple #[v, .int .i64 0]) ∧ OwnB w' w.heap.size v ((tagB key ps.flatten).take k) ∧ Below w.heap.size w w' := by
  have z := zero36
  obtain ⟨Z, hZ⟩ : ∃ Z, Z = bya (List.replicate 32 0#8) := ⟨_, rfl⟩
  rw [← hZ] at z
  have HZS : Hid (Z.size = 32) := Lib.hid (by rw [hZ]; rfl)
  clear hZ
  have HK := Lib.hid hk; have HP := Lib.hid hp; have HF := Lib.hid hf
  have q1 : ¬ ((k : Int) < 8) := by omega
  have q2 : ¬ (32 < (k : Int)) := by omega
  clear hk hp hf
  go_enter Tryz.func58, Tryz.ntmps58
  go_wp2_with fail
  refine (tag_c a n c key pa pn pc ps w HK.out hn HP.out hpn HF.out).mono ?_
  rintro e w1 ⟨rfl, hb1⟩
  have htl := tagB_len key ps.flatten
  obtain ⟨T, hT⟩ : ∃ T, T = tagB key ps.flatten := ⟨_, rfl⟩
  rw [← hT] at htl ⊢
  have HTE := Lib.hid hT
  have HTL := Lib.hid htl
  obtain ⟨R, hR⟩ : ∃ R, R = bya T := ⟨_, rfl⟩
  have HRE : Hid (R = bya T) := Lib.hid hR
  have HKL : Hid (R.size = 32) := Lib.hid (by rw [hR, bya_size, htl])
  have HKO : Hid (R.all (·.oneCell') = true) := Lib.hid (by rw [hR]; exact bya_one _)
  rw [← hR]
  have HB1 := Lib.hid hb1
  clear hR hT htl hb1
  have HB2 := Lib.hid (HB1.out.alloc HB1.out.size (.cells Z 134))
  go_wp2_with (refine wpl_store_blk rfl 134 _ _ rfl w1.heap.size 134 Z R rfl rfl (Blk.new w1 134 Z) (by rw [HZS.out, HKL.out]) (by rw [HKL.out]; exact info104) HKO.out ?_; intro w7 hB7 hO7 hz7; have HY7 : Hid (Bys w7 (some ⟨w1.heap.size, 0, none⟩) k (T.take k)) := Lib.hid (by have e := hB7; rw [HRE.out] at e; have e2 := bys_blk e; exact e2.take k (by rw [HTL.out]; exact h32)); have HB7 := Lib.hid (HB2.out.trans (hO7.below (B := w.heap.size) HB2.out.size HB1.out.size)); clear hB7 hO7 hz7)
  refine (clone_c _ k 32 (T.take k) w7 HY7.out (by omega)).mono ?_
  rintro e w8 ⟨v, rfl, hv, hb8⟩
  have HV := Lib.hid hv
  have HB8 := Lib.hid (HB7.out.trans (hb8.mono HB7.out.size))
  clear hv hb8
  go_wp2_with fail
  go_ret2
  exact ⟨v, rfl, by rw [← HTE.out]; exact own_low HV.out HB7.out.size, HB8.out⟩
end Go.Proofs.YtomnjhhpeglcnaaGreat
