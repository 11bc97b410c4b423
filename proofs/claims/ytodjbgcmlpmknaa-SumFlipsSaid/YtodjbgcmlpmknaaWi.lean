/- Contracts: slices of bytes are held against each other, cloned, made. -/
import Derived.Test.YtodjbgcmlpmknaaWh
import Derived.Lib.AppendZerosOnto
import Derived.Laws.MakeOwn
namespace Go.Proofs.Ytodjbgcmlpmknaa
open Go.RowKit

theorem bnat (x y : By) : ((x.toNat : Int) != (y.toNat : Int)) = decide (x ≠ y) := by
  by_cases h : x = y
  · subst h; simp
  · have : x.toNat ≠ y.toNat := fun e => h (BitVec.eq_of_toNat_eq e)
    simp [h]; omega

set_option maxHeartbeats 1000000 in
theorem equal_c (a1 a2 : Option Addr) (n1 n2 c1 c2 : Nat) (xs ys : List By) (w : World) (h1 : Bys w a1 n1 xs) (h2 : Bys w a2 n2 ys) (hm : n1 ≤ 1000000000) :
    Calls Try.prog 37 #[.slice a1 n1 c1, .slice a2 n2 c2] w fun e w' => e = .returned (.bool (decide (xs = ys))) ∧ Below w.heap.size w w' := by
  have h1l := h1.1
  have h2l := h2.1
  subst h1l; subst h2l
  by_cases hl : xs.length = ys.length
  · have hq : ((xs.length : Int) != (ys.length : Int)) = false := by simp [hl]
    have Hl := Lib.hid hl
    have H1 := Lib.hid h1; clear h1
    have H2 := Lib.hid h2; clear h2
    clear hl
    go_enter Try.func37, Try.ntmps37
    go_wp2
    go_loopw [13] (fun i wr => ∃ k : Nat, k ≤ xs.length ∧ i = .int .i64 k ∧ (∀ j, j < k → xs[j]? = ys[j]?) ∧ ∃ m, wr = w.drewN m) (fun i _ => xs.length - (intOf i).toNat)
    case atStart => exact ⟨0, Nat.zero_le _, rfl, fun j hj => by omega, 0, rfl⟩
    case round =>
      obtain ⟨k, hk, rfl, hs, m, rfl⟩ := hrel
      have HS := Lib.hid hs; clear hs
      by_cases hlt : k < xs.length
      · have hx : xs[k]? = some xs[k] := List.getElem?_eq_getElem hlt
        have hlt2 : k < ys.length := by have := Hl.out; omega
        have hy : ys[k]? = some ys[k] := List.getElem?_eq_getElem hlt2
        obtain ⟨g1, o1, rfl, _, d1⟩ := H1.out.2 k _ hx
        obtain ⟨g2, o2, rfl, _, d2⟩ := H2.out.2 k _ hy
        have Hx := Lib.hid hx; clear hx
        have Hy := Lib.hid hy; clear hy
        obtain ⟨x, hxx⟩ : ∃ x, x = xs[k] := ⟨_, rfl⟩
        obtain ⟨y, hyy⟩ : ∃ y, y = ys[k] := ⟨_, rfl⟩
        rw [← hxx] at d1 Hx
        rw [← hyy] at d2 Hy
        clear hxx hyy
        have q0 := bnat x y
        by_cases hxy : x = y
        · have q1 : ((x.toNat : Int) != (y.toNat : Int)) = false := by rw [q0]; simp [hxy]
          have Hxy := Lib.hid hxy; clear hxy q0
          go_wp2
          go_quiet (fail)
          go_wp2
          go_roundw
          case rel =>
            refine ⟨k + 1, by omega, by go_num, fun j hj => ?_, ⟨_, rfl⟩⟩
            by_cases e : j = k
            · rw [e, Hx.out, Hy.out, Hxy.out]
            · exact HS.out j (by omega)
          case measure => simp [intOf]; omega
        · have q1 : ((x.toNat : Int) != (y.toNat : Int)) = true := by rw [q0]; simp [hxy]
          have Hxy := Lib.hid hxy; clear hxy q0
          go_wp2
          go_quiet (fail)
          go_wp2
          go_ret
          refine ⟨?_, (by rw [World.drewN_drewN]; exact below_drewN (Below.refl _ _) _)⟩
          have : ¬ xs = ys := fun e => by have h1 := Hx.out; have h2 := Hy.out; rw [e, h2] at h1; exact Hxy.out (by injection h1 with h; exact h.symm)
          simp [this]
      · obtain rfl : k = xs.length := by omega
        go_wp2
        go_ret
        refine ⟨?_, below_drewN (Below.refl _ _) _⟩
        have : xs = ys := by
          apply List.ext_getElem?
          intro j
          by_cases hj : j < xs.length
          · exact HS.out j hj
          · rw [List.getElem?_eq_none (by omega), List.getElem?_eq_none (by have := Hl.out; omega)]
        simp [this]
  · have hq : ((xs.length : Int) != (ys.length : Int)) = true := by simp; omega
    have hne : ¬ xs = ys := fun e => hl (by rw [e])
    have Hne := Lib.hid hne; clear hne hl h1 h2
    go_enter Try.func37, Try.ntmps37
    go_wp2
    go_ret
    exact ⟨by simp [Hne.out], Below.refl _ _⟩

/-- What a slice of bytes is cloned to. -/
theorem clone_c (a : Option Addr) (n c : Nat) (l : List By) (w : World) (h : Bys w a n l) (hn : n ≤ 1000000000) :
    Calls Try.prog 38 #[.slice a n c] w fun e w' => ∃ v, e = .returned v ∧ OwnB w' w.heap.size v l ∧ Below w.heap.size w w' := by
  have hnil := fun (W : World) => Lib.run_eql_slice_nil (P := Try.prog) W 22 5 a n c 0 0 Try.underlying22
  have H := Lib.hid h
  cases a with
  | none =>
    have hl : l = [] := by
      cases l with
      | nil => rfl
      | cons x t => obtain ⟨g, off, e, _⟩ := h.2 0 x rfl; cases e
    subst hl
    have hn0 : n = 0 := h.1.symm
    subst hn0
    clear h
    go_enter Try.func38, Try.ntmps38
    go_wp2_with fail
    go_ret
    exact ⟨_, rfl, ⟨by simp [bl], .inl ⟨rfl, rfl⟩⟩, Below.refl _ _⟩
  | some ad =>
    clear h
    go_enter Try.func38, Try.ntmps38
    go_wp2_with (at_builtin; refine wpl_append_bys rfl _ _ rfl w.heap.size _ [] rfl (own_empty w) (some ad) n c l rfl (H.out.below ((Below.refl _ _).alloc (Nat.le_refl _) _)) ?c1 ?c2 ?_)
    case c1 => simp; omega
    case c2 => simp
    intro v w1 hown hg _
    have hB := ((Below.refl w.heap.size w).alloc (Nat.le_refl _) (.cells #[] 5)).grown hg (by simp) (fun k e => by simp [Value.ownBlock] at e; omega)
    have Hw := Lib.hid hown; clear hown hg
    go_wp2_with fail
    go_ret
    exact ⟨v, rfl, by simpa using Hw.out, hB⟩
/-- A word's four bytes, the lowest first. -/
def lowB (x : Wo) : List By := [BitVec.ofNat 8 x.toNat, BitVec.ofNat 8 (x.toNat / 256), BitVec.ofNat 8 (x.toNat / 65536), BitVec.ofNat 8 (x.toNat / 16777216)]
theorem run_make4 (W : World) : (Instr.makeSlice 22 (.int .i64 4) (.int .i64 4)).run Try.prog W = .ok (.slice (some ⟨W.heap.size, 0, none⟩) 4 4) (W.alloc (.cells #[.int .u8 0, .int .u8 0, .int .u8 0, .int .u8 0] 5)) := by
  obtain ⟨i0, hi, hz0, hz1, hz2⟩ := info_parts info5
  have h := run_make (P := Try.prog) W 22 5 i0 _ Try.underlying22 hi hz0 .i64 .i64 4 4 (by decide) (by decide) (by rw [hz2]; decide) (by decide)
  have e : madeCells (Value.int .u8 0).cells (Int.toNat 4 * 1) = #[.int .u8 0, .int .u8 0, .int .u8 0, .int .u8 0] := by kernel_rfl
  rw [hz1, e] at h
  exact h
theorem own_blk {W : World} {base g n : Nat} {cs : Array Value} {l : List By} (h : Blk W g 5 cs) (hb : base ≤ g) (hc : cs.toList = bl l) (hn : l.length = n) (hm : n ≤ 1000000) : OwnB W base (.slice (some ⟨g, 0, none⟩) n n) l := by
  subst hn
  have hs : cs.size = l.length := by rw [← Array.length_toList, hc, bl_len]
  exact ⟨by rw [bl_len]; omega, .inr ⟨g, l.length, cs, rfl, hb, h, Nat.le_refl _, by unfold maxLen; omega, by rw [hs]; omega, by rw [hc]; exact List.take_of_length_le (by rw [bl_len]; omega)⟩⟩
set_option maxHeartbeats 1000000 in
theorem low_c (x : Wo) (w : World) :
    Calls Try.prog 36 #[.int .u32 (x.toNat : Int)] w fun e w' => ∃ v, e = .returned v ∧ OwnB w' w.heap.size v (lowB x) ∧ Below w.heap.size w w' := by
  have hx := lt32 x
  have hmk := run_make4
  go_enter Try.func36, Try.ntmps36
  go_wp2
  have hB := (Below.refl w.heap.size w).alloc (Nat.le_refl _) (.cells #[.int .u8 0, .int .u8 0, .int .u8 0, .int .u8 0] 5)
  have hX := Blk.new w 5 #[.int .u8 0, .int .u8 0, .int .u8 0, .int .u8 0]
  generalize (w.alloc (.cells #[.int .u8 0, .int .u8 0, .int .u8 0, .int .u8 0] 5)) = w1 at hB hX ⊢
  have HB := Lib.hid hB
  have z0 := hX.frozen 0
  have z1 := hX.frozen 1
  have z2 := hX.frozen 2
  have z3 := hX.frozen 3
  have y0 := hX.cell (i := 0) rfl
  have y1 := hX.cell (i := 1) rfl
  have y2 := hX.cell (i := 2) rfl
  have y3 := hX.cell (i := 3) rfl
  have HX := Lib.hid hX
  clear hB hX hmk
  refine wp_loop_rounds 5 ?_
  rw [rounds_succ]; go_wp2
  rw [rounds_succ]; go_wp2
  rw [rounds_succ]; go_wp2
  rw [rounds_succ]; go_wp2
  rw [rounds_succ]; go_wp2
  go_ret
  refine ⟨_, rfl, own_blk ((((HX.out.set 0 (.int .u8 ((x.toNat : Int) % 256))).set 1 (.int .u8 ((x.toNat : Int) / 256 % 256))).set 2 (.int .u8 ((x.toNat : Int) / 65536 % 256))).set 3 (.int .u8 ((x.toNat : Int) / 16777216))) (Nat.le_refl _) ?_ rfl (by decide), ?_⟩
  · simp [bl, lowB]
    omega
  · exact ((((HB.out.setCell (Nat.le_refl _) _).setCell (Nat.le_refl _) _).setCell (Nat.le_refl _) _).setCell (Nat.le_refl _) _)
end Go.Proofs.Ytodjbgcmlpmknaa
