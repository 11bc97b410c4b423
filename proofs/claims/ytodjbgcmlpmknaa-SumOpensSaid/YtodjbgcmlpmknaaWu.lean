/- The walk of SumOpens. -/
import Derived.Test.YtodjbgcmlpmknaaWt
namespace Go.Proofs.Ytodjbgcmlpmknaa
open Go.RowKit

set_option maxRecDepth 100000 in
set_option maxHeartbeats 2000000 in
theorem opens_walk (a : Option Addr) (n c : Nat) (l : List By) (w : World) (h : Bys w a n l) (hc : n ≤ c) :
    Calls Try.prog 8 #[.slice a n c] w fun e w' => e = .returned (.bool true) ∧ Below w.heap.size w w' := by
  have H := Lib.hid h; clear h
  rcases Nat.lt_or_ge 1000 n with hn | hn
  · go_enter Try.func8, Try.ntmps8
    go_wp2_with fail
    refine (works_c _).mono ?_
    rintro e w4 ⟨rfl, B4⟩
    go_wp2_with fail
    go_ret
    exact ⟨rfl, B4⟩
  · go_enter Try.func8, Try.ntmps8
    go_wp2_with (at_builtin; refine wpl_append_bys rfl _ _ rfl w.heap.size _ [] rfl (own_empty w) a n c l rfl (H.out.below ((Below.refl _ _).alloc (Nat.le_refl _) _)) ?c1 ?c2 ?_)
    case c1 => simp; omega
    case c2 => simp
    intro v w1 hown hg hnl
    have HB := Lib.hid (((Below.refl w.heap.size w).alloc (Nat.le_refl _) (.cells #[] 5)).grown hg (by simp) (fun k e => by simp [Value.ownBlock] at e; omega))
    have hnn : v ≠ .slice none 0 0 := by simpa using hnl
    have ho1 : OwnB w1 w.heap.size v l := by simpa using hown
    obtain ⟨g, c7, hv, hc7⟩ := ho1.here hnn
    rw [H.out.1] at hv hc7
    subst hv
    have HO := Lib.hid ho1
    have HG := Lib.hid ho1.base
    clear hown hg hnl hnn ho1
    obtain ⟨a', c', he, _, hy⟩ := HO.out.bys
    rw [H.out.1] at he hy
    injection he with e1 e2 e3
    subst e1
    have HY := Lib.hid hy; clear hy e2 e3
    go_wp2_with fail
    refine (open_any _ n c7 l _ HY.out (by omega) hc7).mono ?_
    rintro e w2 ⟨hb, a5, c5, rfl, ho⟩
    have HB2 := Lib.hid (HB.out.trans (hb.mono HB.out.size))
    have HO5 := Lib.hid ho
    have HO2 := Lib.hid (HO.out.below hb)
    clear hb ho HY
    go_wp2_with fail
    go_loopw [6] (fun i wr => ∃ (k : Nat) (l' : List By), k ≤ n ∧ i = .int .i64 k ∧ l'.length = n ∧ OwnB wr w.heap.size (.slice (some ⟨g, 0, none⟩) n c7) l' ∧ Only g w2 wr) (fun i _ => n - (intOf i).toNat)
    case atStart => exact ⟨0, l, Nat.zero_le _, rfl, H.out.1, HO2.out, Only.refl _ _⟩
    case round =>
      obtain ⟨k, l', hk, rfl, hl', hO, hOn⟩ := hrel
      have HO := Lib.hid hO; clear hO
      have HOn := Lib.hid hOn; clear hOn
      have HL' := Lib.hid hl'; clear hl'
      by_cases hlt : k < n
      · obtain ⟨x, hx⟩ : ∃ x, l'[k]? = some x := ⟨l'[k]'(by rw [HL'.out]; exact hlt), List.getElem?_eq_getElem _⟩
        obtain ⟨hc1, hf1⟩ := HO.out.at_ hx
        have hlt' : (k : Int) < (n : Int) := by omega
        clear hx
        go_wp2_with fail
        have hy : ((x.toNat : Int) + 1) % 256 = ((x + 1#8).toNat : Int) := by rw [BitVec.toNat_add]; simp
        rw [hy]
        go_roundw
        case rel => exact ⟨k + 1, _, by omega, by go_num, by rw [List.length_set]; exact HL'.out, HO.out.put k (x + 1#8), HOn.out.setCell (p := ⟨g, k, none⟩) (.inl rfl) _⟩
        case measure => simp [intOf]; omega
      · obtain rfl : k = n := by omega
        have HBr := Lib.hid (HB2.out.trans (HOn.out.below HB2.out.size HG.out.1))
        have HO5r := Lib.hid (HO5.out.only HOn.out HG.out.2)
        go_wp2_with fail
        refine (ropen_any a k c l _ (H.out.below HBr.out) (by omega) hc).mono ?_
        rintro e w3 ⟨hb, a6, c6, rfl, ho⟩
        have HB3 := Lib.hid (HBr.out.trans (hb.mono HBr.out.size))
        obtain ⟨_, d5, e5, _, y5⟩ := (HO5r.out.below hb).bys
        injection e5 with e5 _ _
        subst e5
        obtain ⟨_, d6, e6, _, y6⟩ := ho.bys
        injection e6 with e6 _ _
        subst e6
        have q5 := run_str w3 _ _ d5 _ y5
        have q6 := run_str w3 _ _ d6 _ y6
        clear hb ho y5 y6
        go_wp2_with fail
        refine (num_c _ _).mono ?_
        rintro e w' ⟨rfl, rfl⟩
        go_wp2_with fail
        refine (works_c _).mono ?_
        rintro e w4 ⟨rfl, hb⟩
        have HB4 := Lib.hid (HB3.out.trans (hb.mono HB3.out.size))
        clear hb
        go_wp2_with fail
        go_ret
        exact ⟨rfl, HB4.out⟩
end Go.Proofs.Ytodjbgcmlpmknaa
