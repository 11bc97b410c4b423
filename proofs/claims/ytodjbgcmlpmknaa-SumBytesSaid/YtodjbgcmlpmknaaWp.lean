/- The walk of SumBytes. -/
import Derived.Test.YtodjbgcmlpmknaaWo
namespace Go.Proofs.Ytodjbgcmlpmknaa
open Go.RowKit

set_option maxRecDepth 100000 in
set_option maxHeartbeats 2000000 in
theorem bytes_walk (a : Option Addr) (n c : Nat) (l : List By) (w : World) (h : Bys w a n l) :
    Calls Try.prog 3 #[.slice a n c] w fun e w' => e = .returned (.bool true) ∧ Below w.heap.size w w' := by
  have H := Lib.hid h; clear h
  by_cases hn : 1000 < n
  · go_enter Try.func3, Try.ntmps3
    go_wp2_with fail
    refine (works_c _).mono ?_
    rintro e w4 ⟨rfl, B4⟩
    go_wp2_with fail
    go_ret
    exact ⟨rfl, B4⟩
  · go_enter Try.func3, Try.ntmps3
    go_wp2_with (at_builtin; refine wpl_append_bys rfl _ _ rfl w.heap.size _ [] rfl (own_empty w) a n c l rfl (H.out.below ((Below.refl _ _).alloc (Nat.le_refl _) _)) ?c1 ?c2 ?_)
    case c1 => simp; omega
    case c2 => simp
    intro v w1 hown hg hnl
    have HB := Lib.hid (((Below.refl w.heap.size w).alloc (Nat.le_refl _) (.cells #[] 5)).grown hg (by simp) (fun k e => by simp [Value.ownBlock] at e; omega))
    have HO := Lib.hid hown
    clear hown hg hnl
    go_wp2_with (at_builtin; refine wpl_append_bys rfl _ _ rfl w.heap.size _ l rfl (HO.out.below ((Below.refl _ _).alloc (Nat.le_refl _) _)) _ 1 _ [77#8] rfl (Bys.lit _ rfl rfl) ?c1 ?c2 ?_)
    case c1 => have := H.out.1; omega
    case c2 => have := HB.out.size; simp; omega
    intro v2 w2 hown hg _
    have HB2 := Lib.hid (HB.out.trans (((Below.refl w.heap.size w1).alloc HB.out.size _).trans (own_grown (base := w.heap.size) (B := w.heap.size) (HO.out.below ((Below.refl _ _).alloc (Nat.le_refl _) _)) hg (Nat.le_refl _) (by have := HB.out.size; simp; omega))))
    clear hg HB HO
    obtain ⟨a2, c2, hv, hc2, hy⟩ := hown.bys
    have hlen : (l ++ [77#8]).length = n + 1 := by simp [H.out.1]
    rw [hlen] at hv hc2 hy
    subst hv
    obtain ⟨g, off, rfl, hg, hcells⟩ := hy.cells (by omega)
    have ht := hy.take n (by omega)
    have hl2 : (l ++ [77#8]).take n = l := by rw [← H.out.1]; simp
    rw [hl2] at ht
    have HT := Lib.hid ht
    have h77 : w2.cell? ⟨g, off + n, none⟩ = some (.int .u8 77) := hcells n 77#8 (by rw [← H.out.1]; simp)
    have H77 := Lib.hid h77
    clear hown hlen hy hcells ht hl2 h77
    have k1 : ¬ c2 < n := by omega
    have k2 : ¬ c2 < n + 1 := by omega
    have k3 : ¬ (c2 : Int) < n := by omega
    have k4 : ¬ (c2 : Int) < n + 1 := by omega
    obtain ⟨S, hS⟩ : ∃ S : Int, S = ((sumB l).toNat : Int) := ⟨_, rfl⟩
    have HS := Lib.hid hS; clear hS
    go_wp2_with fail
    refine (sum_as _ 1 _ [l] S _ (Prs.one c2 22 HT.out (by omega)) (by omega) (by rw [HS.out]; simp)).mono ?_
    rintro e w3 ⟨rfl, hb⟩
    have hb' := ((Below.refl w2.heap.size w2).alloc (Nat.le_refl _) (.cells #[.slice (some ⟨g, off, none⟩) n c2] 22)).trans (hb.mono (by simp))
    have HB3 := Lib.hid (HB2.out.trans (hb'.mono HB2.out.size))
    have s1 := run_str w3 _ n c2 l (HT.out.below hb')
    have s2 := run_str w3 a n c l (H.out.below HB3.out)
    have h77 : w3.cell? ⟨g, off + n, none⟩ = some (.int .u8 77) := (hb'.cell (p := ⟨g, off + n, none⟩) hg).trans H77.out
    clear hb hb' HB2 H77 hg
    go_wp2_with fail
    refine (rsum_c a n c l _ (H.out.below HB3.out) (by omega)).mono ?_
    rw [← HS.out]
    rintro e w' ⟨rfl, rfl⟩
    go_wp2_with fail
    refine (works_c _).mono ?_
    rintro e w4 ⟨rfl, B4⟩
    go_wp2_with fail
    go_ret
    exact ⟨rfl, HB3.out.trans (B4.mono HB3.out.size)⟩
end Go.Proofs.Ytodjbgcmlpmknaa
