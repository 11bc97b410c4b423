/- Contracts: two lists are held against each other. -/
import Derived.Test.YtgajbaipkhopkaaWh
namespace Go.Proofs.Ytgajbaipkhopkaa
open Go.RowKit

/-- A slice value reads as these ints. -/
def RI (w : World) (v : Value) (xs : List Int) : Prop :=
  ∃ a c, v = .slice a xs.length c ∧ (0 < xs.length → ∃ g, a = some ⟨g, 0, none⟩ ∧ ∀ k x, xs[k]? = some x → w.cell? ⟨g, k, none⟩ = some (.int .i64 x))
theorem Ints.ri {w : World} {base : Nat} {v : Value} {xs : List Int} (h : Ints w base v xs) : RI w v xs := by
  have hh := h
  obtain ⟨h1, h2⟩ := h
  rcases h2 with ⟨rfl, h2⟩ | ⟨g, cap, cur, rfl, hg, hb, r⟩
  · exact ⟨none, 0, by rw [h2], fun h => by omega⟩
  · refine ⟨_, _, rfl, fun _ => ⟨g, rfl, fun k x hx => ?_⟩⟩
    have := World.ownsRow.cells hh (g := g) rfl k (.int .i64 x) (by rw [List.getElem?_map, hx]; rfl)
    unfold Addr.add at this
    split at this
    · rename_i e; rw [e]; exact this
    · simpa using this
theorem RI.kept {w w' : World} {v : Value} {xs : List Int} (h : RI w v xs) (hb : Below w.heap.size w w') : RI w' v xs := by
  obtain ⟨a, c, rfl, h⟩ := h
  refine ⟨a, c, rfl, fun h0 => ?_⟩
  obtain ⟨g, rfl, hc⟩ := h h0
  exact ⟨g, rfl, fun k x hx => (hb.cell (p := ⟨g, k, none⟩) (cell_lt (hc k x hx))).trans (hc k x hx)⟩
theorem RI.lit {w : World} {g c : Nat} {t : TypeId} {xs : List Int} (h : w.heap[g]? = some (.cells (xs.map (Value.int .i64)).toArray t (0, 0))) : RI w (.slice (some ⟨g, 0, none⟩) xs.length c) xs :=
  ⟨_, _, rfl, fun _ => ⟨g, rfl, fun k x hx => by simp [World.cell?, h, hx]⟩⟩

set_option maxHeartbeats 1000000 in
theorem ints_any (v1 v2 : Value) (xs ys : List Int) (w : World) (h1 : RI w v1 xs) (h2 : RI w v2 ys) (hm : xs.length ≤ 1000000) :
    Calls Try.prog 25 #[v1, v2] w fun e w' => e = .returned (.bool (decide (xs = ys))) ∧ ∃ m, w' = w.drewN m := by
  obtain ⟨a1, c1, rfl, h1⟩ := h1
  obtain ⟨a2, c2, rfl, h2⟩ := h2
  by_cases hl : xs.length = ys.length
  · have hq : ((xs.length : Int) != (ys.length : Int)) = false := by simp [hl]
    have Hl := Lib.hid hl
    have H1 := Lib.hid h1; clear h1
    have H2 := Lib.hid h2; clear h2
    clear hl
    go_enter Try.func25, Try.ntmps25
    go_wp2
    go_loopw [5] (fun i wr => ∃ k : Nat, k ≤ xs.length ∧ i = .int .i64 k ∧ (∀ j, j < k → xs[j]? = ys[j]?) ∧ ∃ m, wr = w.drewN m) (fun i _ => xs.length - (intOf i).toNat)
    case atStart => exact ⟨0, Nat.zero_le _, rfl, fun j hj => by omega, 0, rfl⟩
    case round =>
      obtain ⟨k, hk, rfl, hs, m, rfl⟩ := hrel
      have HS := Lib.hid hs; clear hs
      by_cases hlt : k < xs.length
      · obtain ⟨g1, rfl, hc1⟩ := H1.out (by omega)
        obtain ⟨g2, rfl, hc2⟩ := H2.out (by have := Hl.out; omega)
        have hx : xs[k]? = some xs[k] := List.getElem?_eq_getElem hlt
        have hlt2 : k < ys.length := by have := Hl.out; omega
        have hy : ys[k]? = some ys[k] := List.getElem?_eq_getElem hlt2
        have d1 := hc1 k _ hx
        have d2 := hc2 k _ hy
        have Hx := Lib.hid hx; clear hx
        have Hy := Lib.hid hy; clear hy
        clear hc1 hc2
        obtain ⟨x, hxx⟩ : ∃ x, x = xs[k] := ⟨_, rfl⟩
        obtain ⟨y, hyy⟩ : ∃ y, y = ys[k] := ⟨_, rfl⟩
        rw [← hxx] at d1 Hx
        rw [← hyy] at d2 Hy
        clear hxx hyy
        by_cases hxy : x = y
        · have q1 : (x != y) = false := by simp [hxy]
          have Hxy := Lib.hid hxy; clear hxy
          go_wp2
          go_quiet (fail)
          go_wp2
          go_roundw
          case rel =>
            refine ⟨k + 1, by omega, by go_num, fun j hj => ?_, ⟨_, rfl⟩⟩
            by_cases e : j = k
            · rw [e, Hx.out, Hy.out, Hxy.out]
            · exact HS.out j (by omega)
          case measure => simp [intOf]; omega
        · have q1 : (x != y) = true := by simp [hxy]
          have Hxy := Lib.hid hxy; clear hxy
          go_wp2
          go_quiet (fail)
          go_wp2
          go_ret
          refine ⟨?_, _, World.drewN_drewN _ _ _⟩
          have : ¬ xs = ys := fun e => by have h1 := Hx.out; have h2 := Hy.out; rw [e, h2] at h1; exact Hxy.out (by injection h1 with h; exact h.symm)
          simp [this]
      · obtain rfl : k = xs.length := by omega
        go_wp2
        go_ret
        refine ⟨?_, _, rfl⟩
        have : xs = ys := by
          apply List.ext_getElem?
          intro j
          by_cases hj : j < xs.length
          · exact HS.out j hj
          · rw [List.getElem?_eq_none (by omega), List.getElem?_eq_none (by have := Hl.out; omega)]
        simp [this]
  · have hq : ((xs.length : Int) != (ys.length : Int)) = true := by simp; omega
    have hne : ¬ xs = ys := fun e => hl (by rw [e])
    have Hne := Lib.hid hne; clear hne hl h1 h2
    go_enter Try.func25, Try.ntmps25
    go_wp2
    go_ret
    exact ⟨by simp [Hne.out], 0, rfl⟩
end Go.Proofs.Ytgajbaipkhopkaa
