/- The reference's Suspects, Foremost. -/
import Derived.Test.YtgajbaipkhopkaaXg
namespace Go.Proofs.Ytgajbaipkhopkaa
open Go.RowKit

theorem list_get {s : St} {k : Nat} (h : k < s.c.toNat) : s.list[k]? = some (s.pl k) := by
  simp [St.list, h]
theorem list_len (s : St) : s.list.length = s.c.toNat := by simp [St.list]

set_option maxHeartbeats 800000 in
theorem rsus_c (cs : Array Value) (s : St) (w : World) (h : RC cs s) (hs : Sane s) :
    Calls Try.prog 12 #[.agg cs] w fun e w' => (∃ v, e = .returned v ∧ Ints w' w.heap.size v ((sus s.list s.list.length).map Int.ofNat)) ∧ Below w.heap.size w w' := by
  obtain ⟨i0, hi, hz0, hz1, hz2⟩ := info_parts info3
  have c1 := hs.c1
  have c2 := hs.c2
  have hI0 : IsR (w.alloc (.cells cs 35)) w.heap.size s := ⟨cs, Blk.new w 35 cs, h⟩
  have hB0 := (Below.refl w.heap.size w).alloc (Nat.le_refl _) (.cells cs 35)
  have hz : (w.alloc (.cells cs 35)).heap.size = w.heap.size + 1 := by simp
  have HN : Hid (s.list.length = s.c.toNat) := Lib.hid (list_len s)
  go_enter Try.func12, Try.ntmps12
  go_wp2_with fail
  generalize (w.alloc (.cells cs 35)) = w2 at hI0 hB0 hz ⊢
  have HI0 := Lib.hid hI0; have HB0 := Lib.hid hB0; have HZ := Lib.hid hz
  clear hI0 hB0 hz
  go_loopw [3, 4] (fun v i wr => ∃ k : Nat, k ≤ s.c.toNat ∧ i = .int .i64 k ∧ Ints wr (w.heap.size + 1) v ((sus s.list k).map Int.ofNat) ∧ IsR wr w.heap.size s ∧ Below (w.heap.size + 1) w2 wr) (fun _ i _ => s.c.toNat - (intOf i).toNat)
  case atStart => exact ⟨0, Nat.zero_le _, rfl, World.ownsRow_nil _ _ _ _, HI0.out, Below.refl _ _⟩
  case round =>
    obtain ⟨k, hk, rfl, hI, hWr, hOr⟩ := hrel
    have HI := Lib.hid hI; have HW := Lib.hid hWr; have HO := Lib.hid hOr
    have r0 := hWr.r0
    clear hI hWr hOr
    by_cases hlt : k < s.c.toNat
    · have hlt' : (k : Int) < s.c := by omega
      have j0 : (0 : Int) ≤ (k : Int) := by omega
      have j1 : (k : Int) < 9 := by omega
      have p2 := HW.out.p2 (p := k) (by omega)
      have hlk := list_get hlt
      cases hu : (s.pl k).susp
      · rw [hu] at p2
        have HS := Lib.hid (sus_no hlk hu)
        clear hlk hu
        go_wp2_with fail
        go_roundw
        case rel => exact ⟨k + 1, by omega, by go_num, by rw [HS.out]; exact HI.out, HW.out, HO.out⟩
        case measure => simp [intOf]; omega
      · rw [hu] at p2
        have HS := Lib.hid (sus_yes hlk hu)
        have hol := sus_len s.list k
        have hsz3 : w.heap.size + 1 ≤ wr.heap.size := by have := HO.out.size; have := HZ.out; omega
        have hsl : ((sus s.list k).map Int.ofNat).length ≤ k := by simpa using hol
        clear hlk hu hol
        go_wp2_with (at_builtin; refine wpList_append_own _ rfl _ _ 40 rfl (w.heap.size + 1) 3 i0 (.int .i64 0) 1 8 Try.underlying40 hi hz0 hz1 hz2 rfl (by decide) _ _ _ rfl (World.ownsRow.alloc HI.out _) ⟨wr.heap.size, 0, none⟩ 1 1 [.int .i64 k] rfl rfl ?c1 ?c2 ?c3 ?c4 ?c5 ?_)
        case c1 => exact one_new _ _ rfl _ _
        case c2 => simp [Value.oneCell']
        case c3 => unfold maxLen; omega
        case c4 => omega
        case c5 => simp; omega
        intro v5 w5 hI5 hg5 _
        have hrow : ∀ r, u3.ownBlock = some r → w.heap.size + 1 ≤ r := fun r hr => (World.ownsRow.lt HI.out r hr).1
        have HO5 := Lib.hid (((HO.out.alloc hsz3 (.cells #[.int .i64 k] 3))).grown hg5 (by simp; omega) hrow)
        have HW5 := Lib.hid (show IsR w5 w.heap.size s from by
          obtain ⟨cs', h1, h2⟩ := HW.out
          exact ⟨cs', (h1.alloc (.cells #[.int .i64 k] 3)).grown hg5 (fun e => by have := hrow _ e.symm; omega), h2⟩)
        have hI6 : Ints w5 (w.heap.size + 1) v5 ((sus s.list (k + 1)).map Int.ofNat) := by
          rw [HS.out, List.map_append]; unfold Ints
          rw [List.length_append, List.map_append, List.length_map, List.map_map]; exact hI5
        have HI6 := Lib.hid hI6
        clear hI5 hg5 hI6 hrow
        go_wp2_with fail
        go_roundw
        case rel => exact ⟨k + 1, by omega, by go_num, HI6.out, HW5.out, HO5.out⟩
        case measure => simp [intOf]; omega
    · have hge : ¬ (k : Int) < s.c := by omega
      obtain rfl : k = s.c.toNat := by omega
      go_wp2_with fail
      go_ret
      rw [HN.out]
      exact ⟨⟨u3, rfl, HI.out.low (Nat.le_succ _)⟩, HB0.out.trans (HO.out.mono (Nat.le_succ _))⟩

theorem sus_range (xs : List Wd) (k : Nat) (h : ∀ j, j < k → ∃ x, xs[j]? = some x ∧ x.susp = true) : sus xs k = List.range k := by
  unfold sus
  rw [List.filter_eq_self]
  intro j hj
  obtain ⟨x, hx, hs⟩ := h j (by simpa using hj)
  simp [hx, hs]
theorem fmo_from (k : Nat) : ∀ (l : List Nat), (∀ p ∈ l, k < p) → ∀ a, a = k → l.foldl (fun a p => if p = a then a + 1 else a) a = k := by
  intro l
  induction l with
  | nil => intro _ a ha; exact ha
  | cons p l ih =>
    intro h a ha
    rw [List.foldl_cons, if_neg (by have := h p (by simp); omega)]
    exact ih (fun q hq => h q (by simp [hq])) a ha
theorem fmo_range (k : Nat) : fmo (List.range k) = k := by
  induction k with
  | zero => rfl
  | succ k ih => rw [List.range_succ, fmo_snoc, ih, if_pos rfl]
theorem fmo_first {xs : List Wd} {k n : Nat} {x : Wd} (hk : k < n) (h : ∀ j, j < k → ∃ x, xs[j]? = some x ∧ x.susp = true) (hx : xs[k]? = some x) (hs : x.susp = false) : fmo (sus xs n) = k := by
  have e : sus xs n = sus xs k ++ ((List.range (n - (k + 1))).map (k + 1 + ·)).filter (fun i => (xs[i]?.map Wd.susp).getD false) := by
    have hr : List.range n = List.range k ++ k :: (List.range (n - (k + 1))).map (k + 1 + ·) := by
      obtain ⟨m, rfl⟩ : ∃ m, n = (k + 1) + m := ⟨n - (k + 1), by omega⟩
      rw [List.range_add, List.range_succ, Nat.add_sub_cancel_left, List.append_assoc]
      rfl
    unfold sus
    rw [hr, List.filter_append, List.filter_cons_of_neg (by simp [hx, hs])]
  rw [e, sus_range xs k h]
  unfold fmo
  rw [List.foldl_append]
  refine fmo_from k _ ?_ _ (fmo_range k)
  intro p hp
  have := (List.mem_filter.1 hp).1
  simp at this
  obtain ⟨a, _, rfl⟩ := this
  omega

set_option maxHeartbeats 800000 in
theorem rfor_c (cs : Array Value) (s : St) (w : World) (h : RC cs s) (hs : Sane s) (m : Nat) (hm : m < s.c.toNat) (hf : (s.pl m).susp = false) :
    Calls Try.prog 38 #[.agg cs] w fun e w' => e = .returned (.int .i64 (fmo (sus s.list s.list.length) : Nat)) ∧ Below w.heap.size w w' := by
  have c1 := hs.c1
  have c2 := hs.c2
  have HR := Lib.hid h
  have hI0 : IsR (w.alloc (.cells cs 35)) w.heap.size s := ⟨cs, Blk.new w 35 cs, h⟩
  have hB0 := (Below.refl w.heap.size w).alloc (Nat.le_refl _) (.cells cs 35)
  have HN : Hid (s.list.length = s.c.toNat) := Lib.hid (list_len s)
  have HF := Lib.hid hf; clear hf
  go_enter Try.func38, Try.ntmps38
  go_wp2_with fail
  generalize (w.alloc (.cells cs 35)) = w2 at hI0 hB0 ⊢
  have HI0 := Lib.hid hI0; have HB0 := Lib.hid hB0
  clear hI0 hB0
  go_loop [3] (fun i => ∃ k : Nat, k ≤ m ∧ i = .int .i64 k ∧ ∀ j, j < k → (s.pl j).susp = true) (fun i => s.c.toNat - (intOf i).toNat)
  case atStart => exact ⟨0, Nat.zero_le _, rfl, fun j hj => by omega⟩
  case round =>
    obtain ⟨k, hk, rfl, hall⟩ := hrel
    have HA := Lib.hid hall; clear hall
    have r0 := HI0.out.r0
    have hlt : k < s.c.toNat := by omega
    have hlt' : (k : Int) < s.c := by omega
    have j0 : (0 : Int) ≤ (k : Int) := by omega
    have j1 : (k : Int) < 9 := by omega
    have p2 := HI0.out.p2 (p := k) (by omega)
    cases hu : (s.pl k).susp
    · rw [hu] at p2
      have HE : Hid (fmo (sus s.list s.list.length) = k) := Lib.hid (fmo_first (by rw [HN.out]; exact hlt) (fun j hj => ⟨s.pl j, list_get (by omega), HA.out j hj⟩) (list_get hlt) hu)
      clear hu
      go_wp2_with fail
      go_ret
      rw [HE.out]
      exact ⟨rfl, HB0.out⟩
    · rw [hu] at p2
      have hkm : k ≠ m := by rintro rfl; rw [HF.out] at hu; cases hu
      have HA' : Hid (∀ j, j < k + 1 → (s.pl j).susp = true) := Lib.hid (fun j hj => by
        rcases Nat.lt_or_ge j k with h | h
        · exact HA.out j h
        · obtain rfl : j = k := by omega
          exact hu)
      clear hu
      go_wp2_with fail
      go_round
      case rel => exact ⟨k + 1, by omega, by go_num, HA'.out⟩
      case measure => simp [intOf]; omega
end Go.Proofs.Ytgajbaipkhopkaa
