/- Contracts: the state as a list. -/
import Derived.Test.YtgajbaipkhopkaaWd
namespace Go.Proofs.Ytgajbaipkhopkaa
open Go.RowKit

set_option maxHeartbeats 400000 in
theorem num_any (n : Int) (w : World) : Calls Try.prog 14 #[.int .i64 n] w fun e w' => e = .returned (.int .i64 n) ∧ w = w' := by
  go_enter Try.func14, Try.ntmps14
  go_wp2
  go_ret
  exact ⟨rfl, rfl⟩

set_option maxHeartbeats 400000 in
theorem susp_none (v : Option Addr) (n : Int) (w : World) (h : NoW w v) :
    Calls Try.prog 17 #[.pointer v, .int .i64 n] w fun e w' => e = .returned (.bool false) ∧ w = w' := by
  have H := Lib.hid h; clear h
  go_enter Try.func17, Try.ntmps17
  go_wp2_with fail
  refine (none_yes _ _ H.out).mono ?_; rintro e w' ⟨rfl, rfl⟩
  go_wp2
  go_ret
  exact ⟨rfl, rfl⟩

set_option maxHeartbeats 400000 in
theorem susp_out (b : Nat) (s : St) (n : Int) (w : World) (hW : IsW w b s) (hs : Sane s) (n0 : inB n 0 (s.c - 1) = false) :
    Calls Try.prog 17 #[.pointer (some ⟨b, 0, none⟩), .int .i64 n] w fun e w' => e = .returned (.bool false) ∧ w = w' := by
  have c1 := hs.c1
  have c2 := hs.c2
  have h1 := hW.c1
  have hc0 : (s.c == 0) = false := by rw [beq_eq_false_iff_ne]; omega
  have Hc0 := Lib.hid hc0; clear hc0
  have Hi1 := Lib.hid n0; clear n0
  go_enter Try.func17, Try.ntmps17
  go_wp2_with fail
  refine (none_no _ _ _ h1).mono ?_; rintro e w' ⟨rfl, rfl⟩
  rw [Hc0.out]
  go_wp2_with fail
  refine (inI _ _ _ _).mono ?_; rintro e w' ⟨rfl, rfl⟩
  rw [Hi1.out]
  go_wp2
  go_ret
  exact ⟨rfl, rfl⟩

set_option maxHeartbeats 400000 in
theorem susp_in (b : Nat) (s : St) (p : Nat) (w : World) (hW : IsW w b s) (hs : Sane s) (hp : p < s.c.toNat) :
    Calls Try.prog 17 #[.pointer (some ⟨b, 0, none⟩), .int .i64 p] w fun e w' => e = .returned (.bool (s.pl p).susp) ∧ w = w' := by
  have c1 := hs.c1
  have c2 := hs.c2
  have hp9 : p < 9 := by omega
  have h1 := hW.c1
  have g2 := hW.p2 hp9
  have hc0 : (s.c == 0) = false := by rw [beq_eq_false_iff_ne]; omega
  have Hc0 := Lib.hid hc0; clear hc0
  have hi1 : inB p 0 (s.c - 1) = true := by simp [inB]; omega
  have Hi1 := Lib.hid hi1; clear hi1
  go_enter Try.func17, Try.ntmps17
  go_wp2_with fail
  refine (none_no _ _ _ h1).mono ?_; rintro e w' ⟨rfl, rfl⟩
  rw [Hc0.out]
  go_wp2_with fail
  refine (inI _ _ _ _).mono ?_; rintro e w' ⟨rfl, rfl⟩
  rw [Hi1.out]
  go_wp2
  go_ret
  exact ⟨rfl, rfl⟩

/-! ### The state as a list -/
def Wd.cells (x : Wd) : List Value := [.int .i64 x.since, .int .i64 x.wait, .bool x.susp]
/-- A list of places in memory of the call's own. -/
def Wds (w : World) (base : Nat) (v : Value) (xs : List Wd) : Prop := w.ownsRow base 32 3 v xs.length (xs.flatMap Wd.cells)
def St.list (s : St) : List Wd := (List.range s.c.toNat).map s.pl

theorem flat_len (xs : List Wd) : (xs.flatMap Wd.cells).length = xs.length * 3 := by
  induction xs with
  | nil => rfl
  | cons x xs ih => simp [List.flatMap_cons, Wd.cells, ih]; omega
theorem flat_at : ∀ (xs : List Wd) (k : Nat) (x : Wd), xs[k]? = some x → (xs.flatMap Wd.cells)[k * 3]? = some (.int .i64 x.since) ∧ (xs.flatMap Wd.cells)[k * 3 + 1]? = some (.int .i64 x.wait) ∧ (xs.flatMap Wd.cells)[k * 3 + 2]? = some (.bool x.susp)
  | [], k, x, h => by simp at h
  | y :: ys, 0, x, h => by simp at h; subst h; simp [List.flatMap_cons, Wd.cells]
  | y :: ys, k + 1, x, h => by
    have := flat_at ys k x (by simpa using h)
    rw [List.flatMap_cons, show (k + 1) * 3 = k * 3 + 1 + 1 + 1 from by omega]
    simpa [Wd.cells] using this

theorem info32 : (Try.prog.info? 32).map (fun i => (i.zero, i.size, i.bytes)) = some (some (.agg #[.int .i64 0, .int .i64 0, .bool false]), 3, 24) := by kernel_rfl

theorem flat_of {cs : Array Value} {s : St} (h : WCells cs s) (n : Nat) (hn : n ≤ 9) : ∀ (j : Nat) (u : Value), (((List.range n).map s.pl).flatMap Wd.cells)[j]? = some u → cs[4 + j]? = some u := by
  intro j u hu
  have hj : j < n * 3 := by
    have := (List.getElem?_eq_some_iff.1 hu).1
    rw [flat_len] at this; simpa using this
  have hx : ((List.range n).map s.pl)[j / 3]? = some (s.pl (j / 3)) := by
    rw [List.getElem?_map, List.getElem?_range (by omega)]; rfl
  obtain ⟨a0, a1, a2⟩ := flat_at _ _ _ hx
  have hc : j = j / 3 * 3 ∨ j = j / 3 * 3 + 1 ∨ j = j / 3 * 3 + 2 := by omega
  rcases hc with e | e | e
  · rw [e] at hu; rw [a0] at hu; rw [e, ← hu, h.since _ (by omega)]
  · rw [e] at hu; rw [a1] at hu; rw [e, ← hu, ← Nat.add_assoc, h.waits _ (by omega)]
  · rw [e] at hu; rw [a2] at hu; rw [e, ← hu, ← Nat.add_assoc, h.susp _ (by omega)]

set_option maxHeartbeats 1000000 in
theorem clone_any (b : Nat) (s : St) (n cp : Nat) (w : World) (hW : IsW w b s) (hn : n ≤ 9) :
    Calls Try.prog 37 #[.slice (some ⟨b, 4, none⟩) n cp] w fun e w' => ∃ v, e = .returned v ∧ Wds w' w.heap.size v ((List.range n).map s.pl) ∧ Below w.heap.size w w' ∧ v ≠ .slice none 0 0 := by
  obtain ⟨i0, hi, hz0, hz1, hz2⟩ := info_parts info32
  have hcells : ∀ (j : Nat) (u : Value), (((List.range n).map s.pl).flatMap Wd.cells)[j]? = some u → w.cell? ((⟨b, 4, none⟩ : Addr).add j) = some u := by
    obtain ⟨cs, h1, h2⟩ := hW
    intro j u hu
    have := h1.cell (flat_of h2 n hn j u hu)
    unfold Addr.add
    split
    · rename_i h0; subst h0; exact this
    · exact this
  have Hc := Lib.hid hcells; clear hcells
  have hnil := fun (W : World) => Lib.run_eql_slice_nil (P := Try.prog) W 62 32 (some ⟨b, 4, none⟩) n cp 0 0 Try.underlying62
  go_enter Try.func37, Try.ntmps37
  go_wp2_with (at_builtin; refine wpList_append_own _ rfl _ _ 62 rfl w.heap.size 32 i0 _ 3 24 Try.underlying62 hi hz0 hz1 hz2 rfl (by decide) _ 0 [] rfl (World.ownsRow_made w #[] 0 (Nat.le_refl _) (Nat.zero_le _) rfl) ⟨b, 4, none⟩ n cp (((List.range n).map s.pl).flatMap Wd.cells) rfl ?c1 ?c2 ?c3 ?c4 ?c5 ?c6 ?_)
  case c1 => rw [flat_len]; simp
  case c2 => exact fun j u hu => cell_al (Hc.out j u hu) _
  case c3 =>
    intro u hu
    obtain ⟨x, _, hx⟩ := List.mem_flatMap.1 hu
    simp only [Wd.cells, List.mem_cons, List.not_mem_nil, or_false] at hx
    rcases hx with rfl | rfl | rfl <;> rfl
  case c4 => unfold maxLen; omega
  case c5 => omega
  case c6 => simp
  intro v w1 hown hg hnl
  have hB := ((Below.refl w.heap.size w).alloc (Nat.le_refl _) (.cells #[] 32)).grown hg (by simp) (fun k e => by simp [Value.ownBlock] at e; omega)
  have Hn : Hid (v ≠ .slice none 0 0) := Lib.hid hnl
  have hW1 : Wds w1 w.heap.size v ((List.range n).map s.pl) := by
    unfold Wds
    simpa using hown
  have HW1 := Lib.hid hW1
  clear hown hW1 hnl hg
  go_wp2
  go_ret
  exact ⟨v, rfl, HW1.out, hB, Hn.out⟩

theorem len33 : Try.prog.arrayLen 33 = 9 := by kernel_rfl
theorem places_rfl (a : Addr) (W : World) (n : Nat) : (((sizeOf (Try.prog.elem 33)).run Try.prog W).andThen fun s w => Result.ok (slicedAt a (Int.toNat 0) n 9 s) w) = .ok (.slice (some a) n 9) W := by kernel_rfl
theorem run_places (c : Int) (h0 : 0 ≤ c) (h1 : c ≤ 9) (a : Addr) (W : World) : (Instr.sliceAt 33 (.pointer (some a)) none (some (.int .i64 c)) none).run Try.prog W = .ok (.slice (some a) c.toNat 9) W := by
  have h := run_sliceAt_array_h (P := Try.prog) W 33 a (by kernel_rfl) .i64 c h0 (by rw [len33]; exact h1)
  rw [h, len33]
  generalize c.toNat = n
  exact places_rfl a W n

set_option maxHeartbeats 1000000 in
theorem state_any (b : Nat) (s : St) (w : World) (hW : IsW w b s) (hs : Sane s) :
    Calls Try.prog 21 #[.pointer (some ⟨b, 0, none⟩)] w fun e w' => ∃ v, e = .returned v ∧ Wds w' w.heap.size v s.list ∧ Below w.heap.size w w' ∧ v ≠ .slice none 0 0 := by
  have c1 := hs.c1
  have c2 := hs.c2
  have h1 := hW.c1
  have hc0 : (s.c == 0) = false := by rw [beq_eq_false_iff_ne]; omega
  have Hc0 := Lib.hid hc0; clear hc0
  have hsl := run_places s.c (by omega) (by omega) ⟨b, 4, none⟩
  go_enter Try.func21, Try.ntmps21
  go_wp2_with fail
  refine (none_no _ _ _ h1).mono ?_; rintro e w' ⟨rfl, rfl⟩
  rw [Hc0.out]
  go_wp2_with fail
  go_still_tail 8, (by kernel_rfl)
  change wpList _ _ _ _ _ w.drew
  have hWd := hW.drew
  have hB := (Below.refl w.heap.size w).drew
  have hz : w.drew.heap.size = w.heap.size := rfl
  clear h1 hW hsl
  generalize w.drew = w2 at hWd hB hz ⊢
  have Hz := Lib.hid hz; clear hz
  go_wp2_with fail
  refine (clone_any b s _ _ _ hWd (by omega)).mono ?_
  rintro e w3 ⟨v, rfl, hv, hb3, hn⟩
  rw [Hz.out] at hv hb3
  have Hv := Lib.hid hv; have Hb := Lib.hid (hB.trans hb3); have Hn := Lib.hid hn
  clear hv hb3 hB hn
  go_wp2
  go_ret
  exact ⟨v, rfl, Hv.out, Hb.out, Hn.out⟩

set_option maxHeartbeats 400000 in
theorem state_none (v : Option Addr) (w : World) (h : NoW w v) :
    Calls Try.prog 21 #[.pointer v] w fun e w' => e = .returned (.slice none 0 0) ∧ w = w' := by
  have H := Lib.hid h; clear h
  go_enter Try.func21, Try.ntmps21
  go_wp2_with fail
  refine (none_yes _ _ H.out).mono ?_; rintro e w' ⟨rfl, rfl⟩
  go_wp2
  go_ret
  exact ⟨rfl, rfl⟩
end Go.Proofs.Ytgajbaipkhopkaa
