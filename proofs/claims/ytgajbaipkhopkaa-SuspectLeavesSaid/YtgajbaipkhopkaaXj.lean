/- Copy, Same: of none. -/
import Derived.Test.YtgajbaipkhopkaaXi
namespace Go.Proofs.Ytgajbaipkhopkaa
open Go.RowKit

set_option maxHeartbeats 400000 in
theorem copy_none (v : Option Addr) (w : World) (h : NoW w v) : Calls Try.prog 22 #[.pointer v] w fun e w' => e = .returned (.pointer none) ∧ w = w' := by
  have H := Lib.hid h; clear h
  go_enter Try.func22, Try.ntmps22
  go_wp2_with fail
  refine (none_yes v _ H.out).mono ?_; rintro e w' ⟨rfl, rfl⟩
  go_wp2_with fail
  go_ret
  exact ⟨rfl, rfl⟩
set_option maxHeartbeats 400000 in
theorem now_none (v : Option Addr) (w : World) (h : NoW w v) : Calls Try.prog 20 #[.pointer v] w fun e w' => e = .returned (.int .i64 0) ∧ w = w' := by
  have H := Lib.hid h; clear h
  go_enter Try.func20, Try.ntmps20
  go_wp2_with fail
  refine (none_yes v _ H.out).mono ?_; rintro e w' ⟨rfl, rfl⟩
  go_wp2_with fail
  go_ret
  exact ⟨rfl, rfl⟩
set_option maxHeartbeats 400000 in
theorem same_nones (v u : Option Addr) (w : World) (h : NoW w v) (h2 : NoW w u) : Calls Try.prog 23 #[.pointer v, .pointer u] w fun e w' => e = .returned (.bool true) ∧ w = w' := by
  have H := Lib.hid h; clear h
  have H2 := Lib.hid h2; clear h2
  go_enter Try.func23, Try.ntmps23
  go_wp2_with fail
  refine (none_yes v _ H.out).mono ?_; rintro e w' ⟨rfl, rfl⟩
  go_wp2_with fail
  refine (none_yes v _ H.out).mono ?_; rintro e w' ⟨rfl, rfl⟩
  go_wp2_with fail
  refine (none_yes u _ H2.out).mono ?_; rintro e w' ⟨rfl, rfl⟩
  go_wp2_with fail
  go_ret
  exact ⟨rfl, rfl⟩
set_option maxHeartbeats 400000 in
theorem same_left (b : Nat) (s : St) (u : Option Addr) (w : World) (h : NoW w u) (hW : IsW w b s) (hs : Sane s) : Calls Try.prog 23 #[.pointer u, .pointer (some ⟨b, 0, none⟩)] w fun e w' => e = .returned (.bool false) ∧ w = w' := by
  have H := Lib.hid h; clear h
  have h1 := hW.c1
  have c1 := hs.c1
  have Hc0 : Hid ((s.c == 0) = false) := Lib.hid (by rw [beq_eq_false_iff_ne]; omega)
  go_enter Try.func23, Try.ntmps23
  go_wp2_with fail
  refine (none_yes u _ H.out).mono ?_; rintro e w' ⟨rfl, rfl⟩
  go_wp2_with fail
  refine (none_yes u _ H.out).mono ?_; rintro e w' ⟨rfl, rfl⟩
  go_wp2_with fail
  refine (none_no _ _ _ h1).mono ?_; rintro e w' ⟨rfl, rfl⟩
  rw [Hc0.out]
  go_wp2_with fail
  go_ret
  exact ⟨rfl, rfl⟩
set_option maxHeartbeats 400000 in
theorem same_right (b : Nat) (s : St) (u : Option Addr) (w : World) (h : NoW w u) (hW : IsW w b s) (hs : Sane s) : Calls Try.prog 23 #[.pointer (some ⟨b, 0, none⟩), .pointer u] w fun e w' => e = .returned (.bool false) ∧ w = w' := by
  have H := Lib.hid h; clear h
  have h1 := hW.c1
  have c1 := hs.c1
  have Hc0 : Hid ((s.c == 0) = false) := Lib.hid (by rw [beq_eq_false_iff_ne]; omega)
  go_enter Try.func23, Try.ntmps23
  go_wp2_with fail
  refine (none_no _ _ _ h1).mono ?_; rintro e w' ⟨rfl, rfl⟩
  rw [Hc0.out]
  go_wp2_with fail
  refine (none_yes u _ H.out).mono ?_; rintro e w' ⟨rfl, rfl⟩
  go_wp2_with fail
  refine (none_no _ _ _ h1).mono ?_; rintro e w' ⟨rfl, rfl⟩
  rw [Hc0.out]
  go_wp2_with fail
  go_ret
  exact ⟨rfl, rfl⟩
/-- What the keeper's place is: never suspected. -/
structure Good (s : St) : Prop where
  fair : Fair s
  self0 : 0 ≤ s.self
  self1 : s.self < s.c
  free : (s.pl s.self.toNat).susp = false
theorem good_new {c self wait : Int} (h : newOk c self wait = true) : Good (St.new c self wait c.toNat) := by
  obtain ⟨h1, h2, h3, h4⟩ := newOk_self h
  exact ⟨fair_new h _, h3, h4, rfl⟩
theorem good_tick {s : St} (h : Good s) (n : Int) : Good (tickS s n) := by
  refine ⟨fair_tickS h.fair n, ?_, ?_, ?_⟩
  all_goals
    rcases tick_cases s n with ⟨_, _, e2, _⟩ | ⟨_, _, _, e2, _⟩ | ⟨h1, _, h3, _, e2, _⟩
    all_goals rw [e2]
  any_goals exact h.self0
  any_goals exact h.self1
  any_goals exact h.free
  rw [tick_same]
  · exact h.free
  · exact late_self (by have := h.self0; show ((s.self.toNat : Nat) : Int) = s.self; omega)
theorem good_hear {s : St} (h : Good s) (p : Int) : Good (hearS s p) := by
  refine ⟨fair_hearS h.fair p, ?_, ?_, ?_⟩
  · unfold hearS; split <;> exact h.self0
  · unfold hearS; split <;> exact h.self1
  · unfold hearS; split
    · show ((s.heard p.toNat).pl s.self.toNat).susp = false
      by_cases e : s.self.toNat = p.toNat
      · simp [St.heard, St.put, e]
      · rw [heard_same e]; exact h.free
    · exact h.free
theorem good_act {s : St} (h : Good s) (x : Ac) : Good (actS s x) := by
  unfold actS; split
  · exact good_hear h _
  · exact good_tick h _
theorem is_good (b : Nat) (s : St) (cs : Array Value) (w : World) (hW : IsW w b s) (hs : Good s) (h : RC cs s) :
    Calls Try.prog 24 #[.pointer (some ⟨b, 0, none⟩), .agg cs] w fun e w' => e = .returned (.bool true) ∧ Below w.heap.size w w' :=
  is_c b s cs w hW hs.fair h s.self.toNat (by have := hs.self0; have := hs.self1; omega) hs.free
end Go.Proofs.Ytgajbaipkhopkaa
