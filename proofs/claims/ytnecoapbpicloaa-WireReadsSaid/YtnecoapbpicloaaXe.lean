/- Contracts: a reader's calls of no reader. -/
import Derived.Test.YtnecoapbpicloaaXd
namespace Go.Proofs.Ytnecoapbpicloaa
open Go.RowKit
set_option linter.unusedSimpArgs false
set_option linter.unusedVariables false
set_option maxRecDepth 100000

set_option maxHeartbeats 1000000 in
theorem rd_number_none (v : Option Addr) (most : Int) (w : World) (h : NoRd w v) (hm : ¬ most < 0) :
    Calls Try.prog 18 #[.pointer v, .int .i64 most] w fun e w' => e = .returned (.tuple #[.int .i64 0, .int .i64 1]) ∧ Below w.heap.size w w' := by
  have hmf : ∀ (fn : Fn) (first cap : Array Value) (w : World), (Instr.makeFunc fn first cap).run Try.prog w = .ok (.func fn first cap) w := fun _ _ _ _ => rfl
  have H := Lib.hid h
  clear h
  have hd : decide (most < 0) = false := decide_eq_false hm
  have HB4 := Lib.hid (blk4 w 35 2 2 4 #[.pointer v] #[.int .i64 most] #[.int .i64 0] #[.bool false])
  go_enter Try.func18, Try.ntmps18
  go_wp2_with fail
  generalize (World.alloc _ _) = W0 at HB4 ⊢
  obtain ⟨b1, b2, b3, b4, b5, b6⟩ := HB4.out
  refine (try_none v _ _ (H.out.below b5)).mono ?_
  rintro e w' ⟨rfl, hb⟩
  have r3 := Lib.hid (b3.below hb b3.lt)
  have HB := Lib.hid (b5.trans (hb.mono (by omega)))
  have hz := hb.size
  have c3 : w'.cell? ⟨w.heap.size + 1 + 1, 0, none⟩ = some (.int .i64 0) := r3.out.cell (i := 0) rfl
  have f3 := r3.out.frozen 0
  clear b1 b2 b3 b4 b5 hb HB4 hmf
  go_wp2_with fail
  refine bodyPost_ret (v := .tuple #[.int .i64 0, .int .i64 1]) (by simp [results, Try.results18, go_sem, c3]) rfl ?_
  exact ⟨rfl, HB.out.setCell (p := ⟨w.heap.size + 1 + 1, 0, none⟩) (by simp; omega) _⟩

set_option maxHeartbeats 1000000 in
theorem rd_text_none (v : Option Addr) (most : Int) (w : World) (h : NoRd w v) (hm : ¬ most < 0) :
    Calls Try.prog 26 #[.pointer v, .int .i64 most] w fun e w' => e = .returned (.tuple #[.string ⟨#[]⟩, .int .i64 1]) ∧ Below w.heap.size w w' := by
  have hmf : ∀ (fn : Fn) (first cap : Array Value) (w : World), (Instr.makeFunc fn first cap).run Try.prog w = .ok (.func fn first cap) w := fun _ _ _ _ => rfl
  have H := Lib.hid h
  clear h
  have hd : decide (most < 0) = false := decide_eq_false hm
  have HB4 := Lib.hid (blk4 w 35 3 9 4 #[.pointer v] #[.int .i64 most] #[.string ⟨#[]⟩] #[.bool false])
  go_enter Try.func26, Try.ntmps26
  go_wp2_with fail
  generalize (World.alloc _ _) = W0 at HB4 ⊢
  obtain ⟨b1, b2, b3, b4, b5, b6⟩ := HB4.out
  refine (try_none v _ _ (H.out.below b5)).mono ?_
  rintro e w' ⟨rfl, hb⟩
  have r3 := Lib.hid (b3.below hb b3.lt)
  have HB := Lib.hid (b5.trans (hb.mono (by omega)))
  have hz := hb.size
  have c3 : w'.cell? ⟨w.heap.size + 1 + 1, 0, none⟩ = some (.string ⟨#[]⟩) := r3.out.cell (i := 0) rfl
  have f3 := r3.out.frozen 0
  clear b1 b2 b3 b4 b5 hb HB4 hmf
  go_wp2_with fail
  refine bodyPost_ret (v := .tuple #[.string ⟨#[]⟩, .int .i64 1]) (by simp [results, Try.results26, go_sem, c3]) rfl ?_
  exact ⟨rfl, HB.out.setCell (p := ⟨w.heap.size + 1 + 1, 0, none⟩) (by simp; omega) _⟩

set_option maxHeartbeats 1000000 in
theorem rd_truth_none (v : Option Addr) (w : World) (h : NoRd w v) :
    Calls Try.prog 27 #[.pointer v] w fun e w' => e = .returned (.tuple #[.bool false, .int .i64 1]) ∧ Below w.heap.size w w' := by
  have hmf : ∀ (fn : Fn) (first cap : Array Value) (w : World), (Instr.makeFunc fn first cap).run Try.prog w = .ok (.func fn first cap) w := fun _ _ _ _ => rfl
  have H := Lib.hid h
  clear h
  have HB2 := Lib.hid (blk2 w 35 4 #[.pointer v] #[.bool false])
  go_enter Try.func27, Try.ntmps27
  go_wp2_with fail
  generalize (World.alloc _ _) = W0 at HB2 ⊢
  obtain ⟨b1, b3, b5, b6⟩ := HB2.out
  refine (try_none v _ _ (H.out.below b5)).mono ?_
  rintro e w' ⟨rfl, hb⟩
  have R3 := Lib.hid (b3.below hb b3.lt)
  have HB := Lib.hid (b5.trans (hb.mono (by omega)))
  have c3 : w'.cell? ⟨w.heap.size + 1, 0, none⟩ = some (.bool false) := R3.out.cell (i := 0) rfl
  have f3 := R3.out.frozen 0
  clear b1 b3 b5 hb HB2 hmf
  go_wp2_with fail
  refine bodyPost_ret (v := .tuple #[.bool false, .int .i64 1]) (by simp [results, Try.results27, go_sem, c3]) rfl ?_
  exact ⟨rfl, HB.out.setCell (p := ⟨w.heap.size + 1, 0, none⟩) (by simp) _⟩
set_option maxHeartbeats 1000000 in
theorem rd_end_none (v : Option Addr) (w : World) (h : NoRd w v) :
    Calls Try.prog 28 #[.pointer v] w fun e w' => e = .returned (.int .i64 1) ∧ Below w.heap.size w w' := by
  have hmf : ∀ (fn : Fn) (first cap : Array Value) (w : World), (Instr.makeFunc fn first cap).run Try.prog w = .ok (.func fn first cap) w := fun _ _ _ _ => rfl
  have H := Lib.hid h
  clear h
  have hb1 := (Below.refl w.heap.size w).alloc (Nat.le_refl _) (.cells #[.pointer v] 35)
  have hz1 : (w.alloc (.cells #[.pointer v] 35)).heap.size = w.heap.size + 1 := by simp
  have HB1 := Lib.hid (And.intro hb1 hz1)
  clear hb1 hz1
  go_enter Try.func28, Try.ntmps28
  go_wp2_with fail
  generalize (World.alloc _ _) = W0 at HB1 ⊢
  obtain ⟨b5, b6⟩ := HB1.out
  refine (try_none v _ _ (H.out.below b5)).mono ?_
  rintro e w' ⟨rfl, hb⟩
  have HB := Lib.hid (b5.trans (hb.mono (by omega)))
  clear b5 hb HB1 hmf
  go_wp2_with fail
  go_ret
  exact ⟨rfl, HB.out⟩
def NoRd2 (w : World) (v : Option Addr) : Prop := v = none ∨ ∃ g, v = some ⟨g, 0, none⟩ ∧ w.cell? ⟨g, 0, none⟩ = some (.slice none 0 0) ∧ w.cell? ⟨g, 2, none⟩ = some (.bool false)
theorem NoRd2.no {w : World} {v : Option Addr} (h : NoRd2 w v) : NoRd w v := by
  rcases h with h | ⟨g, h1, _, h2⟩
  · exact .inl h
  · exact .inr ⟨g, h1, h2⟩
theorem NoRd2.below {w w' : World} {v : Option Addr} (h : NoRd2 w v) (hb : Below w.heap.size w w') : NoRd2 w' v := by
  rcases h with h | ⟨b, rfl, h0, h⟩
  · exact .inl h
  · exact .inr ⟨b, rfl, (hb.cell (p := ⟨b, 0, none⟩) (cell_lt h0)).trans h0, (hb.cell (p := ⟨b, 2, none⟩) (cell_lt h)).trans h⟩
theorem left_none (v : Option Addr) (w : World) (h : NoRd2 w v) :
    Calls Try.prog 20 #[.pointer v] w fun e w' => e = .returned (.int .i64 0) ∧ w = w' := by
  rcases h with rfl | ⟨g, rfl, c0, _⟩
  · go_enter Try.func20, Try.ntmps20
    go_wp2_with fail
    go_ret
    exact ⟨rfl, rfl⟩
  · go_enter Try.func20, Try.ntmps20
    go_wp2_with fail
    go_ret
    exact ⟨rfl, rfl⟩
end Go.Proofs.Ytnecoapbpicloaa
