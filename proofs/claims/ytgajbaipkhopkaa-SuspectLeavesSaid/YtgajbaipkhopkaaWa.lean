/- Contracts of the small functions. -/
import Derived.Test.YtgajbaipkhopkaaBase
namespace Go.Proofs.Ytgajbaipkhopkaa
open Go.RowKit
def and3 (a b c : Bool) : Bool := a && b && c
def and2 (a b : Bool) : Bool := a && b
def inB (n a b : Int) : Bool := decide (a ≤ n) && decide (n ≤ b)
def inH (n a b : Int) : Bool := decide (a ≤ n) && decide (n < b)

set_option maxHeartbeats 400000 in
theorem all3 (a b c : Bool) (g : Nat) (w : World) (h0 : w.cell? ⟨g, 0, none⟩ = some (.bool a)) (h1 : w.cell? ⟨g, 1, none⟩ = some (.bool b)) (h2 : w.cell? ⟨g, 2, none⟩ = some (.bool c)) :
    Calls Try.prog 26 #[.slice (some ⟨g, 0, none⟩) 3 3] w fun e w' => e = .returned (.bool (and3 a b c)) ∧ w = w' := by
  cases a <;> cases b <;> cases c
  all_goals
    go_enter Try.func26, Try.ntmps26
    go_wp2
    refine wp_loop_rounds 4 ?_
    rw [rounds_succ]; go_wp2
    try (rw [rounds_succ]; go_wp2)
    try (rw [rounds_succ]; go_wp2)
    try (rw [rounds_succ]; go_wp2)
    go_ret
    exact ⟨rfl, rfl⟩

set_option maxHeartbeats 400000 in
theorem sall2 (a b : Bool) (g : Nat) (w : World) (h0 : w.cell? ⟨g, 0, none⟩ = some (.bool a)) (h1 : w.cell? ⟨g, 1, none⟩ = some (.bool b)) :
    Calls Try.prog 43 #[.slice (some ⟨g, 0, none⟩) 2 2] w fun e w' => e = .returned (.bool (and2 a b)) ∧ w = w' := by
  cases a <;> cases b
  all_goals
    go_enter Try.func43, Try.ntmps43
    go_wp2
    refine wp_loop_rounds 3 ?_
    rw [rounds_succ]; go_wp2
    try (rw [rounds_succ]; go_wp2)
    try (rw [rounds_succ]; go_wp2)
    go_ret
    exact ⟨rfl, rfl⟩

set_option maxHeartbeats 400000 in
theorem in64 (n a b : Int) (w : World) :
    Calls Try.prog 29 #[.int .i64 n, .int .i64 a, .int .i64 b] w fun e w' => e = .returned (.bool (inB n a b)) ∧ w = w' := by
  unfold inB
  by_cases h1 : a ≤ n <;> by_cases h2 : n ≤ b
  all_goals
    go_enter Try.func29, Try.ntmps29
    go_wp2
    go_ret
    simp [h1, h2]

set_option maxHeartbeats 400000 in
theorem inI (n a b : Int) (w : World) :
    Calls Try.prog 28 #[.int .i64 n, .int .i64 a, .int .i64 b] w fun e w' => e = .returned (.bool (inB n a b)) ∧ w = w' := by
  unfold inB
  by_cases h1 : a ≤ n <;> by_cases h2 : n ≤ b
  all_goals
    go_enter Try.func28, Try.ntmps28
    go_wp2
    go_ret
    simp [h1, h2]

set_option maxHeartbeats 400000 in
theorem inC (n a b : Int) (w : World) :
    Calls Try.prog 44 #[.int .i64 n, .int .i64 a, .int .i64 b] w fun e w' => e = .returned (.bool (inH n a b)) ∧ w = w' := by
  unfold inH
  by_cases h1 : a ≤ n <;> by_cases h2 : n < b
  all_goals
    go_enter Try.func44, Try.ntmps44
    go_wp2
    go_ret
    simp [h1, h2]

def rightB (c : Int) : Bool := and2 (inH c 3 10) (c.tmod 2 == 1)

set_option maxHeartbeats 400000 in
theorem right_any (c : Int) (w : World) :
    Calls Try.prog 40 #[.int .i64 c] w fun e w' => e = .returned (.bool (rightB c)) ∧ Below w.heap.size w w' := by
  go_enter Try.func40, Try.ntmps40
  go_wp2_with fail
  refine (inC _ _ _ _).mono ?_; rintro e w' ⟨rfl, rfl⟩
  go_wp2_with fail
  refine (sall2 _ _ _ _ (blk0 rfl) (blk0 rfl)).mono ?_; rintro e w' ⟨rfl, rfl⟩
  go_wp2
  go_ret
  exact ⟨rfl, (Below.refl _ _).alloc (Nat.le_refl _) _⟩

set_option maxHeartbeats 400000 in
theorem check_any (c : Int) (w : World) :
    Calls Try.prog 27 #[.int .i64 c] w fun e w' => e = .returned (.int .i64 (if rightB c then 0 else 2)) ∧ Below w.heap.size w w' := by
  cases h : rightB c
  all_goals
    have H := Lib.hid h; clear h
    go_enter Try.func27, Try.ntmps27
    go_wp2_with fail
    refine (right_any _ _).mono ?_; rintro e w' ⟨rfl, hb⟩
    rw [H.out]
    go_wp2
    go_ret
    exact ⟨rfl, hb⟩

set_option maxHeartbeats 400000 in
theorem none_no (b : Nat) (c : Int) (w : World) (h1 : w.cell? ⟨b, 1, none⟩ = some (.int .i64 c)) :
    Calls Try.prog 35 #[.pointer (some ⟨b, 0, none⟩)] w fun e w' => e = .returned (.bool (c == 0)) ∧ w = w' := by
  go_enter Try.func35, Try.ntmps35
  go_wp2
  go_ret
  exact ⟨rfl, rfl⟩

set_option maxHeartbeats 400000 in
theorem none_nil (w : World) :
    Calls Try.prog 35 #[.pointer none] w fun e w' => e = .returned (.bool true) ∧ w = w' := by
  go_enter Try.func35, Try.ntmps35
  go_wp2
  go_ret
  exact ⟨rfl, rfl⟩

/-- What 'late' tells of a place. -/
def lateB (s : St) (p : Nat) : Bool := and3 ((p : Int) != s.self) (!(s.pl p).susp) (decide ((s.pl p).wait ≤ s.now - (s.pl p).since))

set_option maxHeartbeats 400000 in
theorem late_cells (b bx : Nat) (p : Nat) (w : World) (hp : p < 9) (now self since wt : Int) (u : Bool)
   (h0 : w.cell? ⟨bx, 0, none⟩ = some (.pointer (some ⟨b, 0, none⟩)))
   (h1 : w.cell? ⟨b, 0, none⟩ = some (.int .i64 now)) 
   (h2 : w.cell? ⟨b, 2, none⟩ = some (.int .i64 self)) 
   (h3 : w.cell? ⟨b, 4 + p * 3, none⟩ = some (.int .i64 since)) 
   (h4 : w.cell? ⟨b, 4 + p * 3 + 1, none⟩ = some (.int .i64 wt)) 
   (h5 : w.cell? ⟨b, 4 + p * 3 + 2, none⟩ = some (.bool u)) 
   (hs : 0 ≤ since) (hn : since ≤ now) (hn2 : now ≤ 5000000000000000000) :
    Calls Try.prog 41 #[.int .i64 p, .pointer (some ⟨bx, 0, none⟩)] w fun e w' => e = .returned (.bool (and3 ((p : Int) != self) (!u) (decide (wt ≤ now - since)))) ∧ Below w.heap.size w w' := by
  have Hwr := Lib.hid (IntWalk.i64_in (now - since) (by omega))
  go_enter Try.func41, Try.ntmps41
  go_wp2_with fail
  have k0 := cell_al h0 (.cells #[.int .i64 since, .int .i64 wt, .bool u] 32)
  have k1 := cell_al h1 (.cells #[.int .i64 since, .int .i64 wt, .bool u] 32)
  have k2 := cell_al h2 (.cells #[.int .i64 since, .int .i64 wt, .bool u] 32)
  have k3 : (w.alloc (.cells #[.int .i64 since, .int .i64 wt, .bool u] 32)).cell? ⟨w.heap.size, 0, none⟩ = some (.int .i64 since) := blk0 rfl
  have k4 : (w.alloc (.cells #[.int .i64 since, .int .i64 wt, .bool u] 32)).cell? ⟨w.heap.size, 1, none⟩ = some (.int .i64 wt) := blk0 rfl
  have k5 : (w.alloc (.cells #[.int .i64 since, .int .i64 wt, .bool u] 32)).cell? ⟨w.heap.size, 2, none⟩ = some (.bool u) := blk0 rfl
  have hB : Below w.heap.size w (w.alloc (.cells #[.int .i64 since, .int .i64 wt, .bool u] 32)) := (Below.refl _ _).alloc (Nat.le_refl _) _
  generalize w.alloc (.cells #[.int .i64 since, .int .i64 wt, .bool u] 32) = w1 at k0 k1 k2 k3 k4 k5 hB ⊢
  clear h0 h1 h2 h3 h4 h5
  go_still_tail 20, (by kernel_rfl)
  change wpList _ _ _ _ _ w1.drew
  have hB2 : Below w.heap.size w w1.drew := hB.drew
  clear k0 k1 k2 k3 k4 k5 hB
  generalize w1.drew = w2 at hB2 ⊢
  rw [Hwr.out]
  go_wp2_with fail
  refine (all3 _ _ _ _ _ (blk0 rfl) (blk0 rfl) (blk0 rfl)).mono ?_; rintro e w' ⟨rfl, rfl⟩
  go_wp2
  go_ret
  exact ⟨rfl, hB2.alloc hB2.size _⟩

theorem late_any (b bx : Nat) (p : Nat) (s : St) (w : World) (hp : p < 9) 
   (h0 : w.cell? ⟨bx, 0, none⟩ = some (.pointer (some ⟨b, 0, none⟩))) (hW : IsW w b s)
   (hs : 0 ≤ (s.pl p).since) (hn : (s.pl p).since ≤ s.now) (hn2 : s.now ≤ 5000000000000000000) :
    Calls Try.prog 41 #[.int .i64 p, .pointer (some ⟨bx, 0, none⟩)] w fun e w' => e = .returned (.bool (lateB s p)) ∧ Below w.heap.size w w' :=
  late_cells b bx p w hp _ _ _ _ _ h0 hW.c0 hW.c2 (hW.p0 hp) (hW.p1 hp) (hW.p2 hp) hs hn hn2

set_option maxHeartbeats 400000 in
theorem late_mk (b : Nat) (w : World) :
    Calls Try.prog 36 #[.pointer (some ⟨b, 0, none⟩)] w fun e w' => e = .returned (.func (.func 41) #[] #[.pointer (some ⟨w.heap.size, 0, none⟩)]) ∧ w' = w.alloc (.cells #[.pointer (some ⟨b, 0, none⟩)] 26) := by
  have hmf : ∀ (fn : Fn) (first cap : Array Value) (w : World), (Instr.makeFunc fn first cap).run Try.prog w = .ok (.func fn first cap) w := fun _ _ _ _ => rfl
  go_enter Try.func36, Try.ntmps36
  go_wp2
  go_ret
  exact ⟨rfl, rfl⟩
end Go.Proofs.Ytgajbaipkhopkaa
