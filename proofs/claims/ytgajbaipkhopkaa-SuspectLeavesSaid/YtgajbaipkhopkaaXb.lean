/- The reference's watch, by value. -/
import Derived.Test.YtgajbaipkhopkaaXa
namespace Go.Proofs.Ytgajbaipkhopkaa
open Go.RowKit

structure RC (cs : Array Value) (s : St) : Prop where
  size : cs.size = 31
  now : cs[3]? = some (.int .i64 s.now)
  c : cs[0]? = some (.int .i64 s.c)
  self : cs[1]? = some (.int .i64 s.self)
  wait : cs[2]? = some (.int .i64 s.wait)
  since : ∀ p, p < 9 → cs[4 + p * 3]? = some (.int .i64 (s.pl p).since)
  waits : ∀ p, p < 9 → cs[4 + p * 3 + 1]? = some (.int .i64 (s.pl p).wait)
  susp : ∀ p, p < 9 → cs[4 + p * 3 + 2]? = some (.bool (s.pl p).susp)

def IsR (w : World) (b : Nat) (s : St) : Prop := ∃ cs, Blk w b 35 cs ∧ RC cs s

theorem RC.setNow {cs : Array Value} {s : St} (h : RC cs s) (n : Int) : RC (cs.setIfInBounds 3 (.int .i64 n)) (s.setNow n) where
  size := by simp [h.size]
  now := by simp [h.size, St.setNow]
  c := by simp [h.c, St.setNow]
  self := by simp [h.self, St.setNow]
  wait := by simp [h.wait, St.setNow]
  since := fun p hp => by rw [Array.getElem?_setIfInBounds, if_neg (by omega)]; exact h.since p hp
  waits := fun p hp => by rw [Array.getElem?_setIfInBounds, if_neg (by omega)]; exact h.waits p hp
  susp := fun p hp => by rw [Array.getElem?_setIfInBounds, if_neg (by omega)]; exact h.susp p hp

theorem RC.put {cs cs' : Array Value} {s : St} {p : Nat} {x : Wd} (h : RC cs s) (hs : cs'.size = 31)
    (h0 : ∀ i, i < 31 → i ≠ 4 + p * 3 → i ≠ 4 + p * 3 + 1 → i ≠ 4 + p * 3 + 2 → cs'[i]? = cs[i]?)
    (h1 : cs'[4 + p * 3]? = some (.int .i64 x.since)) (h2 : cs'[4 + p * 3 + 1]? = some (.int .i64 x.wait)) (h3 : cs'[4 + p * 3 + 2]? = some (.bool x.susp)) : RC cs' (s.put p x) where
  size := hs
  now := (h0 3 (by omega) (by omega) (by omega) (by omega)).trans h.now
  c := (h0 0 (by omega) (by omega) (by omega) (by omega)).trans h.c
  self := (h0 1 (by omega) (by omega) (by omega) (by omega)).trans h.self
  wait := (h0 2 (by omega) (by omega) (by omega) (by omega)).trans h.wait
  since := fun q hq => by
    by_cases e : q = p
    · subst e; simpa [St.put] using h1
    · simp only [St.put, e, if_false]; exact (h0 _ (by omega) (by omega) (by omega) (by omega)).trans (h.since q hq)
  waits := fun q hq => by
    by_cases e : q = p
    · subst e; simpa [St.put] using h2
    · simp only [St.put, e, if_false]; exact (h0 _ (by omega) (by omega) (by omega) (by omega)).trans (h.waits q hq)
  susp := fun q hq => by
    by_cases e : q = p
    · subst e; simpa [St.put] using h3
    · simp only [St.put, e, if_false]; exact (h0 _ (by omega) (by omega) (by omega) (by omega)).trans (h.susp q hq)

theorem RC.setWait {cs : Array Value} {s : St} {p : Nat} (h : RC cs s) (hp : p < 9) (n : Int) : RC (cs.setIfInBounds (4 + p * 3 + 1) (.int .i64 n)) (s.put p { s.pl p with wait := n }) := by
  refine h.put (by simp [h.size]) (fun i _ _ h2 _ => ?_) ?_ ?_ ?_
  · rw [Array.getElem?_setIfInBounds, if_neg (by omega)]
  · rw [Array.getElem?_setIfInBounds, if_neg (by omega)]; exact h.since p hp
  · rw [Array.getElem?_setIfInBounds, if_pos rfl, if_pos (by rw [h.size]; omega)]
  · rw [Array.getElem?_setIfInBounds, if_neg (by omega)]; exact h.susp p hp
theorem RC.setSince {cs : Array Value} {s : St} {p : Nat} (h : RC cs s) (hp : p < 9) (n : Int) : RC (cs.setIfInBounds (4 + p * 3) (.int .i64 n)) (s.put p { s.pl p with since := n }) := by
  refine h.put (by simp [h.size]) (fun i _ h2 _ _ => ?_) ?_ ?_ ?_
  · rw [Array.getElem?_setIfInBounds, if_neg (by omega)]
  · rw [Array.getElem?_setIfInBounds, if_pos rfl, if_pos (by rw [h.size]; omega)]
  · rw [Array.getElem?_setIfInBounds, if_neg (by omega)]; exact h.waits p hp
  · rw [Array.getElem?_setIfInBounds, if_neg (by omega)]; exact h.susp p hp
theorem RC.setSusp {cs : Array Value} {s : St} {p : Nat} (h : RC cs s) (hp : p < 9) (u : Bool) : RC (cs.setIfInBounds (4 + p * 3 + 2) (.bool u)) (s.put p { s.pl p with susp := u }) := by
  refine h.put (by simp [h.size]) (fun i _ _ _ h2 => ?_) ?_ ?_ ?_
  · rw [Array.getElem?_setIfInBounds, if_neg (by omega)]
  · rw [Array.getElem?_setIfInBounds, if_neg (by omega)]; exact h.since p hp
  · rw [Array.getElem?_setIfInBounds, if_neg (by omega)]; exact h.waits p hp
  · rw [Array.getElem?_setIfInBounds, if_pos rfl, if_pos (by rw [h.size]; omega)]

section
variable {w w' : World} {b : Nat} {s : St}
theorem IsR.lt (h : IsR w b s) : b < w.heap.size := by obtain ⟨_, hb, _⟩ := h; exact hb.lt
theorem IsR.r3 (h : IsR w b s) : w.cell? ⟨b, 3, none⟩ = some (.int .i64 s.now) := by obtain ⟨_, hb, hc⟩ := h; exact hb.cell hc.now
theorem IsR.r0 (h : IsR w b s) : w.cell? ⟨b, 0, none⟩ = some (.int .i64 s.c) := by obtain ⟨_, hb, hc⟩ := h; exact hb.cell hc.c
theorem IsR.r1 (h : IsR w b s) : w.cell? ⟨b, 1, none⟩ = some (.int .i64 s.self) := by obtain ⟨_, hb, hc⟩ := h; exact hb.cell hc.self
theorem IsR.r2 (h : IsR w b s) : w.cell? ⟨b, 2, none⟩ = some (.int .i64 s.wait) := by obtain ⟨_, hb, hc⟩ := h; exact hb.cell hc.wait
theorem IsR.p0 (h : IsR w b s) {p : Nat} (hp : p < 9) : w.cell? ⟨b, 4 + p * 3, none⟩ = some (.int .i64 (s.pl p).since) := by obtain ⟨_, hb, hc⟩ := h; exact hb.cell (hc.since p hp)
theorem IsR.p1 (h : IsR w b s) {p : Nat} (hp : p < 9) : w.cell? ⟨b, 4 + p * 3 + 1, none⟩ = some (.int .i64 (s.pl p).wait) := by obtain ⟨_, hb, hc⟩ := h; exact hb.cell (hc.waits p hp)
theorem IsR.p2 (h : IsR w b s) {p : Nat} (hp : p < 9) : w.cell? ⟨b, 4 + p * 3 + 2, none⟩ = some (.bool (s.pl p).susp) := by obtain ⟨_, hb, hc⟩ := h; exact hb.cell (hc.susp p hp)
theorem IsR.fz (h : IsR w b s) (o : Nat) : w.frozen? ⟨b, o, none⟩ = false := by obtain ⟨_, hb, _⟩ := h; exact hb.frozen o
theorem IsR.alloc (h : IsR w b s) (o : Obj) : IsR (w.alloc o) b s := by obtain ⟨cs, hb, hc⟩ := h; exact ⟨cs, hb.alloc o, hc⟩
theorem IsR.drew (h : IsR w b s) : IsR w.drew b s := h
theorem IsR.below {B : Nat} (h : IsR w b s) (hb : Below B w w') (hg : b < B) : IsR w' b s := by obtain ⟨cs, h1, hc⟩ := h; exact ⟨cs, h1.below hb hg, hc⟩
theorem IsR.grown {row : Option Nat} (h : IsR w b s) (hg : w.grownBy w' row) (hne : some b ≠ row) : IsR w' b s := by obtain ⟨cs, h1, hc⟩ := h; exact ⟨cs, h1.grown hg hne, hc⟩
theorem IsR.far (h : IsR w b s) {p : Addr} (hp : b ≠ p.block) (u : Value) : IsR (w.setCell p u) b s := by obtain ⟨cs, h1, hc⟩ := h; exact ⟨cs, h1.far hp u, hc⟩
theorem IsR.setNow (h : IsR w b s) (n : Int) : IsR (w.setCell ⟨b, 3, none⟩ (.int .i64 n)) b (s.setNow n) := by obtain ⟨cs, h1, hc⟩ := h; exact ⟨_, h1.set _ _, hc.setNow n⟩
theorem IsR.setSince (h : IsR w b s) {p : Nat} (hp : p < 9) (n : Int) : IsR (w.setCell ⟨b, 4 + p * 3, none⟩ (.int .i64 n)) b (s.put p { s.pl p with since := n }) := by obtain ⟨cs, h1, hc⟩ := h; exact ⟨_, h1.set _ _, hc.setSince hp n⟩
theorem IsR.setWait (h : IsR w b s) {p : Nat} (hp : p < 9) (n : Int) : IsR (w.setCell ⟨b, 4 + p * 3 + 1, none⟩ (.int .i64 n)) b (s.put p { s.pl p with wait := n }) := by obtain ⟨cs, h1, hc⟩ := h; exact ⟨_, h1.set _ _, hc.setWait hp n⟩
theorem IsR.setSusp (h : IsR w b s) {p : Nat} (hp : p < 9) (u : Bool) : IsR (w.setCell ⟨b, 4 + p * 3 + 2, none⟩ (.bool u)) b (s.put p { s.pl p with susp := u }) := by obtain ⟨cs, h1, hc⟩ := h; exact ⟨_, h1.set _ _, hc.setSusp hp u⟩
theorem IsR.only {g : Nat} (h : IsR w b s) (hO : Only g w w') (hne : b ≠ g) : IsR w' b s := by obtain ⟨cs, h1, hc⟩ := h; exact ⟨cs, hO.blk h1 hne, hc⟩
end
theorem RC.one {cs : Array Value} {s : St} (h : RC cs s) : cs.all (·.oneCell') = true := by
  rw [Array.all_eq_true]
  intro i hi
  have hs := h.size
  have k : ∀ v, cs[i]? = some v → v.oneCell' = true → cs[i].oneCell' = true := fun v hv ho => by
    rw [Array.getElem?_eq_getElem hi] at hv
    injection hv with hv
    rw [hv]; exact ho
  rcases Nat.lt_or_ge i 4 with h4 | h4
  · rcases (by omega : i = 0 ∨ i = 1 ∨ i = 2 ∨ i = 3) with rfl | rfl | rfl | rfl
    · exact k _ h.c rfl
    · exact k _ h.self rfl
    · exact k _ h.wait rfl
    · exact k _ h.now rfl
  · obtain ⟨p, hp⟩ : ∃ p, i = 4 + p * 3 ∨ i = 4 + p * 3 + 1 ∨ i = 4 + p * 3 + 2 := ⟨(i - 4) / 3, by omega⟩
    rcases hp with rfl | rfl | rfl
    · exact k _ (h.since p (by omega)) rfl
    · exact k _ (h.waits p (by omega)) rfl
    · exact k _ (h.susp p (by omega)) rfl
theorem info35 : (Try.prog.info? 35).map (·.size) = some 31 := by kernel_rfl
theorem RC.info {cs : Array Value} {s : St} (h : RC cs s) : (Try.prog.info? 35).map (·.size) = some cs.size := by rw [h.size]; exact info35

theorem rightB_eq (c : Int) : (c == 3 || c == 5 || c == 7 || c == 9) = rightB c := by
  by_cases h : 3 ≤ c ∧ c < 10
  · have : c = 3 ∨ c = 4 ∨ c = 5 ∨ c = 6 ∨ c = 7 ∨ c = 8 ∨ c = 9 := by omega
    rcases this with rfl | rfl | rfl | rfl | rfl | rfl | rfl <;> decide
  · have h1 : inH c 3 10 = false := by simp [inH]; omega
    have h2 : rightB c = false := by simp [rightB, and2, h1]
    rw [h2]
    simp only [Bool.or_eq_false_iff, beq_eq_false_iff_ne]
    omega
set_option maxHeartbeats 400000 in
theorem rright_c (c : Int) (w : World) : Calls Try.prog 30 #[.int .i64 c] w fun e w' => e = .returned (.bool (rightB c)) ∧ w = w' := by
  rw [← rightB_eq]
  go_enter Try.func30, Try.ntmps30
  go_wp2
  all_goals
    go_ret
    exact ⟨by simp [*], rfl⟩
set_option maxHeartbeats 400000 in
theorem rplace_c (c p : Int) (w : World) : Calls Try.prog 31 #[.int .i64 c, .int .i64 p] w fun e w' => e = .returned (.bool (decide (0 ≤ p) && decide (p < c))) ∧ w = w' := by
  by_cases h : 0 ≤ p
  all_goals
    go_enter Try.func31, Try.ntmps31
    go_wp2
    go_ret
    exact ⟨by simp [h]; try omega, rfl⟩
end Go.Proofs.Ytgajbaipkhopkaa
