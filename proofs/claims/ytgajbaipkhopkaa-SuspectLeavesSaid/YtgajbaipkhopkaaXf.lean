/- Calls by both: the answers as functions of the state. -/
import Derived.Test.YtgajbaipkhopkaaXe
namespace Go.Proofs.Ytgajbaipkhopkaa
open Go.RowKit

section
variable {P : Program}
theorem wp_store_blk {op : Oper} {a : Act} {w : World} {K : Act → World → Prop} {Q : Exit → Act → World → Prop} (ty : TypeId) (x y : Operand) (ho : op.op = .store ty x y)
    (g : Nat) (t : TypeId) (cs0 cells : Array Value) (hx : a.eval x = .pointer (some ⟨g, 0, none⟩)) (hy : a.eval y = .agg cells)
    (hb : Blk w g t cs0) (hs : cells.size = cs0.size) (hi : (P.info? ty).map (·.size) = some cells.size) (h1 : cells.all (·.oneCell') = true)
    (h : ∀ w', Blk w' g t cells → Only g w w' → w'.heap.size = w.heap.size → K (a.put op.dst undef) w') : op.wp P a w K Q := by
  obtain ⟨k1, k2, k3⟩ := setCells_row hb hs
  exact wp_store_mid ty x y ho g 0 cells hx hy (by rw [hs]; exact blk_there hb) hi h1 (h _ k1 k2 k3)
theorem wp_load_blk {o : Oper} {a : Act} {w : World} {K : Act → World → Prop} {Q : Exit → Act → World → Prop} (ty : TypeId) (x : Operand) (ho : o.op = .load ty x)
    (g : Nat) (hx : a.eval x = .pointer (some ⟨g, 0, none⟩)) (t : TypeId) (cs : Array Value) (d : TypeDesc) (hg : Blk w g t cs)
    (hu : P.underlying ty = some d) (hd : (match d with | .struct _ | .array _ _ => true | _ => false) = true) (hi : (P.info? ty).map (·.size) = some cs.size)
    (h : K (a.put o.dst (.agg cs)) w) : o.wp P a w K Q :=
  wp_load_row ty x ho g hx t cs (0, 0) d hg hu hd hi h
end

def tickE (s : St) (n : Int) : Int := if inB n 0 2147483647 then (if s.now + n ≤ 4611686018427387904 then 0 else 3) else 2
def tickS (s : St) (n : Int) : St := if inB n 0 2147483647 = true ∧ s.now + n ≤ 4611686018427387904 then s.tick n else s
def tickL (s : St) (n : Int) : List Int := if inB n 0 2147483647 = true ∧ s.now + n ≤ 4611686018427387904 then s.told n else []
theorem inB_in {n a b : Int} (h : inB n a b = true) : a ≤ n ∧ n ≤ b := by simpa [inB] using h
theorem tick_cases (s : St) (n : Int) : (inB n 0 2147483647 = false ∧ tickE s n = 2 ∧ tickS s n = s ∧ tickL s n = []) ∨
    (inB n 0 2147483647 = true ∧ 4611686018427387904 < s.now + n ∧ tickE s n = 3 ∧ tickS s n = s ∧ tickL s n = []) ∨
    (0 ≤ n ∧ n ≤ 2147483647 ∧ s.now + n ≤ 4611686018427387904 ∧ tickE s n = 0 ∧ tickS s n = s.tick n ∧ tickL s n = s.told n) := by
  unfold tickE tickS tickL
  cases h : inB n 0 2147483647
  · exact .inl ⟨rfl, by simp, by simp, by simp⟩
  · obtain ⟨h1, h2⟩ := inB_in h
    by_cases hl : s.now + n ≤ 4611686018427387904
    · exact .inr (.inr ⟨h1, h2, hl, by simp [hl], by simp [hl], by simp [hl]⟩)
    · exact .inr (.inl ⟨rfl, by omega, by simp [hl], by simp [hl], by simp [hl]⟩)
theorem ints_nil (w : World) (base : Nat) : Ints w base (.slice none 0 0) [] := World.ownsRow_nil _ _ _ _
theorem rtick_any (cs : Array Value) (s : St) (n : Int) (w : World) (h : RC cs s) (hs : Fair s) :
    Calls Try.prog 33 #[.agg cs, .int .i64 n] w fun e w' => (∃ cs' v, e = .returned (.tuple #[.agg cs', v, .int .i64 (tickE s n)]) ∧ RC cs' (tickS s n) ∧ Ints w' w.heap.size v (tickL s n)) ∧ Below w.heap.size w w' := by
  rcases tick_cases s n with ⟨h1, e1, e2, e3⟩ | ⟨h1, h2, e1, e2, e3⟩ | ⟨h1, h2, h3, e1, e2, e3⟩
  · rw [e1, e2, e3]
    exact (rtick_no cs s n 2 w h hs.sane (.inl ⟨rfl, h1⟩)).mono fun e w' ⟨⟨cs', he, hc⟩, hb⟩ => ⟨⟨cs', _, he, hc, ints_nil _ _⟩, hb⟩
  · rw [e1, e2, e3]
    exact (rtick_no cs s n 3 w h hs.sane (.inr ⟨rfl, h1, h2⟩)).mono fun e w' ⟨⟨cs', he, hc⟩, hb⟩ => ⟨⟨cs', _, he, hc, ints_nil _ _⟩, hb⟩
  · rw [e1, e2, e3]
    exact rtick_ok cs s n w h hs.sane h1 h2 h3
theorem tick_any (b : Nat) (s : St) (n : Int) (w : World) (hW : IsW w b s) (hs : Fair s) :
    Calls Try.prog 15 #[.pointer (some ⟨b, 0, none⟩), .int .i64 n] w fun e w' => (∃ v, e = .returned (.tuple #[v, .int .i64 (tickE s n)]) ∧ Ints w' w.heap.size v (tickL s n)) ∧ IsW w' b (tickS s n) ∧ Only b w w' := by
  rcases tick_cases s n with ⟨h1, e1, e2, e3⟩ | ⟨h1, h2, e1, e2, e3⟩ | ⟨h1, h2, h3, e1, e2, e3⟩
  · rw [e1, e2, e3]
    exact (tick_arg b s n w hW hs.sane h1).mono fun e w' ⟨he, hw⟩ => by subst hw; exact ⟨⟨_, he, ints_nil _ _⟩, hW, Only.refl _ _⟩
  · rw [e1, e2, e3]
    exact (tick_long b s n w hW hs.sane h1 h2).mono fun e w' ⟨he, hw⟩ => by subst hw; exact ⟨⟨_, he, ints_nil _ _⟩, hW, Only.refl _ _⟩
  · rw [e1, e2, e3]
    exact (tick_fair b s n w hW hs h1 h2 h3).mono fun e w' ⟨a, c, he, h4, h5, h6⟩ => ⟨⟨_, he, h4⟩, h5, h6⟩
theorem place_in {s : St} (p : Int) : (decide (0 ≤ p) && decide (p < s.c)) = inB p 0 (s.c - 1) := by
  unfold inB
  rw [Bool.eq_iff_iff]; simp; omega
theorem hear_any (b : Nat) (s : St) (p : Int) (w : World) (hW : IsW w b s) (hs : Fair s) :
    Calls Try.prog 16 #[.pointer (some ⟨b, 0, none⟩), .int .i64 p] w fun e w' => e = .returned (.tuple #[.bool (hearB s p), .int .i64 (hearE s p)]) ∧ IsW w' b (hearS s p) ∧ Only b w w' := by
  unfold hearB hearE hearS
  cases hp : (decide (0 ≤ p) && decide (p < s.c))
  · rw [place_in] at hp
    exact (hear_arg b s p w hW hs.sane hp).mono fun e w' ⟨he, hw⟩ => by subst hw; exact ⟨he, hW, Only.refl _ _⟩
  · have hp' := hp
    simp only [Bool.and_eq_true, decide_eq_true_eq] at hp'
    obtain ⟨q, rfl⟩ : ∃ q : Nat, p = q := ⟨p.toNat, by omega⟩
    have hq : q < s.c.toNat := by omega
    exact hear_fair b s q w hW hs hq
theorem fair_tickS {s : St} (h : Fair s) (n : Int) : Fair (tickS s n) := by
  rcases tick_cases s n with ⟨h1, e1, e2, e3⟩ | ⟨h1, h2, e1, e2, e3⟩ | ⟨h1, h2, h3, e1, e2, e3⟩
  · rw [e2]; exact h
  · rw [e2]; exact h
  · rw [e2]; exact fair_tick h h1 h3
theorem fair_hearS {s : St} (h : Fair s) (p : Int) : Fair (hearS s p) := by
  unfold hearS; split
  · exact fair_heard h _
  · exact h
/-- A call. -/
structure Ac where
  hear : Bool
  place : Int
  n : Int
def Ac.val (x : Ac) : Value := .agg #[.bool x.hear, .int .i64 x.place, .int .i64 x.n]
def actS (s : St) (x : Ac) : St := if x.hear then hearS s x.place else tickS s x.n
theorem fair_actS {s : St} (h : Fair s) (x : Ac) : Fair (actS s x) := by
  unfold actS; split
  · exact fair_hearS h _
  · exact fair_tickS h _
end Go.Proofs.Ytgajbaipkhopkaa
