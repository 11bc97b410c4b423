/- Contracts: who is suspected, as an iterator value. -/
import Derived.Test.YtgajbaipkhopkaaWf
namespace Go.Proofs.Ytgajbaipkhopkaa
open Go.RowKit Go.Shelf
attribute [local go_sem] Oper.semAt_some

/-- An iterator value that goes over those of xs that are suspected. -/
def SusIt (w : World) (Bs g : Nat) (xs : List Wd) : Prop :=
  Bs < w.heap.size ∧ g < w.heap.size ∧ xs.length ≤ 9 ∧
  ((w.cell? ⟨Bs, 0, none⟩ = some (.slice none 0 0) ∧ xs = []) ∨ ∃ cap, w.cell? ⟨Bs, 0, none⟩ = some (.slice (some ⟨g, 0, none⟩) xs.length cap) ∧ At w g xs)
/-- It is kept wherever its two blocks are. -/
theorem SusIt.kept {w w' : World} {Bs g : Nat} {xs : List Wd} (h : SusIt w Bs g xs) (hz : w.heap.size ≤ w'.heap.size) (hb : Hold Bs w w') (hc : Hold g w w') : SusIt w' Bs g xs := by
  obtain ⟨h1, hg, h2, h3⟩ := h
  refine ⟨Nat.lt_of_lt_of_le h1 hz, Nat.lt_of_lt_of_le hg hz, h2, ?_⟩
  rcases h3 with ⟨h3, e⟩ | ⟨cap, h3, h4⟩
  · exact .inl ⟨(World.cell?_of_block (a := ⟨Bs, 0, none⟩) hb).trans h3, e⟩
  · exact .inr ⟨cap, (World.cell?_of_block (a := ⟨Bs, 0, none⟩) hb).trans h3, h4.hold hc⟩
theorem SusIt.below {w w' : World} {Bs g : Nat} {xs : List Wd} (h : SusIt w Bs g xs) (hb : Below w.heap.size w w') : SusIt w' Bs g xs := h.kept hb.size (hb.block _ h.1) (hb.block _ h.2.1)

set_option maxRecDepth 100000 in
set_option maxHeartbeats 1000000 in
theorem seq1_nil (n : Nat) (l Bs : Nat) (J : List Nat → World → Prop) (W : World) (hBs : W.cell? ⟨Bs, 0, none⟩ = some (.slice none 0 0)) (h0 : J [] W) :
    CallsIn Fence.wide n Try.prog 34 #[.func (.yield l) #[] #[], .pointer (some ⟨Bs, 0, none⟩)] W fun e W' => (∃ v, e = .returned v) ∧ J [] W' := by
  refine callsIn_of_wp Try.func34 rfl trivial ?_ rfl
  simp only [Try.ntmps34, List.size_toArray, List.length_cons, List.length_nil, Nat.reduceAdd, Nat.reduceSub, Array.replicate_succ, Array.replicate_zero, List.push_toArray, List.append_toArray, List.nil_append, List.cons_append]
  refine wpIn_wide.2 (wp_scope_straight ((wpIn_wide (n := n)).1 ?_))
  gi_wp2
  refine wpIn_label ?_
  gi_wp2
  gi_loopw [7] (fun i wr => i = .int .i64 0 ∧ J [] wr) (fun _ _ => 0)
  case atStart => exact ⟨rfl, h0⟩
  case round =>
    obtain ⟨rfl, hJs⟩ := hrel
    gi_wp2
    rw [Exit.noGoto_normal]
    go_end0
    exact ⟨⟨_, rfl⟩, hJs⟩

theorem sus_stops (n Bs g : Nat) (xs : List Wd) (w : World) (h : SusIt w Bs g xs) :
    SeqStopsK Fence.wide n Try.prog 34 #[.pointer (some ⟨Bs, 0, none⟩)] (fun x : Nat => #[Value.int .i64 x]) (Hold g) (fun ys => ys = sus xs xs.length) (fun pre => pre <+: sus xs xs.length) xs.length w := fun l J Jx W hW hJ _ hY h0 => by
  obtain ⟨h1, hg, h2, h3⟩ := h.below hW
  rcases h3 with ⟨h3, rfl⟩ | ⟨cap, h3, h4⟩
  · exact (seq1_nil n l Bs J W h3 h0).mono fun e W' ⟨he, hj⟩ => ⟨he, .inl ⟨_, rfl, hj⟩⟩
  · exact seq1_in n l Bs g cap xs h2 J Jx hY W hg hJ h3 h4 h0

theorem wds_form {w : World} {base : Nat} {v : Value} {xs : List Wd} (h : Wds w base v xs) (hn : v ≠ .slice none 0 0) : ∃ g cap, v = .slice (some ⟨g, 0, none⟩) xs.length cap ∧ base ≤ g ∧ g < w.heap.size ∧ At w g xs := by
  have hc := h
  obtain ⟨h1, h2⟩ := h
  rcases h2 with ⟨h2, _⟩ | ⟨g, cap, cur, hv, hg, hh, r⟩
  · exact absurd h2 hn
  · refine ⟨g, cap, hv, hg, (Array.getElem?_eq_some_iff.1 hh).1, fun k x hx => ?_⟩
    obtain ⟨a0, a1, a2⟩ := flat_at xs k x hx
    have hcc := World.ownsRow.cells hc (g := g) (by rw [hv]; rfl)
    have b0 := hcc _ _ a0
    have b1 := hcc _ _ a1
    have b2 := hcc _ _ a2
    unfold Addr.add at b0 b1 b2
    simp only [Nat.zero_add] at b0 b1 b2
    refine ⟨?_, ?_, ?_⟩
    · split at b0
      · rename_i e; rw [e]; exact b0
      · exact b0
    · rw [if_neg (by omega)] at b1; exact b1
    · rw [if_neg (by omega)] at b2; exact b2

set_option maxHeartbeats 1000000 in
theorem suspects_any (b : Nat) (s : St) (w : World) (hW : IsW w b s) (hs : Sane s) :
    Calls Try.prog 13 #[.pointer (some ⟨b, 0, none⟩)] w fun e w' => ∃ Bs g, e = .returned (.func (.func 34) #[] #[.pointer (some ⟨Bs, 0, none⟩)]) ∧ SusIt w' Bs g s.list ∧ w.heap.size ≤ Bs ∧ w.heap.size ≤ g ∧ Below w.heap.size w w' := by
  have hmf : ∀ (fn : Fn) (first cap : Array Value) (w : World), (Instr.makeFunc fn first cap).run Try.prog w = .ok (.func fn first cap) w := fun _ _ _ _ => rfl
  have c1 := hs.c1
  have c2 := hs.c2
  go_enter Try.func13, Try.ntmps13
  go_wp2_with fail
  refine (state_any b s _ hW hs).mono ?_
  rintro e w3 ⟨v, rfl, hv, hb3, hn⟩
  obtain ⟨g, cap, rfl, hg0, hg, hat⟩ := wds_form hv hn
  have hl : s.list.length ≤ 9 := by simp [St.list]; omega
  have HIt : Hid (SusIt (w3.alloc (.cells #[.slice (some ⟨g, 0, none⟩) s.list.length cap] 62)) w3.heap.size g s.list) := by
    refine Lib.hid ⟨by simp, by simp; omega, hl, .inr ⟨cap, blk0 rfl, ?_⟩⟩
    exact hat.below ((Below.refl _ _).alloc (Nat.le_refl _) _) hg
  have HB := Lib.hid (hb3.alloc hb3.size (.cells #[.slice (some ⟨g, 0, none⟩) s.list.length cap] 62))
  have Hz := Lib.hid hb3.size
  clear hv hb3 hn hat
  go_wp2
  go_ret
  exact ⟨w3.heap.size, g, rfl, HIt.out, Hz.out, hg0, HB.out⟩

set_option maxHeartbeats 1000000 in
theorem suspects_none (v : Option Addr) (w : World) (h : NoW w v) :
    Calls Try.prog 13 #[.pointer v] w fun e w' => ∃ Bs g, e = .returned (.func (.func 34) #[] #[.pointer (some ⟨Bs, 0, none⟩)]) ∧ SusIt w' Bs g [] ∧ w.heap.size ≤ Bs ∧ w.heap.size ≤ g ∧ Below w.heap.size w w' := by
  have hmf : ∀ (fn : Fn) (first cap : Array Value) (w : World), (Instr.makeFunc fn first cap).run Try.prog w = .ok (.func fn first cap) w := fun _ _ _ _ => rfl
  have H := Lib.hid h; clear h
  go_enter Try.func13, Try.ntmps13
  go_wp2_with fail
  refine (state_none _ _ H.out).mono ?_
  rintro e w3 ⟨rfl, rfl⟩
  have HIt : Hid (SusIt (w.alloc (.cells #[.slice none 0 0] 62)) w.heap.size w.heap.size []) := Lib.hid ⟨by simp, by simp, by simp, .inl ⟨blk0 rfl, rfl⟩⟩
  go_wp2
  go_ret
  exact ⟨w.heap.size, w.heap.size, rfl, HIt.out, Nat.le_refl _, Nat.le_refl _, (Below.refl _ _).alloc (Nat.le_refl _) _⟩
end Go.Proofs.Ytgajbaipkhopkaa
