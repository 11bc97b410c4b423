/- Bytes spelled, and the bytes of a text. Masters that are few; keys that are turned: plain. -/
import Derived.Test.YtomnjhhpeglcnaaGreatZ3
import Derived.Deep.Strs
import Derived.OpenShut
namespace Go.Proofs.YtomnjhhpeglcnaaGreat
open Go.RowKit
set_option linter.unusedSimpArgs false
set_option linter.unusedVariables false
set_option maxRecDepth 100000

/-- What a text's bytes are told as: by both alike. -/
def UnsV (W : World) (B : Nat) (l : List By) (a : Option Addr) (n c : Nat) (e : Int) : Prop :=
  ∃ y, Bys W a n y ∧ (∀ g off, a = some ⟨g, off, none⟩ → 0 < n → B ≤ g) ∧ ((unspellB l = some y ∧ e = 0) ∨ (unspellB l = none ∧ y = [] ∧ e = 160))
theorem UnsV.same {W W' : World} {B B' : Nat} {l : List By} {a a' : Option Addr} {n n' c c' : Nat} {e e' : Int} (h : UnsV W B l a n c e) (h' : UnsV W' B' l a' n' c' e') : ∃ y, Bys W a n y ∧ Bys W' a' n' y ∧ e = e' ∧ e ≤ 160 := by
  obtain ⟨y, h1, _, h2⟩ := h
  obtain ⟨y', h1', _, h2'⟩ := h'
  rcases h2 with ⟨h2, rfl⟩ | ⟨h2, rfl, rfl⟩
  · rcases h2' with ⟨h2', rfl⟩ | ⟨h2', rfl, rfl⟩
    · rw [h2] at h2'; injection h2' with h2'; subst h2'
      exact ⟨y, h1, h1', rfl, by decide⟩
    · rw [h2] at h2'; cases h2'
  · rcases h2' with ⟨h2', rfl⟩ | ⟨h2', rfl, rfl⟩
    · rw [h2] at h2'; cases h2'
    · exact ⟨[], h1, h1', rfl, by decide⟩
theorem UnsV.below {W W' : World} {B : Nat} {l : List By} {a : Option Addr} {n c : Nat} {e : Int} (h : UnsV W B l a n c e) (hb : Below W.heap.size W W') : UnsV W' B l a n c e := by
  obtain ⟨y, h1, h2, h3⟩ := h
  exact ⟨y, h1.below hb, h2, h3⟩
/-- What Unspell tells. -/
theorem unspell_v (s : ByteArray) (w : World) (hs : s.size ≤ 1000000) :
    Calls Tryz.prog 24 #[.string s] w fun r w' => (∃ a n c e, r = .returned (.tuple #[.slice a n c, .int .i64 e]) ∧ UnsV w' w.heap.size (strB s) a n c e) ∧ Below w.heap.size w w' := by
  refine (unspell_c s w hs).mono ?_
  rintro r w' ⟨hb, (⟨v, l, h1, rfl, ho⟩ | ⟨h1, rfl⟩)⟩
  · obtain ⟨a, c, rfl, hc, hy⟩ := ho.bys
    exact ⟨⟨a, _, c, 0, rfl, l, hy, fun g off e hn => (own_lt ho g (by rw [e]; rfl)).1, .inl ⟨h1, rfl⟩⟩, hb⟩
  · exact ⟨⟨none, 0, 0, 160, rfl, [], Bys.nil, fun g off e hn => by omega, .inr ⟨h1, rfl, rfl⟩⟩, hb⟩
theorem runspell_v (s : ByteArray) (w : World) (hs : s.size ≤ 10000) :
    Calls Tryz.prog 38 #[.string s] w fun r w' => (∃ a n c e, r = .returned (.tuple #[.slice a n c, .int .i64 e]) ∧ UnsV w' w.heap.size (strB s) a n c e) ∧ Below w.heap.size w w' := by
  refine (runspell_c s w hs).mono ?_
  rintro r w' ⟨hb, (⟨v, l, h1, rfl, ho⟩ | ⟨h1, rfl⟩)⟩
  · obtain ⟨a, c, rfl, hc, hy⟩ := ho.bys
    exact ⟨⟨a, _, c, 0, rfl, l, hy, fun g off e hn => (own_lt ho g (by rw [e]; rfl)).1, .inl ⟨h1, rfl⟩⟩, hb⟩
  · exact ⟨⟨none, 0, 0, 160, rfl, [], Bys.nil, fun g off e hn => by omega, .inr ⟨h1, rfl, rfl⟩⟩, hb⟩
end Go.Proofs.YtomnjhhpeglcnaaGreat

namespace Go.Proofs.YtomnjhhpeglcnaaGreat
open Go.RowKit Go.ChangeShapes Go.WideShapes Go.Deep
set_option linter.unusedSimpArgs false
set_option linter.unusedVariables false
set_option maxRecDepth 100000

/-- A slice of strings in memory reads as these. -/
def Strs (w : World) (a : Option Addr) (n : Nat) (ss : List ByteArray) : Prop := ss.length = n ∧ ∀ (i : Nat) (s : ByteArray), ss[i]? = some s → ∃ g off, a = some ⟨g, off, none⟩ ∧ g < w.heap.size ∧ w.cell? ⟨g, off + i, none⟩ = some (.string s)
theorem Strs.below {w W : World} {a : Option Addr} {n B : Nat} {ss : List ByteArray} (h : Strs w a n ss) (hB : w.heap.size ≤ B) (hb : Below B w W) : Strs W a n ss := by
  refine ⟨h.1, fun i s hs => ?_⟩
  obtain ⟨g, off, e, hg, hc⟩ := h.2 i s hs
  exact ⟨g, off, e, Nat.lt_of_lt_of_le hg hb.size, (hb.cell (p := ⟨g, off + i, none⟩) (Nat.lt_of_lt_of_le hg hB)).trans hc⟩
section
variable {H : Type} {enc : TypeId × Value → H} {w : World} {base : Nat} {held : Bool} {fuel : Nat}
theorem strs_open {a : Option Addr} {len cap : Nat} {x : DataW H × List MemPlace} (h : DataW.trod enc Tryz.prog w base (fun _ => true) held fuel 22 [.slice a len cap] = some x) : ∃ xs, Strs w a len xs ∧ len ≤ maxLen := by
  rcases Go.Deep.open_strs Tryz.underlying22 Tryz.underlying9 (by kernel_rfl) h with ⟨h0, _⟩ | ⟨ad, len', cap', m, Sx, hcs, hb, hl, hm, hmm, hx, hi⟩
  · simp at h0
    obtain ⟨rfl, rfl, rfl⟩ := h0
    exact ⟨[], ⟨rfl, fun i x hx => by simp at hx⟩, Nat.zero_le _⟩
  · simp at hcs
    obtain ⟨rfl, rfl, rfl⟩ := hcs
    rw [if_pos rfl] at hmm
    subst hmm
    refine ⟨(List.range len).map Sx, ⟨by simp, fun i s hs => ?_⟩, Nat.le_trans hl hm⟩
    have hlt : i < len := by have := (List.getElem?_eq_some_iff.1 hs).1; simpa using this
    simp [hlt] at hs
    subst hs
    have hc := (hi i (by omega)).1
    obtain ⟨b, off, spot⟩ := ad
    have hc0 := (hi 0 (by omega)).1
    have hsp : spot = none := by simpa [Addr.add] using World.cell?_spot hc0
    subst hsp
    have had : (⟨b, off, none⟩ : Addr).add i = ⟨b, off + i, none⟩ := by
      unfold Addr.add
      split
      · simp_all
      · simp
    rw [had] at hc
    exact ⟨b, off, rfl, cell_lt hc, hc⟩
end
/-- A first master and others: few, and not long. -/
def fewB (f : ByteArray) (l : List ByteArray) : Bool := l.all (fun s => decide (s.size ≤ 100)) && (decide (f.size ≤ 100) && decide (l.length ≤ 12))
set_option maxHeartbeats 2000000 in
theorem few_c (f : ByteArray) (a : Option Addr) (n c : Nat) (l : List ByteArray) (w : World) (h : Strs w a n l) (hn : n ≤ maxLen) :
    Calls Tryz.prog 7 #[.string f, .slice a n c] w fun e w' => e = .returned (.bool (fewB f l)) ∧ w = w' := by
  have H := Lib.hid h
  unfold maxLen at hn
  have hll : l.length = n := h.1
  clear h
  go_enter Tryz.func7, Tryz.ntmps7
  go_wp2
  go_loop [5] (fun i => ∃ k : Nat, k ≤ n ∧ i = .int .i64 k ∧ (l.take k).all (fun s => decide (s.size ≤ 100)) = true) (fun i => n - (intOf i).toNat)
  case atStart => exact ⟨0, Nat.zero_le _, rfl, rfl⟩
  case round =>
    obtain ⟨k, hk, rfl, hall⟩ := hrel
    by_cases hlt : k < n
    · obtain ⟨x, hx⟩ : ∃ x, l[k]? = some x := ⟨l[k]'(by rw [hll]; exact hlt), List.getElem?_eq_getElem _⟩
      obtain ⟨g, off, rfl, hg, hcell⟩ := H.out.2 k x hx
      have HX := Lib.hid hx; have HALL := Lib.hid hall
      clear hx hall
      by_cases h1 : 100 < x.size
      · have h1' : (100 : Int) < (x.size : Int) := by omega
        have hf : fewB f l = false := by
          unfold fewB
          have : l.all (fun s => decide (s.size ≤ 100)) = false := by
            rw [List.all_eq_false]
            exact ⟨x, List.mem_of_getElem? HX.out, by simp; omega⟩
          rw [this]; rfl
        have HF := Lib.hid hf
        clear hf
        go_wp2
        go_ret
        exact ⟨by rw [HF.out]; rfl, rfl⟩
      · have h1' : ¬ (100 : Int) < (x.size : Int) := by omega
        go_wp2
        go_round
        case rel =>
          refine ⟨k + 1, by omega, by go_num, ?_⟩
          rw [List.take_add_one, HX.out, List.all_append, HALL.out]; simp; omega
        case measure => simp [intOf]; omega
    · obtain rfl : k = n := by omega
      have e : l.take k = l := List.take_of_length_le (by omega)
      rw [e] at hall
      have hf : fewB f l = (decide ((f.size : Int) ≤ 100) && decide ((k : Int) ≤ 12)) := by
        unfold fewB
        rw [hall, Bool.true_and, hll]
        congr 1
        · rw [Bool.eq_iff_iff, decide_eq_true_eq, decide_eq_true_eq]; omega
        · rw [Bool.eq_iff_iff, decide_eq_true_eq, decide_eq_true_eq]; omega
      have HF := Lib.hid hf
      clear hf hall e
      by_cases h2 : f.size ≤ 100
      · have h2' : (f.size : Int) ≤ 100 := by omega
        go_wp2
        go_ret
        exact ⟨by rw [HF.out]; simp [h2'], rfl⟩
      · have h2' : ¬ (f.size : Int) ≤ 100 := by omega
        go_wp2
        go_ret
        exact ⟨by rw [HF.out, decide_eq_false (by omega : ¬ (f.size : Int) ≤ 100)]; rfl, rfl⟩
/-- Keys behind masters. -/
def turnsK (k : KS) (l : List ByteArray) : KS := l.foldl (fun k s => if mayM s then k.turn s else k) k
theorem turnsK_snoc (k : KS) (l : List ByteArray) (s : ByteArray) : turnsK k (l ++ [s]) = (if mayM s then (turnsK k l).turn s else turnsK k l) := by
  unfold turnsK; rw [List.foldl_append]; rfl
theorem turn_first (k : KS) (s : ByteArray) : (k.turn s).first ≤ k.first + 1 := by
  unfold KS.turn; split <;> simp
def moreS : ByteArray := ⟨#[109, 111, 114, 101]⟩
def moreK (k : KS) : Nat → KS
  | 0 => k
  | j + 1 => (moreK k j).turn moreS
theorem moreK_first (k : KS) : ∀ j, (moreK k j).first ≤ k.first + j
  | 0 => Nat.le_refl _
  | j + 1 => by have := moreK_first k j; have := turn_first (moreK k j) moreS; rw [moreK]; omega
/-- Which keys are kept. -/
theorem moreK_kept (k : KS) (h1 : 0 < k.ms.length) (h2 : k.ms.length ≤ 3) (j : Nat) (hj : j ≤ 2) :
    (moreK k j).first ≤ k.newest ∧ k.newest ≤ (moreK k j).newest ∧ (moreK k j).at_ (k.newest - (moreK k j).first) = k.at_ (k.ms.length - 1) := by
  obtain ⟨f, ms⟩ := k
  match ms, h1, h2 with
  | [a], _, _ =>
    rcases (by omega : j = 0 ∨ j = 1 ∨ j = 2) with rfl | rfl | rfl <;> simp [moreK, KS.turn, KS.newest, KS.at_]
  | [a, b], _, _ =>
    rcases (by omega : j = 0 ∨ j = 1 ∨ j = 2) with rfl | rfl | rfl <;> simp [moreK, KS.turn, KS.newest, KS.at_]
  | [a, b, c], _, _ =>
    rcases (by omega : j = 0 ∨ j = 1 ∨ j = 2) with rfl | rfl | rfl <;> simp [moreK, KS.turn, KS.newest, KS.at_]
  | [], h1, _ => simp at h1
  | a :: b :: c :: d :: r, _, h2 => simp at h2
theorem moreK_gone (k : KS) (h1 : 0 < k.ms.length) (h2 : k.ms.length ≤ 3) (j : Nat) (hj : 2 < j) (hj5 : j ≤ 5) : k.newest < (moreK k j).first := by
  obtain ⟨f, ms⟩ := k
  match ms, h1, h2 with
  | [a], _, _ =>
    rcases (by omega : j = 3 ∨ j = 4 ∨ j = 5) with rfl | rfl | rfl <;> simp [moreK, KS.turn, KS.newest] <;> omega
  | [a, b], _, _ =>
    rcases (by omega : j = 3 ∨ j = 4 ∨ j = 5) with rfl | rfl | rfl <;> simp [moreK, KS.turn, KS.newest] <;> omega
  | [a, b, c], _, _ =>
    rcases (by omega : j = 3 ∨ j = 4 ∨ j = 5) with rfl | rfl | rfl <;> simp [moreK, KS.turn, KS.newest] <;> omega
  | [], h1, _ => simp at h1
  | a :: b :: c :: d :: r, _, h2 => simp at h2
/-- What opens under one key alone is what is made. -/
theorem open_one (m : ByteArray) (s : List By) (t : Tok) (h : (⟨0, [m]⟩ : KS).open_ s = (t, 0)) : t.ok = true ∧ spellB ((⟨0, [m]⟩ : KS).bytes t) = s := by
  unfold KS.open_ at h
  split at h
  · injection h with _ h; cases h
  · cases hu : unspellB s with
    | none => rw [hu] at h; injection h with _ h; cases h
    | some b =>
      rw [hu] at h
      simp only at h
      unfold openTB at h
      split at h
      · injection h with _ h; cases h
      · split at h
        · injection h with _ h; cases h
        · split at h
          · injection h with _ h; cases h
          · split at h
            · injection h with _ h; cases h
            · split at h
              · injection h with _ h; cases h
              · split at h
                · injection h with _ h; cases h
                · split at h
                  · rename_i hr ht
                    injection h with h _
                    subst h
                    have hn0 : (rnum ⟨b, 0⟩ most31).2.1 = 0 := by
                      have hr2 := Classical.not_not.1 hr
                      have : (⟨0, [m]⟩ : KS).newest = 0 := rfl
                      omega
                    rw [hn0] at ht
                    have t2 := rnum_top (rnum ⟨b, 0⟩ most31).1 15 (by decide)
                    have t3 := rnum_top (rnum (rnum ⟨b, 0⟩ most31).1 15).1 most31 (by decide)
                    have t4 := rnum_top (rnum (rnum (rnum ⟨b, 0⟩ most31).1 15).1 most31).1 most31 (by decide)
                    unfold most31 at t2 t3 t4 ⊢
                    refine ⟨?_, ?_⟩
                    · unfold Tok.ok may31
                      simp only [Bool.and_eq_true, decide_eq_true_eq]
                      refine ⟨⟨⟨by omega, by omega⟩, by omega, by omega⟩, by omega, by omega⟩
                    · rw [← spell_unspell hu]
                      congr 1
                  · injection h with _ h; cases h
end Go.Proofs.YtomnjhhpeglcnaaGreat
