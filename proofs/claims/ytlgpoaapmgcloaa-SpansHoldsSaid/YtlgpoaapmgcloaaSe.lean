/- Contracts: the spans that another one leaves as they are. -/
import Derived.Test.YtlgpoaapmgcloaaSd
import Derived.Test.YtlgpoaapmgcloaaWk
namespace Go.Proofs.Ytlgpoaapmgcloaa
open Go.RowKit
set_option linter.unusedSimpArgs false
set_option linter.unusedVariables false
set_option maxRecDepth 100000

theorem OwnR.only {w w' : World} {base g : Nat} {v : Value} {l : List Sp} (h : OwnR w base v l) (hg : Only g w w') (hlt : g < base) : OwnR w' base v l := by
  refine World.ownsRow.kept (h : w.ownsRow _ _ _ _ _ _) hg ?_
  cases hv : v.ownBlock with
  | none => exact .inl rfl
  | some k =>
    have := (World.ownsRow.lt (h : w.ownsRow _ _ _ _ _ _) k hv).1
    exact .inr (fun e => by injection e with e; omega)
theorem kept_take {l : List Sp} {i : Nat} {x : Sp} (b : Sp) (hx : l[i]? = some x) : kept (l.take (i + 1)) b = kept (l.take i) b ++ (if apartB x b then [x] else []) := by
  rw [List.take_add_one, hx]
  unfold kept
  rw [List.filter_append]
  simp [List.filter_cons]
theorem grown_take {l : List Sp} {i : Nat} {x : Sp} (b y : Sp) (hx : l[i]? = some x) : grown (l.take (i + 1)) b y = growG b (grown (l.take i) b y) x := by
  rw [List.take_add_one, hx]
  unfold grown
  rw [List.foldl_append]
  rfl
theorem kept_len (l : List Sp) (b : Sp) : (kept l b).length ≤ l.length := List.length_filter_le _ _
def RetSp (e : Ending) (w : World) (l : List Sp) : Prop := ∃ A m c, e = .returned (.slice A m c) ∧ Sps w A m l
theorem set_pair {w : World} {X : Nat} {u v : Value} (h : Blk w X 33 #[u, v]) (q r s t : Int) (h1 : s = q) (h2 : t = r) : Blk ((w.setCell ⟨X, 0, none⟩ (.int .i64 q)).setCell ⟨X, 1, none⟩ (.int .i64 r)) X 33 #[.int .i64 s, .int .i64 t] := by
  subst h1; subst h2
  exact (h.set 0 _).set 1 _
set_option maxHeartbeats 2000000 in
theorem add1_c (a b y : Sp) (X : Nat) (w : World) (h : Blk w X 33 #[.int .i64 y.f, .int .i64 y.t]) :
    Calls Try.prog 32 #[a.val, b.val, .pointer (some ⟨X, 0, none⟩)] w fun e w' => RetSp e w' (if apartB a b then [a] else []) ∧ Blk w' X 33 #[.int .i64 (growG b y a).f, .int .i64 (growG b y a).t] ∧ Only X w w' := by
  have hal := ((Below.refl w.heap.size w).alloc (Nat.le_refl _) (.cells #[.int .i64 a.f, .int .i64 a.t] 33)).alloc (by simp) (.cells #[.int .i64 b.f, .int .i64 b.t] 33)
  have HB := Lib.hid hal
  have hX := h.below hal h.lt
  have HX := Lib.hid hX
  have hlt := h.lt
  have HKA := Lib.hid ((Blk.new w 33 #[.int .i64 a.f, .int .i64 a.t]).alloc (.cells #[.int .i64 b.f, .int .i64 b.t] 33))
  have HKB := Lib.hid (Blk.new2 w (.cells #[.int .i64 a.f, .int .i64 a.t] 33) 33 #[.int .i64 b.f, .int .i64 b.t])
  unfold Sp.val
  clear hal h hX
  by_cases hap : apartB a b = true
  · have HG : Hid (growG b y a = y) := Lib.hid (by unfold growG; rw [if_pos hap])
    rw [if_pos hap, HG.out]
    unfold apartB at hap
    rw [decide_eq_true_eq] at hap
    have hl := (HB.out.alloc HB.out.size (.cells #[.int .i64 a.f, .int .i64 a.t] 33))
    have HL := Lib.hid hl
    have HS : Hid (∀ W : World, Sps (W.alloc (.cells #[.int .i64 a.f, .int .i64 a.t] 33)) (some ⟨W.heap.size, 0, none⟩) 1 [a]) := Lib.hid (fun W => Sps.lit 33 rfl rfl)
    have HX2 := Lib.hid (HX.out.alloc (.cells #[.int .i64 a.f, .int .i64 a.t] 33))
    clear hl
    by_cases h1 : a.t < b.f
    · go_enter Try.func32, Try.ntmps32
      go_wp2_with fail
      go_ret
      refine ⟨⟨_, 1, 1, rfl, ?_⟩, HX2.out, Only.of_below HL.out X⟩
      have := HS.out ((w.alloc (.cells #[.int .i64 a.f, .int .i64 a.t] 33)).alloc (.cells #[.int .i64 b.f, .int .i64 b.t] 33))
      simpa using this
    · have h2 : b.t < a.f := by omega
      go_enter Try.func32, Try.ntmps32
      go_wp2_with fail
      go_ret
      refine ⟨⟨_, 1, 1, rfl, ?_⟩, HX2.out, Only.of_below HL.out X⟩
      have := HS.out ((w.alloc (.cells #[.int .i64 a.f, .int .i64 a.t] 33)).alloc (.cells #[.int .i64 b.f, .int .i64 b.t] 33))
      simpa using this
  · have HG : Hid (growG b y a = ⟨min a.f y.f, max a.t y.t⟩) := Lib.hid (by unfold growG; rw [if_neg hap])
    rw [if_neg hap, HG.out]
    unfold apartB at hap
    rw [decide_eq_true_eq] at hap
    have h1 : ¬ a.t < b.f := by omega
    have h2 : ¬ b.t < a.f := by omega
    have HO := Lib.hid (Only.of_below HB.out X)
    generalize hw1 : (w.alloc (.cells #[.int .i64 a.f, .int .i64 a.t] 33)).alloc (.cells #[.int .i64 b.f, .int .i64 b.t] 33) = w1 at *
    have x0 : w1.cell? ⟨X, 0, none⟩ = some (.int .i64 y.f) := HX.out.cell (i := 0) rfl
    have x1 : w1.cell? ⟨X, 1, none⟩ = some (.int .i64 y.t) := HX.out.cell (i := 1) rfl
    have a0 : w1.cell? ⟨w.heap.size, 0, none⟩ = some (.int .i64 a.f) := HKA.out.cell (i := 0) rfl
    have a1 : w1.cell? ⟨w.heap.size, 1, none⟩ = some (.int .i64 a.t) := HKA.out.cell (i := 1) rfl
    have b0 : w1.cell? ⟨w.heap.size + 1, 0, none⟩ = some (.int .i64 b.f) := HKB.out.cell (i := 0) rfl
    have b1 : w1.cell? ⟨w.heap.size + 1, 1, none⟩ = some (.int .i64 b.t) := HKB.out.cell (i := 1) rfl
    have fz := HX.out.frozen
    clear hap
    go_enter Try.func32, Try.ntmps32
    go_wp2_with fail
    all_goals
      go_ret
      exact ⟨⟨none, 0, 0, rfl, Sps.nil _ _⟩, set_pair HX.out _ _ _ _ (by omega) (by omega), (HO.out.setCell (.inl rfl) _).setCell (.inl rfl) _⟩
theorem Only.behind {w W W' : World} {X B : Nat} (h : Only X w W) (hb : Below B W W') (hB : w.heap.size ≤ B) : Only X w W' :=
  ⟨hb.os.trans h.os, hb.tape.trans h.tape, hb.output.trans h.output, Nat.le_trans h.size hb.size, fun i hi hn => (hb.block i (by omega)).trans (h.block i hi hn)⟩
/-- What change leaves: the set's row, the captured span. -/
structure ChS (w : World) (p X B0 : Nat) (a : Option Addr) (n c : Nat) (l : List Sp) (b y : Sp) (base i : Nat) (v : Value) (W : World) : Prop where
  own : OwnR W base v (kept (l.take i) b)
  x : Blk W X 33 #[.int .i64 (grown (l.take i) b y).f, .int .i64 (grown (l.take i) b y).t]
  blk : Blk W p 51 #[.slice a n c, .bool true]
  b0 : Blk W B0 33 #[.int .i64 b.f, .int .i64 b.t]
  on : Only X w W
theorem Blk.apart {w : World} {p q t t' : Nat} {cs cs' : Array Value} (h : Blk w p t cs) (h' : Blk w q t' cs') (ht : t ≠ t') : p ≠ q := by
  intro e
  subst e
  unfold Blk at h h'
  rw [h] at h'
  injection h' with h'
  injection h' with _ h'
  exact ht h'
set_option maxHeartbeats 4000000 in
theorem change_add (p X : Nat) (l : List Sp) (a : Option Addr) (c : Nat) (b y : Sp) (w : World) (h : IsSet w p l a c) (hn : l.length ≤ 1000000) (hX : Blk w X 33 #[.int .i64 y.f, .int .i64 y.t]) (hrX : ∀ g off, a = some ⟨g, off, none⟩ → 0 < l.length → g ≠ X) :
    Calls Try.prog 31 #[.pointer (some ⟨p, 0, none⟩), b.val, .func (.func 32) #[] #[.pointer (some ⟨X, 0, none⟩)]] w fun e w' => e = .returned (.tuple #[]) ∧ (∃ v, OwnR w' (w.heap.size + 1) v (kept l b) ∧ Blk w' p 51 #[v, .bool true]) ∧ Blk w' X 33 #[.int .i64 (grown l b y).f, .int .i64 (grown l b y).t] ∧ Tch (fun j => j = p ∨ j = X) w w' := by
  have hpX : p ≠ X := Blk.apart h.blk hX (by decide)
  have hlX := hX.lt; have hlp := h.blk.lt
  have hal := (Below.refl w.heap.size w).alloc (Nat.le_refl _) (.cells #[.int .i64 b.f, .int .i64 b.t] 33)
  obtain ⟨n, hnn⟩ : ∃ n, n = l.length := ⟨_, rfl⟩
  have HC : Hid (ChS w p X w.heap.size a n c l b y (w.heap.size + 1) 0 (.slice none 0 0) (w.alloc (.cells #[.int .i64 b.f, .int .i64 b.t] 33))) := Lib.hid (by
    rw [hnn]
    exact ⟨OwnR.nil _ _, hX.below hal hlX, h.blk.below hal hlp, Blk.new _ _ _, Only.of_below hal X⟩)
  have HN := Lib.hid hnn
  have HRW : Hid (Sps w a n l) := Lib.hid (by rw [hnn]; exact h.row)
  have hn6 : n ≤ 1000000 := by omega
  have hrX : ∀ g off, a = some ⟨g, off, none⟩ → 0 < n → g ≠ X := by rw [hnn]; exact hrX
  have HRX := Lib.hid hrX
  have c0 : (w.alloc (.cells #[.int .i64 b.f, .int .i64 b.t] 33)).cell? ⟨p, 0, none⟩ = some (.slice a n c) := HC.out.blk.cell (i := 0) rfl
  have hwX : X < w.heap.size := hlX
  unfold Sp.val
  clear hal h hX hnn hrX hlX
  go_enter Try.func31, Try.ntmps31
  go_wp2_with fail
  clear c0
  go_loopw [14, 6] (fun iv v wr => ∃ i : Nat, i ≤ n ∧ iv = .int .i64 (i : Int) ∧ ChS w p X w.heap.size a n c l b y (w.heap.size + 1) i v wr) (fun iv _ _ => n - (intOf iv).toNat)
  case atStart => exact ⟨0, Nat.zero_le _, rfl, HC.out⟩
  case round =>
  obtain ⟨i, hi, rfl, hch⟩ := hrel
  have HS := Lib.hid hch
  by_cases hlt : i < n
  · obtain ⟨x, hx⟩ : ∃ x, l[i]? = some x := ⟨l[i]'(by have := HN.out; omega), List.getElem?_eq_getElem _⟩
    have HX := Lib.hid hx
    obtain ⟨g, off, rfl, hg, c0, c1⟩ := (HRW.out.only hch.on HRX.out).2 i x hx
    have hal := (Below.refl wr.heap.size wr).alloc (Nat.le_refl _) (.cells #[.int .i64 x.f, .int .i64 x.t] 33)
    have HA := Lib.hid hal
    have b0 : (wr.alloc (.cells #[.int .i64 x.f, .int .i64 x.t] 33)).cell? ⟨w.heap.size, 0, none⟩ = some (.int .i64 b.f) := (hch.b0.alloc _).cell (i := 0) rfl
    have b1 : (wr.alloc (.cells #[.int .i64 x.f, .int .i64 x.t] 33)).cell? ⟨w.heap.size, 1, none⟩ = some (.int .i64 b.t) := (hch.b0.alloc _).cell (i := 1) rfl
    have hxa := hch.x.alloc (.cells #[.int .i64 x.f, .int .i64 x.t] 33)
    have HXA := Lib.hid hxa
    clear hx hch hal hxa
    go_wp2_with fail
    clear b0 b1 c0 c1
    change Calls Try.prog 32 #[x.val, b.val, .pointer (some ⟨X, 0, none⟩)] _ _
    refine (add1_c x b _ X _ HXA.out).mono ?_
    rintro e w2 ⟨⟨A, m, ca, rfl, hsp⟩, hx2, ho2⟩
    have HO2 := Lib.hid ((Only.of_below HA.out X).trans ho2)
    have HW := Lib.hid (HS.out.own.only HO2.out (by omega))
    obtain ⟨K, hK⟩ : ∃ K, K = (if apartB x b then [x] else []) := ⟨_, rfl⟩
    rw [← hK] at hsp
    have HK := Lib.hid hK
    have hKl : K.length ≤ 1 := by rw [hK]; split <;> simp
    have HSP := Lib.hid hsp
    have HX2 := Lib.hid hx2
    have hkl := kept_len (l.take i) b
    rw [List.length_take] at hkl
    have hm1 : m ≤ 1 := by have := hsp.1; omega
    have hsz : (kept (l.take i) b).length + m ≤ 1000000000 := by omega
    have hbase : w.heap.size + 1 ≤ w2.heap.size := by have := HS.out.b0.lt; have := HO2.out.size; omega
    clear hsp hx2 ho2 hK hKl
    go_wp2_with (at_builtin; refine wpl_append_sps rfl _ _ 49 22 33 rfl Try.underlying49 Try.underlying22 (w.heap.size + 1) _ _ rfl HW.out A m ca _ rfl HSP.out hsz hbase ?_)
    intro v3 w3 ho3 hg3
    have hb3 := ownR_grown HW.out hg3 (Nat.le_refl _) hbase
    have HO3 := Lib.hid ho3
    have HB3 := Lib.hid hb3
    clear ho3 hg3 hb3
    go_wp2_with fail
    go_roundw
    case rel =>
      have o2 := HS.out.on.trans HO2.out
      refine ⟨i + 1, by omega, by go_num, ?_, ?_, ?_, ?_, ?_⟩
      · rw [kept_take b HX.out, ← HK.out]; exact HO3.out
      · rw [grown_take b y HX.out]; exact HX2.out.below HB3.out (by omega)
      · exact (HO2.out.blk HS.out.blk hpX).below HB3.out (by omega)
      · exact (HO2.out.blk HS.out.b0 (by omega)).below HB3.out (by omega)
      · exact o2.behind HB3.out (by omega)
    case measure => simp [intOf]; omega
  · obtain rfl : i = n := by omega
    have HT : Hid (l.take i = l) := Lib.hid (List.take_of_length_le (by have := HN.out; omega))
    have hji : ¬ ((i : Int) < (i : Int)) := by omega
    have fz := hch.blk.frozen
    have d0 : wr.cell? ⟨p, 0, none⟩ = some (.slice a i c) := hch.blk.cell (i := 0) rfl
    obtain ⟨A, ca, hv, hca, hsp, _⟩ := hch.own.sps
    obtain ⟨kl, hkl⟩ : ∃ kl, kl = (kept (l.take i) b).length := ⟨_, rfl⟩
    have HKL := Lib.hid hkl
    rw [← hkl] at hv
    have HV := Lib.hid hv
    subst hv
    have HST : Hid (Blk (wr.setCell ⟨p, 0, none⟩ (.slice A kl ca)) p 51 #[.slice A kl ca, .bool true]) := Lib.hid (hch.blk.set 0 _)
    clear hch hkl hsp hca
    go_wp2_with fail
    have ho1 := (Only.refl p wr).setCell (p := ⟨p, 0, none⟩) (.inl rfl) (.slice A kl ca)
    have hx := HS.out.x
    have hw := HS.out.own
    rw [HT.out] at hx hw
    refine bodyPost_end (results_none rfl _ _ _) rfl ⟨rfl, ⟨_, hw.only ho1 (by omega), HST.out⟩, ho1.blk hx (fun e => hpX e.symm), ?_⟩
    exact (HS.out.on.tch.mono (fun i _ e => .inr e)).setCell (.inl (.inl rfl)) _
end Go.Proofs.Ytlgpoaapmgcloaa
