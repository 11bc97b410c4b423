/- Contracts: a token is opened. What is made opens, as long as the key is kept: plain. -/
import Derived.Test.YtomnjhhpeglcnaaGreatZy
namespace Go.Proofs.YtomnjhhpeglcnaaGreat
open Go.RowKit
set_option linter.unusedSimpArgs false
set_option linter.unusedVariables false
set_option maxRecDepth 100000

theorem tcells_no (a b c : Int) : ∀ (i : Nat) (y : Int), (tcells a b c)[i]? ≠ some (.int .u8 y) := by
  intro i y e
  match i with
  | 0 => simp [tcells] at e
  | 1 => simp [tcells] at e
  | 2 => simp [tcells] at e
  | j + 3 => simp [tcells] at e
/-- What Open holds at first. -/
structure OpB (w : World) (p : Nat) (k : KS) (a b c x : Int) (W : World) : Prop where
  bt : Blk W w.heap.size 31 (tcells a b c)
  be : Blk W (w.heap.size + 1) 32 #[.int .i64 x]
  keys : IsKeys W p k
  bel : Below w.heap.size w W
theorem OpB.below {w W W' : World} {p : Nat} {k : KS} {a b c x : Int} (h : OpB w p k a b c x W) (hb : Below W.heap.size W W') : OpB w p k a b c x W' :=
  ⟨h.bt.below hb h.bt.lt, h.be.below hb h.be.lt, h.keys.below hb, h.bel.trans (hb.mono h.bel.size)⟩
theorem OpB.err {w W : World} {p : Nat} {k : KS} {a b c x : Int} (h : OpB w p k a b c x W) (hp : p < w.heap.size) (y : Int) : OpB w p k a b c y (W.setCell ⟨w.heap.size + 1, 0, none⟩ (.int .i64 y)) := by
  have ht := (Tch.refl (fun i => i = w.heap.size + 1) W).setCell (p := ⟨w.heap.size + 1, 0, none⟩) (.inl rfl) (.int .i64 y)
  exact ⟨ht.blk h.bt (by omega), h.be.set 0 _, ⟨ht.blk h.keys.blk (by omega), h.keys.pos, h.keys.len, h.keys.may⟩, h.bel.setCell (by simp) _⟩
/-- What Open holds as it reads. -/
structure OpR (w : World) (p : Nat) (k : KS) (a b c : Int) (A : Option Addr) (n : Nat) (l : List By) (rp X : Nat) (s : RS) (W : World) : Prop where
  o : OpB w p k a b c 0 W
  by_ : Bys W A n l
  rd : IsRd W rp s
  bx : Blk W X 68 #[.pointer (some ⟨rp, 0, none⟩)]
  lo : w.heap.size + 2 ≤ rp
  ne : X ≠ rp
  hX : w.heap.size + 2 ≤ X
theorem OpR.num {w W W' : World} {p : Nat} {k : KS} {a b c : Int} {A : Option Addr} {n : Nat} {l : List By} {rp X : Nat} {s s' : RS} (h : OpR w p k a b c A n l rp X s W) (hp : p < w.heap.size) (hi : IsRd W' rp s') (ho : Only rp W W') : OpR w p k a b c A n l rp X s' W' := by
  obtain ⟨ra, rc, hr1, hr2, hr3⟩ := h.rd
  have lo := h.lo
  refine ⟨⟨ho.blk h.o.bt (by omega), ho.blk h.o.be (by omega), ⟨ho.blk h.o.keys.blk (by omega), h.o.keys.pos, h.o.keys.len, h.o.keys.may⟩, h.o.bel.trans (ho.below h.o.bel.size (by omega))⟩, ?_, hi, ho.blk h.bx h.ne, lo, h.ne, h.hX⟩
  exact ho.tch.bys h.by_ (fun g off e hn => rd_apart hr1 h.by_ g off e hn)
theorem OpR.below {w W W' : World} {p : Nat} {k : KS} {a b c : Int} {A : Option Addr} {n : Nat} {l : List By} {rp X : Nat} {s : RS} (h : OpR w p k a b c A n l rp X s W) (hb : Below W.heap.size W W') : OpR w p k a b c A n l rp X s W' :=
  ⟨h.o.below hb, h.by_.below hb, h.rd.below hb, h.bx.below hb h.bx.lt, h.lo, h.ne, h.hX⟩
theorem OpR.tok {w W W' : World} {p : Nat} {k : KS} {a b c a' b' c' : Int} {A : Option Addr} {n : Nat} {l : List By} {rp X : Nat} {s : RS} (h : OpR w p k a b c A n l rp X s W) (hp : p < w.heap.size) (hb : Blk W' w.heap.size 31 (tcells a' b' c')) (ht : Tch (fun i => i = w.heap.size) W W') : OpR w p k a' b' c' A n l rp X s W' := by
  obtain ⟨ra, rc, hr1, hr2, hr3⟩ := h.rd
  have lo := h.lo
  have hX := h.hX
  refine ⟨⟨hb, ht.blk h.o.be (by omega), ⟨ht.blk h.o.keys.blk (by omega), h.o.keys.pos, h.o.keys.len, h.o.keys.may⟩, h.o.bel.trans (ht.below h.o.bel.size (fun i e => by omega))⟩, ?_, ⟨ra, rc, ht.blk hr1 (by omega), ?_, hr3⟩, ht.blk h.bx (by omega), lo, h.ne, hX⟩
  · exact ht.bys h.by_ (fun g off e hn => far_cells h.o.bt (tcells_no _ _ _) h.by_ g off e hn)
  · exact ht.bys hr2 (fun g off e hn => far_cells h.o.bt (tcells_no _ _ _) hr2 g off e hn)
theorem OpR.tok0 {w W : World} {p : Nat} {k : KS} {a b c : Int} {A : Option Addr} {n : Nat} {l : List By} {rp X : Nat} {s : RS} (h : OpR w p k a b c A n l rp X s W) (hp : p < w.heap.size) (y : Int) : OpR w p k y b c A n l rp X s (W.setCell ⟨w.heap.size, 0, none⟩ (.int .i64 y)) :=
  h.tok hp (h.o.bt.set 0 (.int .i64 y)) ((Tch.refl (fun i => i = w.heap.size) W).setCell (p := ⟨w.heap.size, 0, none⟩) (.inl rfl) _)
theorem OpR.tok1 {w W : World} {p : Nat} {k : KS} {a b c : Int} {A : Option Addr} {n : Nat} {l : List By} {rp X : Nat} {s : RS} (h : OpR w p k a b c A n l rp X s W) (hp : p < w.heap.size) (y : Int) : OpR w p k a y c A n l rp X s (W.setCell ⟨w.heap.size, 1, none⟩ (.int .i64 y)) :=
  h.tok hp (h.o.bt.set 1 (.int .i64 y)) ((Tch.refl (fun i => i = w.heap.size) W).setCell (p := ⟨w.heap.size, 1, none⟩) (.inl rfl) _)
theorem OpR.tok2 {w W : World} {p : Nat} {k : KS} {a b c : Int} {A : Option Addr} {n : Nat} {l : List By} {rp X : Nat} {s : RS} (h : OpR w p k a b c A n l rp X s W) (hp : p < w.heap.size) (y : Int) : OpR w p k a b y A n l rp X s (W.setCell ⟨w.heap.size, 2, none⟩ (.int .i64 y)) :=
  h.tok hp (h.o.bt.set 2 (.int .i64 y)) ((Tch.refl (fun i => i = w.heap.size) W).setCell (p := ⟨w.heap.size, 2, none⟩) (.inl rfl) _)
/-- A region out of which one may give up. -/
def PanR (D : List Deferred) (p4 p5 : Value) (R : List PanicEntry → World → Prop) (Q : Exit → Act → World → Prop) : Exit → Act → World → Prop
  | .normal, a, w => Q .normal a w
  | .panic c, a, w => a.defers = D ∧ a.tmps.getD 4 undef = p4 ∧ a.tmps.getD 5 undef = p5 ∧ R c w
  | _, _, _ => False
theorem PanR.to {D : List Deferred} {p4 p5 : Value} {R : List PanicEntry → World → Prop} {Q : Exit → Act → World → Prop} (h : ∀ c tm w, tm.getD 4 undef = p4 → tm.getD 5 undef = p5 → R c w → Q (.panic c) { tmps := tm, defers := D } w) : ∀ e a w, PanR D p4 p5 R Q e a w → Q e a w := by
  intro e a w hp
  cases e with
  | normal => exact hp
  | panic c =>
    obtain ⟨tm, df⟩ := a
    obtain ⟨h1, h2, h3, h4⟩ := hp
    simp only at h1
    subst h1
    exact h c tm w h2 h3 h4
  | _ => exact hp.elim
theorem PanR.put {D : List Deferred} {p4 p5 : Value} {R : List PanicEntry → World → Prop} {Q : Exit → Act → World → Prop} {d : Nat} {v : Value} {c : List PanicEntry} {a : Act} {w : World} (h4 : d ≠ 4) (h5 : d ≠ 5) (h : PanR D p4 p5 R Q (.panic c) (a.put (some d) v) w) : PanR D p4 p5 R Q (.panic c) a w := by
  obtain ⟨e1, e2, e3, e4⟩ := h
  refine ⟨e1, ?_, ?_, e4⟩
  · rw [← e2]; simp [Act.put, Array.getElem?_setIfInBounds, h4]
  · rw [← e3]; simp [Act.put, Array.getElem?_setIfInBounds, h5]

theorem rawG_len : ∀ (r : List By) (n h : Nat) (b : List By) (mf hf : Nat), rawG n h r = some (b, mf, hf) → b.length ≤ r.length
  | [], n, h, b, mf, hf, e => by
    rw [rawG] at e
    injection e with e
    injection e with e1 e2
    rw [← e1]; simp
  | c :: r, n, h, b, mf, hf, e => by
    cases hv : valS c with
    | none => rw [rawG_none r n h hv] at e; cases e
    | some v =>
      by_cases h3 : 3 ≤ h
      · rw [rawG_high r n h hv h3] at e
        cases hx : rawG ((n * 32 + v) % 2 ^ (h - 3)) (h - 3) r with
        | none => rw [hx] at e; cases e
        | some x =>
          obtain ⟨b', m', h'⟩ := x
          rw [hx] at e
          simp only [Option.map_some, Option.some.injEq, Prod.mk.injEq] at e
          obtain ⟨rfl, rfl, rfl⟩ := e
          have := rawG_len r _ _ _ _ _ hx
          simp only [List.length_cons]; omega
      · rw [rawG_low r n h hv h3] at e
        have := rawG_len r _ _ _ _ _ e
        simp only [List.length_cons]; omega
theorem unspellB_len {s b : List By} (h : unspellB s = some b) : b.length ≤ s.length := by
  unfold unspellB at h
  cases hr : rawG 0 0 s with
  | none => rw [hr] at h; cases h
  | some x =>
    obtain ⟨b', mf, hf⟩ := x
    rw [hr] at h
    simp only [Option.bind_some] at h
    split at h
    · injection h with h
      rw [← h]; exact rawG_len _ _ _ _ _ _ hr
    · cases h

theorem PanR.norm {D : List Deferred} {p4 p5 : Value} {R : List PanicEntry → World → Prop} {Q : Exit → Act → World → Prop} {a : Act} {w : World} (h : Q .normal a w) : PanR D p4 p5 R Q .normal a w := h

set_option maxHeartbeats 8000000 in
theorem open_c (p : Nat) (k : KS) (s : ByteArray) (w : World) (h : IsKeys w p k) (hf : k.first ≤ 1000000000) (hs : s.size ≤ 1000000) :
    Calls Tryz.prog 10 #[.pointer (some ⟨p, 0, none⟩), .string s] w fun e w' => e = .returned (.tuple #[(k.open_ (strB s)).1.val, .int .i64 (k.open_ (strB s)).2]) ∧ Below w.heap.size w w' := by
  have hmf : ∀ (fn : Fn) (first cap : Array Value) (w : World), (Instr.makeFunc fn first cap).run Tryz.prog w = .ok (.func fn first cap) w := fun _ _ _ _ => rfl
  have hp := h.blk.lt
  obtain ⟨RES, hRES⟩ : ∃ RES, RES = k.open_ (strB s) := ⟨_, rfl⟩
  have HRES := Lib.hid hRES
  rw [← hRES]
  have hb0 := ((Below.refl w.heap.size w).alloc (Nat.le_refl _) (.cells (tcells 0 0 0) 31)).alloc (by simp) (.cells #[.int .i64 0] 32)
  have HO0 : Hid (OpB w p k 0 0 0 0 ((w.alloc (.cells (tcells 0 0 0) 31)).alloc (.cells #[.int .i64 0] 32))) := Lib.hid ⟨(Blk.new _ _ _).alloc _, Blk.new2 _ _ _ _, h.below hb0, hb0⟩
  clear hRES h hb0
  go_enter_defers Tryz.func10, Tryz.ntmps10
  go_wp2_with fail
  change Calls Tryz.prog 32 _ ((w.alloc (.cells (tcells 0 0 0) 31)).alloc (.cells #[.int .i64 0] 32)) _
  generalize ((w.alloc (.cells (tcells 0 0 0) 31)).alloc (.cells #[.int .i64 0] 32)) = w1 at HO0 ⊢
  refine (tnone_no p k.first k.ms.length _ _ _ _ HO0.out.keys.blk HO0.out.keys.pos).mono ?_
  rintro e w' ⟨rfl, rfl⟩
  go_wp2_with fail
  refine (mustT_yes _ _).mono ?_
  rintro e w' ⟨rfl, rfl⟩
  have hsz : (strB s).length = s.size := strB_len s
  have HSZ := Lib.hid hsz
  clear hsz
  by_cases hlong : 200 < s.size
  · have q : ¬ (s.size : Int) ≤ 200 := by omega
    go_wp2_with fail
    rw [decide_eq_false (by omega : ¬ (s.size : Int) ≤ 200)]
    refine (mustT_no _ _).mono ?_
    rintro e w' ⟨rfl, rfl⟩
    refine leaves_cons (f := 29) (args := #[.pointer (some ⟨w.heap.size + 1, 0, none⟩), .func (.func 30) #[] #[.pointer (some ⟨w.heap.size, 0, none⟩)]]) (by simp) (by simp [go_sem]) ?_
    refine (openFail_c w _ 0 0 0 0 3 (HO0.out).bt (HO0.out).be (HO0.out).bel).mono ?_
    rintro e u' wz ⟨rfl, rfl, hbz, hez, hlz⟩
    have kz : wz.cell? ⟨w.heap.size + 1, 0, none⟩ = some (.int .i64 3) := hez.cell (i := 0) rfl
    have HRZ : RES = (Tok.zero, 3) := by
      rw [HRES.out]; unfold KS.open_; rw [HSZ.out, if_pos hlong]
    refine ⟨.tuple #[.agg (tcells 0 0 0), .int .i64 3], results_cell2c (p := 4) (q := 5) (ty := 31) (ty2 := 32) rfl _ _ w.heap.size (w.heap.size + 1) 31 _ _ _ rfl rfl hbz Tryz.underlying31 rfl info36 (by simp [go_sem, kz]), ?_, hlz⟩
    rw [HRZ]
    rfl
  have q : (s.size : Int) ≤ 200 := by omega
  have HRU : Hid ((∀ b, unspellB (strB s) = some b → RES = openTB k b) ∧ (unspellB (strB s) = none → RES = (Tok.zero, 160))) := Lib.hid ⟨fun b e => by rw [HRES.out]; unfold KS.open_; rw [HSZ.out, if_neg hlong, e], fun e => by rw [HRES.out]; unfold KS.open_; rw [HSZ.out, if_neg hlong, e]⟩
  clear HRES
  go_wp2_with fail
  refine (mustT_yes _ _).mono ?_
  rintro e w' ⟨rfl, rfl⟩
  go_wp2_with fail
  refine (unspell_c s _ hs).mono ?_
  rintro e w2 ⟨hb2, (⟨v2, l, hun, rfl, ho2⟩ | ⟨hun, rfl⟩)⟩
  rotate_left
  · have HO2 := Lib.hid (HO0.out.below hb2)
    have HUN := Lib.hid hun
    have ef := HO2.out.be.frozen 0
    have ec : w2.cell? ⟨w.heap.size + 1, 0, none⟩ = some (.int .i64 0) := HO2.out.be.cell (i := 0) rfl
    have HO3 := Lib.hid (HO2.out.err hp 160)
    clear hb2 hun
    go_wp2_with fail
    refine (mustT_no _ _).mono ?_
    rintro e w' ⟨rfl, rfl⟩
    clear ef ec
    refine leaves_cons (f := 29) (args := #[.pointer (some ⟨w.heap.size + 1, 0, none⟩), .func (.func 30) #[] #[.pointer (some ⟨w.heap.size, 0, none⟩)]]) (by simp) (by simp [go_sem]) ?_
    refine (openFail_c w _ 0 0 0 160 160 (HO3.out).bt (HO3.out).be (HO3.out).bel).mono ?_
    rintro e u' wz ⟨rfl, rfl, hbz, hez, hlz⟩
    have kz : wz.cell? ⟨w.heap.size + 1, 0, none⟩ = some (.int .i64 160) := hez.cell (i := 0) rfl
    have HRZ : RES = (Tok.zero, 160) := by
      exact HRU.out.2 HUN.out
    refine ⟨.tuple #[.agg (tcells 0 0 0), .int .i64 160], results_cell2c (p := 4) (q := 5) (ty := 31) (ty2 := 32) rfl _ _ w.heap.size (w.heap.size + 1) 31 _ _ _ rfl rfl hbz Tryz.underlying31 rfl info36 (by simp [go_sem, kz]), ?_, hlz⟩
    rw [HRZ]
    rfl
  have HUN := Lib.hid hun
  have HV2 : Hid (RES = openTB k l) := Lib.hid (HRU.out.1 l hun)
  have hll : l.length ≤ 200 := by have := unspellB_len hun; have := HSZ.out; omega
  obtain ⟨A, c2, hv2, hc2, hy2⟩ := ho2.bys
  obtain ⟨n, hn⟩ : ∃ n, n = l.length := ⟨_, rfl⟩
  rw [← hn] at hv2 hy2
  have HNL := Lib.hid hn
  have hn200 : n ≤ 200 := by omega
  subst hv2
  have HO2 := Lib.hid (HO0.out.below hb2)
  have ef := HO2.out.be.frozen 0
  have ec : w2.cell? ⟨w.heap.size + 1, 0, none⟩ = some (.int .i64 0) := HO2.out.be.cell (i := 0) rfl
  have HO3 := Lib.hid (HO2.out.err hp 0)
  have HY3 : Hid (Bys (w2.setCell ⟨w.heap.size + 1, 0, none⟩ (.int .i64 0)) A n l) := Lib.hid (((Tch.refl (fun i => i = w.heap.size + 1) w2).setCell (p := ⟨w.heap.size + 1, 0, none⟩) (.inl rfl) (.int .i64 0)).bys hy2 (fun g off e hn hg => far_cells HO2.out.be (one_cell (errAt_no 0)) hy2 g off e hn hg))
  clear hb2 hun ho2 hy2 hn hc2 HRU HO0 hll
  go_wp2_with fail
  refine (mustT_yes _ _).mono ?_
  rintro e w' ⟨rfl, rfl⟩
  clear ef ec HO2
  generalize w2.setCell ⟨w.heap.size + 1, 0, none⟩ (.int .i64 0) = w3 at HO3 HY3 ⊢
  go_wp2_with fail
  refine (read_c A n c2 l w3 HY3.out (by omega)).mono ?_
  rintro e w4 ⟨rp, rfl, hrp, hi4, hb4⟩
  have hal := (Below.refl w4.heap.size w4).alloc (Nat.le_refl _) (.cells #[.pointer (some ⟨rp, 0, none⟩)] 68)
  obtain ⟨X, hX⟩ : ∃ X, X = w4.heap.size := ⟨_, rfl⟩
  have HR0 : Hid (OpR w p k 0 0 0 A n l rp X ⟨l, 0⟩ (w4.alloc (.cells #[.pointer (some ⟨rp, 0, none⟩)] 68))) := Lib.hid (by
    have h1 := HO3.out.be.lt
    have h2 := hi4.lt
    have h3 := hb4.size
    subst hX
    exact ⟨(HO3.out.below hb4).below hal, (HY3.out.below hb4).below hal, hi4.below hal, Blk.new _ _ _, by omega, by omega, by omega⟩)
  have HXS := Lib.hid hX
  have xc : (w4.alloc (.cells #[.pointer (some ⟨rp, 0, none⟩)] 68)).cell? ⟨w4.heap.size, 0, none⟩ = some (.pointer (some ⟨rp, 0, none⟩)) := by rw [← hX]; exact HR0.out.bx.cell (i := 0) rfl
  clear hrp hi4 hb4 hal HO3 HY3 hX
  go_wp2_with fail
  rw [← HXS.out]
  clear xc HXS
  generalize w4.alloc (.cells #[.pointer (some ⟨rp, 0, none⟩)] 68) = w5 at HR0 ⊢
  obtain ⟨r1, hr1⟩ : ∃ r1, r1 = rnum ⟨l, 0⟩ most31 := ⟨_, rfl⟩
  obtain ⟨r2, hr2⟩ : ∃ r2, r2 = rnum r1.1 15 := ⟨_, rfl⟩
  obtain ⟨r3, hr3⟩ : ∃ r3, r3 = rnum r2.1 most31 := ⟨_, rfl⟩
  obtain ⟨r4, hr4⟩ : ∃ r4, r4 = rnum r3.1 most31 := ⟨_, rfl⟩
  have HDEF : Hid (openTB k l = if r1.2.2 ≠ 0 then (Tok.zero, 161) else if r2.2.2 ≠ 0 then (Tok.zero, 161) else if r3.2.2 ≠ 0 then (Tok.zero, 161) else if r4.2.2 ≠ 0 then (Tok.zero, 161) else if r4.1.l.length ≠ 16 then (Tok.zero, 161) else if ¬ (k.first ≤ r1.2.1 ∧ r1.2.1 ≤ k.newest) then (Tok.zero, 162) else if taggedB (k.at_ (r1.2.1 - k.first)) (laidN [(r1.2.1 : Int), (r2.2.1 : Int), (r3.2.1 : Int), (r4.2.1 : Int)]) = l then (⟨(r2.2.1 : Int), (r3.2.1 : Int), (r4.2.1 : Int)⟩, 0) else (Tok.zero, 161)) := Lib.hid (by rw [hr4, hr3, hr2, hr1]; rfl)
  have hl1 : r1.1.l.length ≤ 200 := by have := rnum_len ⟨l, 0⟩ most31; rw [← hr1] at this; have := HNL.out; simp only at *; omega
  have hl2 : r2.1.l.length ≤ 200 := by have := rnum_len r1.1 15; rw [← hr2] at this; omega
  have hl3 : r3.1.l.length ≤ 200 := by have := rnum_len r2.1 most31; rw [← hr3] at this; omega
  have hl4 : r4.1.l.length ≤ 200 := by have := rnum_len r3.1 most31; rw [← hr4] at this; omega
  have ht1 : (r1.2.1 : Int) ≤ 2147483647 := by have := rnum_top ⟨l, 0⟩ most31 (by decide); rw [← hr1] at this; exact this
  have ht2 : (r2.2.1 : Int) ≤ 15 := by have := rnum_top r1.1 15 (by decide); rw [← hr2] at this; exact this
  have ht3 : (r3.2.1 : Int) ≤ 2147483647 := by have := rnum_top r2.1 most31 (by decide); rw [← hr3] at this; exact this
  have ht4 : (r4.2.1 : Int) ≤ 2147483647 := by have := rnum_top r3.1 most31 (by decide); rw [← hr4] at this; exact this
  have HR1 := Lib.hid hr1; have HR2 := Lib.hid hr2; have HR3 := Lib.hid hr3; have HR4 := Lib.hid hr4
  clear hr1 hr2 hr3 hr4
  obtain ⟨x1, hx1⟩ : ∃ x1, x1 = r1.2.1 := ⟨_, rfl⟩
  obtain ⟨x2, hx2⟩ : ∃ x2, x2 = r2.2.1 := ⟨_, rfl⟩
  obtain ⟨x3, hx3⟩ : ∃ x3, x3 = r3.2.1 := ⟨_, rfl⟩
  obtain ⟨x4, hx4⟩ : ∃ x4, x4 = r4.2.1 := ⟨_, rfl⟩
  have HX1 := Lib.hid hx1; have HX2 := Lib.hid hx2; have HX3 := Lib.hid hx3; have HX4 := Lib.hid hx4
  rw [← hx1] at ht1; rw [← hx2] at ht2; rw [← hx3] at ht3; rw [← hx4] at ht4
  have HL2 := Lib.hid hl2; have HL3 := Lib.hid hl3; have HL4 := Lib.hid hl4
  clear hx1 hx2 hx3 hx4 hl2 hl3 hl4
  have hr0l : l.length ≤ 1000000000 := by have := HNL.out; omega
  refine (numT_c X rp ⟨l, 0⟩ most31 _ HR0.out.rd (by omega) (HR0.out.bx.cell (i := 0) rfl)).mono ?_
  rintro e w_1 ⟨⟨hi, ho⟩, hcase⟩
  rw [← HR1.out] at hi hcase
  have HA1 := Lib.hid (HR0.out.num hp hi ho)
  clear hi ho HR0
  rcases hcase with ⟨hz, rfl⟩ | ⟨hz, rfl⟩
  rotate_left
  · refine leaves_cons (f := 29) (args := #[.pointer (some ⟨w.heap.size + 1, 0, none⟩), .func (.func 30) #[] #[.pointer (some ⟨w.heap.size, 0, none⟩)]]) (by simp) (by simp [go_sem]) ?_
    refine (openFail_c w _ 0 0 0 0 161 (HA1.out.o).bt (HA1.out.o).be (HA1.out.o).bel).mono ?_
    rintro e u' wz ⟨rfl, rfl, hbz, hez, hlz⟩
    have kz : wz.cell? ⟨w.heap.size + 1, 0, none⟩ = some (.int .i64 161) := hez.cell (i := 0) rfl
    have HRZ : RES = (Tok.zero, 161) := by
      rw [HV2.out, HDEF.out, if_pos hz]
    refine ⟨.tuple #[.agg (tcells 0 0 0), .int .i64 161], results_cell2c (p := 4) (q := 5) (ty := 31) (ty2 := 32) rfl _ _ w.heap.size (w.heap.size + 1) 31 _ _ _ rfl rfl hbz Tryz.underlying31 rfl info36 (by simp [go_sem, kz]), ?_, hlz⟩
    rw [HRZ]
    rfl
  rw [← HX1.out]
  have HZ1 := Lib.hid hz
  clear hz
  go_wp2_with fail
  refine (numT_c X rp r1.1 15 _ HA1.out.rd (by omega) (HA1.out.bx.cell (i := 0) rfl)).mono ?_
  rintro e w_2 ⟨⟨hi, ho⟩, hcase⟩
  rw [← HR2.out] at hi hcase
  have HA2 := Lib.hid (HA1.out.num hp hi ho)
  clear hi ho HA1
  rcases hcase with ⟨hz, rfl⟩ | ⟨hz, rfl⟩
  rotate_left
  · refine leaves_cons (f := 29) (args := #[.pointer (some ⟨w.heap.size + 1, 0, none⟩), .func (.func 30) #[] #[.pointer (some ⟨w.heap.size, 0, none⟩)]]) (by simp) (by simp [go_sem]) ?_
    refine (openFail_c w _ 0 0 0 0 161 (HA2.out.o).bt (HA2.out.o).be (HA2.out.o).bel).mono ?_
    rintro e u' wz ⟨rfl, rfl, hbz, hez, hlz⟩
    have kz : wz.cell? ⟨w.heap.size + 1, 0, none⟩ = some (.int .i64 161) := hez.cell (i := 0) rfl
    have HRZ : RES = (Tok.zero, 161) := by
      rw [HV2.out, HDEF.out, if_neg (by rw [HZ1.out]; exact fun h => h rfl), if_pos hz]
    refine ⟨.tuple #[.agg (tcells 0 0 0), .int .i64 161], results_cell2c (p := 4) (q := 5) (ty := 31) (ty2 := 32) rfl _ _ w.heap.size (w.heap.size + 1) 31 _ _ _ rfl rfl hbz Tryz.underlying31 rfl info36 (by simp [go_sem, kz]), ?_, hlz⟩
    rw [HRZ]
    rfl
  rw [← HX2.out]
  have HZ2 := Lib.hid hz
  clear hz
  have f_ := HA2.out.o.bt.frozen 0
  have HB2 := Lib.hid (HA2.out.tok0 hp (x2 : Int))
  have c_ : w_2.cell? ⟨w.heap.size, 0, none⟩ = some (.int .i64 0) := HA2.out.o.bt.cell (i := 0) rfl
  go_wp2_with fail
  generalize w_2.setCell ⟨w.heap.size, 0, none⟩ (.int .i64 (x2 : Int)) = v_2 at HB2 ⊢
  clear f_ c_ HA2
  clear hl1
  have hl2 := HL2.out
  refine (numT_c X rp r2.1 most31 _ HB2.out.rd (by omega) (HB2.out.bx.cell (i := 0) rfl)).mono ?_
  rintro e w_3 ⟨⟨hi, ho⟩, hcase⟩
  rw [← HR3.out] at hi hcase
  have HA3 := Lib.hid (HB2.out.num hp hi ho)
  clear hi ho HB2
  rcases hcase with ⟨hz, rfl⟩ | ⟨hz, rfl⟩
  rotate_left
  · refine leaves_cons (f := 29) (args := #[.pointer (some ⟨w.heap.size + 1, 0, none⟩), .func (.func 30) #[] #[.pointer (some ⟨w.heap.size, 0, none⟩)]]) (by simp) (by simp [go_sem]) ?_
    refine (openFail_c w _ x2 0 0 0 161 (HA3.out.o).bt (HA3.out.o).be (HA3.out.o).bel).mono ?_
    rintro e u' wz ⟨rfl, rfl, hbz, hez, hlz⟩
    have kz : wz.cell? ⟨w.heap.size + 1, 0, none⟩ = some (.int .i64 161) := hez.cell (i := 0) rfl
    have HRZ : RES = (Tok.zero, 161) := by
      rw [HV2.out, HDEF.out, if_neg (by rw [HZ1.out]; exact fun h => h rfl), if_neg (by rw [HZ2.out]; exact fun h => h rfl), if_pos hz]
    refine ⟨.tuple #[.agg (tcells 0 0 0), .int .i64 161], results_cell2c (p := 4) (q := 5) (ty := 31) (ty2 := 32) rfl _ _ w.heap.size (w.heap.size + 1) 31 _ _ _ rfl rfl hbz Tryz.underlying31 rfl info36 (by simp [go_sem, kz]), ?_, hlz⟩
    rw [HRZ]
    rfl
  rw [← HX3.out]
  have HZ3 := Lib.hid hz
  clear hz
  have f_ := HA3.out.o.bt.frozen 1
  have HB3 := Lib.hid (HA3.out.tok1 hp (x3 : Int))
  have c_ : w_3.cell? ⟨w.heap.size, 1, none⟩ = some (.int .i64 0) := HA3.out.o.bt.cell (i := 1) rfl
  go_wp2_with fail
  generalize w_3.setCell ⟨w.heap.size, 1, none⟩ (.int .i64 (x3 : Int)) = v_3 at HB3 ⊢
  clear f_ c_ HA3
  clear hl2
  have hl3 := HL3.out
  refine (numT_c X rp r3.1 most31 _ HB3.out.rd (by omega) (HB3.out.bx.cell (i := 0) rfl)).mono ?_
  rintro e w_4 ⟨⟨hi, ho⟩, hcase⟩
  rw [← HR4.out] at hi hcase
  have HA4 := Lib.hid (HB3.out.num hp hi ho)
  clear hi ho HB3
  rcases hcase with ⟨hz, rfl⟩ | ⟨hz, rfl⟩
  rotate_left
  · refine leaves_cons (f := 29) (args := #[.pointer (some ⟨w.heap.size + 1, 0, none⟩), .func (.func 30) #[] #[.pointer (some ⟨w.heap.size, 0, none⟩)]]) (by simp) (by simp [go_sem]) ?_
    refine (openFail_c w _ x2 x3 0 0 161 (HA4.out.o).bt (HA4.out.o).be (HA4.out.o).bel).mono ?_
    rintro e u' wz ⟨rfl, rfl, hbz, hez, hlz⟩
    have kz : wz.cell? ⟨w.heap.size + 1, 0, none⟩ = some (.int .i64 161) := hez.cell (i := 0) rfl
    have HRZ : RES = (Tok.zero, 161) := by
      rw [HV2.out, HDEF.out, if_neg (by rw [HZ1.out]; exact fun h => h rfl), if_neg (by rw [HZ2.out]; exact fun h => h rfl), if_neg (by rw [HZ3.out]; exact fun h => h rfl), if_pos hz]
    refine ⟨.tuple #[.agg (tcells 0 0 0), .int .i64 161], results_cell2c (p := 4) (q := 5) (ty := 31) (ty2 := 32) rfl _ _ w.heap.size (w.heap.size + 1) 31 _ _ _ rfl rfl hbz Tryz.underlying31 rfl info36 (by simp [go_sem, kz]), ?_, hlz⟩
    rw [HRZ]
    rfl
  rw [← HX4.out]
  have HZ4 := Lib.hid hz
  clear hz
  have f_ := HA4.out.o.bt.frozen 2
  have HB4 := Lib.hid (HA4.out.tok2 hp (x4 : Int))
  have c_ : w_4.cell? ⟨w.heap.size, 2, none⟩ = some (.int .i64 0) := HA4.out.o.bt.cell (i := 2) rfl
  have xc : (w_4.setCell ⟨w.heap.size, 2, none⟩ (.int .i64 (x4 : Int))).cell? ⟨X, 0, none⟩ = some (.pointer (some ⟨rp, 0, none⟩)) := HB4.out.bx.cell (i := 0) rfl
  go_wp2_with fail
  generalize w_4.setCell ⟨w.heap.size, 2, none⟩ (.int .i64 (x4 : Int)) = v_4 at HB4 ⊢
  clear f_ c_ xc HA4
  refine (left_c rp r4.1 _ HB4.out.rd).mono ?_
  rintro e w' ⟨rfl, rfl⟩
  have HDE2 : Hid (openTB k l = if r4.1.l.length ≠ 16 then (Tok.zero, 161) else if ¬ (k.first ≤ x1 ∧ x1 ≤ k.newest) then (Tok.zero, 162) else if taggedB (k.at_ (x1 - k.first)) (laidN [(x1 : Int), (x2 : Int), (x3 : Int), (x4 : Int)]) = l then (⟨(x2 : Int), (x3 : Int), (x4 : Int)⟩, 0) else (Tok.zero, 161)) := Lib.hid (by rw [HDEF.out, if_neg (by rw [HZ1.out]; exact fun h => h rfl), if_neg (by rw [HZ2.out]; exact fun h => h rfl), if_neg (by rw [HZ3.out]; exact fun h => h rfl), if_neg (by rw [HZ4.out]; exact fun h => h rfl), HX1.out, HX2.out, HX3.out, HX4.out])
  clear HDEF HZ1 HZ2 HZ3 HZ4 HX1 HX2 HX3 HX4 HR1 HR2 HR3 HR4 HL2 HL3 HL4
  by_cases h16 : r4.1.l.length = 16
  rotate_left
  · have q : ((r4.1.l.length : Int) == 16) = false := by rw [beq_eq_false_iff_ne]; omega
    go_wp2_with fail
    refine (mustT_no _ _).mono ?_
    rintro e w' ⟨rfl, rfl⟩
    refine leaves_cons (f := 29) (args := #[.pointer (some ⟨w.heap.size + 1, 0, none⟩), .func (.func 30) #[] #[.pointer (some ⟨w.heap.size, 0, none⟩)]]) (by simp) (by simp [go_sem]) ?_
    refine (openFail_c w _ x2 x3 x4 0 161 (HB4.out.o).bt (HB4.out.o).be (HB4.out.o).bel).mono ?_
    rintro e u' wz ⟨rfl, rfl, hbz, hez, hlz⟩
    have kz : wz.cell? ⟨w.heap.size + 1, 0, none⟩ = some (.int .i64 161) := hez.cell (i := 0) rfl
    have HRZ : RES = (Tok.zero, 161) := by
      rw [HV2.out, HDE2.out, if_pos h16]
    refine ⟨.tuple #[.agg (tcells 0 0 0), .int .i64 161], results_cell2c (p := 4) (q := 5) (ty := 31) (ty2 := 32) rfl _ _ w.heap.size (w.heap.size + 1) 31 _ _ _ rfl rfl hbz Tryz.underlying31 rfl info36 (by simp [go_sem, kz]), ?_, hlz⟩
    rw [HRZ]
    rfl
  have q : ((r4.1.l.length : Int) == 16) = true := by rw [beq_iff_eq]; omega
  have H16 := Lib.hid h16
  clear h16
  go_wp2_with fail
  refine (mustT_yes _ _).mono ?_
  rintro e w' ⟨rfl, rfl⟩
  have kc0 : v_4.cell? ⟨p, 0, none⟩ = some (.int .i64 (k.first : Int)) := (kc_cells HB4.out.o.keys.blk).1
  by_cases hlo : k.first ≤ x1
  rotate_left
  · have q2 : ¬ ((k.first : Int) ≤ (x1 : Int)) := by omega
    have HLO := Lib.hid hlo
    clear hlo
    go_wp2_with fail
    refine (mustT_no _ _).mono ?_
    rintro e w' ⟨rfl, rfl⟩
    refine leaves_cons (f := 29) (args := #[.pointer (some ⟨w.heap.size + 1, 0, none⟩), .func (.func 30) #[] #[.pointer (some ⟨w.heap.size, 0, none⟩)]]) (by simp) (by simp [go_sem]) ?_
    refine (openFail_c w _ x2 x3 x4 0 162 (HB4.out.o).bt (HB4.out.o).be (HB4.out.o).bel).mono ?_
    rintro e u' wz ⟨rfl, rfl, hbz, hez, hlz⟩
    have kz : wz.cell? ⟨w.heap.size + 1, 0, none⟩ = some (.int .i64 162) := hez.cell (i := 0) rfl
    have HRZ : RES = (Tok.zero, 162) := by
      rw [HV2.out, HDE2.out, if_neg (by rw [H16.out]; exact fun h => h rfl), if_pos (fun h => HLO.out h.1)]
    refine ⟨.tuple #[.agg (tcells 0 0 0), .int .i64 162], results_cell2c (p := 4) (q := 5) (ty := 31) (ty2 := 32) rfl _ _ w.heap.size (w.heap.size + 1) 31 _ _ _ rfl rfl hbz Tryz.underlying31 rfl info36 (by simp [go_sem, kz]), ?_, hlz⟩
    rw [HRZ]
    rfl
  have q2 : ((k.first : Int) ≤ (x1 : Int)) := by omega
  have HLO := Lib.hid hlo
  go_wp2_with fail
  refine (newestk_c p k _ HB4.out.o.keys hf).mono ?_
  rintro e w_n ⟨rfl, hbn⟩
  have HB5 := Lib.hid (HB4.out.below hbn)
  clear hbn HB4 kc0
  obtain ⟨NW, hNW⟩ : ∃ NW, NW = k.newest := ⟨_, rfl⟩
  have HNW := Lib.hid hNW
  rw [← hNW]
  clear hNW
  by_cases hhi : x1 ≤ NW
  rotate_left
  · have q3 : ¬ ((x1 : Int) ≤ (NW : Int)) := by omega
    have HHI := Lib.hid hhi
    clear hhi
    go_wp2_with fail
    rw [decide_eq_false (by omega : ¬ x1 ≤ NW)]
    refine (mustT_no _ _).mono ?_
    rintro e w' ⟨rfl, rfl⟩
    refine leaves_cons (f := 29) (args := #[.pointer (some ⟨w.heap.size + 1, 0, none⟩), .func (.func 30) #[] #[.pointer (some ⟨w.heap.size, 0, none⟩)]]) (by simp) (by simp [go_sem]) ?_
    refine (openFail_c w _ x2 x3 x4 0 162 (HB5.out.o).bt (HB5.out.o).be (HB5.out.o).bel).mono ?_
    rintro e u' wz ⟨rfl, rfl, hbz, hez, hlz⟩
    have kz : wz.cell? ⟨w.heap.size + 1, 0, none⟩ = some (.int .i64 162) := hez.cell (i := 0) rfl
    have HRZ : RES = (Tok.zero, 162) := by
      rw [HV2.out, HDE2.out, if_neg (by rw [H16.out]; exact fun h => h rfl), if_pos (fun h => HHI.out (by rw [HNW.out]; exact h.2))]
    refine ⟨.tuple #[.agg (tcells 0 0 0), .int .i64 162], results_cell2c (p := 4) (q := 5) (ty := 31) (ty2 := 32) rfl _ _ w.heap.size (w.heap.size + 1) 31 _ _ _ rfl rfl hbz Tryz.underlying31 rfl info36 (by simp [go_sem, kz]), ?_, hlz⟩
    rw [HRZ]
    rfl
  have q3 : ((x1 : Int) ≤ (NW : Int)) := by omega
  have HHI : Hid (x1 ≤ k.newest) := Lib.hid (by rw [← HNW.out]; exact hhi)
  clear hhi
  go_wp2_with fail
  refine (mustT_yes _ _).mono ?_
  rintro e w' ⟨rfl, rfl⟩
  have HDE3 : Hid (openTB k l = if taggedB (k.at_ (x1 - k.first)) (laidN [(x1 : Int), (x2 : Int), (x3 : Int), (x4 : Int)]) = l then (⟨(x2 : Int), (x3 : Int), (x4 : Int)⟩, 0) else (Tok.zero, 161)) := Lib.hid (by rw [HDE2.out, if_neg (by rw [H16.out]; exact fun h => h rfl), if_neg (fun h => h ⟨HLO.out, HHI.out⟩)])
  clear HDE2 q q2 q3
  go_wp2_with fail
  refine wp_mono (Q := PanR [{ target := .fn (.func 29) #[], args := #[.pointer (some ⟨w.heap.size + 1, 0, none⟩), .func (.func 30) #[] #[.pointer (some ⟨w.heap.size, 0, none⟩)]] }] (.pointer (some ⟨w.heap.size, 0, none⟩)) (.pointer (some ⟨w.heap.size + 1, 0, none⟩)) (fun c W => c = gaveT 161 ∧ OpB w p k x2 x3 x4 0 W ∧ RES = (Tok.zero, 161)) _) ?_ (PanR.to ?pan)
  case pan =>
    rintro c tm wy h4 h5 ⟨rfl, hob, hres⟩
    refine leaves_cons (f := 29) (args := #[.pointer (some ⟨w.heap.size + 1, 0, none⟩), .func (.func 30) #[] #[.pointer (some ⟨w.heap.size, 0, none⟩)]]) (by simp) (by simp [go_sem]) ?_
    refine (openFail_c w _ x2 x3 x4 0 161 (hob).bt (hob).be (hob).bel).mono ?_
    rintro e u' wz ⟨rfl, rfl, hbz, hez, hlz⟩
    have kz : wz.cell? ⟨w.heap.size + 1, 0, none⟩ = some (.int .i64 161) := hez.cell (i := 0) rfl
    have HRZ : RES = (Tok.zero, 161) := by
      exact hres
    refine ⟨.tuple #[.agg (tcells 0 0 0), .int .i64 161], results_cell2c (p := 4) (q := 5) (ty := 31) (ty2 := 32) rfl _ _ w.heap.size (w.heap.size + 1) 31 _ _ _ h4 h5 hbz Tryz.underlying31 rfl info36 (by simp [go_sem, kz]), ?_, hlz⟩
    rw [HRZ]
    rfl
  have hS0 : OpR w p k x2 x3 x4 A n l rp X r4.1 w_n.drew := HB5.out.below (Below.refl w_n.heap.size w_n).drew
  clear HB5
  refine wp_region_held_drew (S := (OpR w p k x2 x3 x4 A n l rp X r4.1)) (by kernel_rfl) hS0 ?_
  intro hS0'
  refine wpAnyH_take (i := 0) (v := .pointer (some ⟨p, 0, none⟩)) rfl (by kernel_rfl) (by kernel_rfl) (by kernel_rfl) (fun _ _ _ h => PanR.put (by decide) (by decide) h) (Or.inl ⟨by kernel_rfl, fun w hSw => ?_⟩) hS0' ?_
  · go_simp
  try simp only [Act.put, List.getElem_toArray, List.getElem_cons_succ, List.getElem_cons_zero, List.setIfInBounds_toArray, List.set_cons_zero, List.set_cons_succ]
  refine wpAnyH_take (i := 1) (v := .int .i64 (x1 : Int)) rfl (by kernel_rfl) (by kernel_rfl) (by kernel_rfl) (fun _ _ _ h => PanR.put (by decide) (by decide) h) (Or.inl ⟨by kernel_rfl, fun w hSw => ?_⟩) hS0' ?_
  · go_simp
  try simp only [Act.put, List.getElem_toArray, List.getElem_cons_succ, List.getElem_cons_zero, List.setIfInBounds_toArray, List.set_cons_zero, List.set_cons_succ]
  refine wpAnyH_take (i := 2) (v := .agg (tcells x2 x3 x4)) rfl (by kernel_rfl) (by kernel_rfl) (by kernel_rfl) (fun _ _ _ h => PanR.put (by decide) (by decide) h) ?_ hS0' ?_
  · exact yieldsIf_load_blk (by kernel_rfl) 31 (.tmp 4) (by kernel_rfl) w.heap.size (by kernel_rfl) 31 (tcells x2 x3 x4) _ (fun _ h => h.o.bt) Tryz.underlying31 rfl info36
  try simp only [Act.put, List.getElem_toArray, List.getElem_cons_succ, List.getElem_cons_zero, List.setIfInBounds_toArray, List.set_cons_zero, List.set_cons_succ]
  refine wpAnyH_take (i := 5) (v := .slice A n c2) rfl (by kernel_rfl) (by kernel_rfl) (by kernel_rfl) (fun _ _ _ h => PanR.put (by decide) (by decide) h) (Or.inl ⟨by kernel_rfl, fun w hSw => ?_⟩) hS0' ?_
  · go_simp
  try simp only [Act.put, List.getElem_toArray, List.getElem_cons_succ, List.getElem_cons_zero, List.setIfInBounds_toArray, List.set_cons_zero, List.set_cons_succ]
  refine wpAnyH_take (i := 6) (v := .string (strOf l)) rfl (by kernel_rfl) (by kernel_rfl) (by kernel_rfl) (fun _ _ _ h => PanR.put (by decide) (by decide) h) (Or.inl ⟨by kernel_rfl, fun w hSw => ?_⟩) hS0' ?_
  · have hrs := run_str w A n c2 l hSw.by_
    go_simp
  try simp only [Act.put, List.getElem_toArray, List.getElem_cons_succ, List.getElem_cons_zero, List.setIfInBounds_toArray, List.set_cons_zero, List.set_cons_succ]
  refine wpAnyH_ready (rs := [3]) (by kernel_rfl) (by simp) ?_
  refine AllReadyH.cons (by rfl) ?_ AllReadyH.nil
  intro K hK
  go_simp
  refine (with_c p k (x1 - k.first) (x1 : Int) x2 x3 x4 _ hS0'.o.keys (by have := HHI.out; have := HLO.out; have := hS0'.o.keys.pos; unfold KS.newest at *; omega) (by have := HLO.out; omega) hf (by simp [okN, numOk]; omega)).mono ?_
  rintro e w5 ⟨v5, rfl, ho5, hb5⟩
  obtain ⟨L, hL⟩ : ∃ L, L = taggedB (k.at_ (x1 - k.first)) (laidN [(x1 : Int), (x2 : Int), (x3 : Int), (x4 : Int)]) := ⟨_, rfl⟩
  have HL := Lib.hid hL
  rw [← hL] at ho5
  obtain ⟨a5, c5, hv5, hc5, hy5⟩ := ho5.bys
  obtain ⟨n5, hn5⟩ : ∃ n5, n5 = L.length := ⟨_, rfl⟩
  rw [← hn5] at hv5 hy5
  subst hv5
  have hrs5 := run_str _ a5 n5 c5 L hy5
  obtain ⟨bb, hbb⟩ : ∃ bb : Bool, bb = ((strOf L).toList == (strOf l).toList) := ⟨_, rfl⟩
  have HBB := Lib.hid hbb
  have hbb2 := hbb.symm
  clear hL hn5 hy5 hc5 ho5 hbb
  refine hK.out _ _ (hS0'.below hb5) (fun hS1 => ?_)
  clear hK K
  refine wpAnyH_ready (rs := [4]) (by kernel_rfl) (by simp) ?_
  refine AllReadyH.cons (by rfl) ?_ AllReadyH.nil
  intro K hK
  go_simp
  refine hK.out _ _ hS1 (fun hS2 => ?_)
  clear hK K
  refine wpAnyH_take (i := 7) (v := .bool bb) rfl (by kernel_rfl) (by kernel_rfl) (by kernel_rfl) (fun _ _ _ h => PanR.put (by decide) (by decide) h) (Or.inl ⟨by kernel_rfl, fun w hSw => ?_⟩) hS2 ?_
  · go_simp
  try simp only [Act.put, List.getElem_toArray, List.getElem_cons_succ, List.getElem_cons_zero, List.setIfInBounds_toArray, List.set_cons_zero, List.set_cons_succ]
  refine wpAnyH_ready (rs := [8]) (by kernel_rfl) (by simp) ?_
  refine AllReadyH.cons (by rfl) ?_ AllReadyH.nil
  intro K hK
  go_simp
  by_cases hb1 : bb = true
  rotate_left
  · have hb0 : bb = false := by simpa using hb1
    subst hb0
    refine (mustT_no _ _).mono ?_
    rintro e w' ⟨rfl, rfl⟩
    refine ⟨rfl, rfl, rfl, rfl, hS2.o, ?_⟩
    have e1 := HBB.out
    rw [str_eq] at e1
    rw [HV2.out, HDE3.out, if_neg (fun h => (of_decide_eq_false e1.symm) (by rw [HL.out]; exact h))]
  subst hb1
  refine (mustT_yes _ _).mono ?_
  rintro e w' ⟨rfl, rfl⟩
  refine hK.out _ _ hS2 (fun hS3 => ?_)
  clear hK K
  refine wpAnyH_done (by kernel_rfl) ?_ _
  have HRR : Hid (RES = (⟨(x2 : Int), (x3 : Int), (x4 : Int)⟩, 0)) := Lib.hid (by
    have e1 := HBB.out
    rw [str_eq] at e1
    rw [HV2.out, HDE3.out, if_pos (by rw [← HL.out]; exact of_decide_eq_true e1.symm)])
  have HOF := Lib.hid (hS3).o
  clear hbb2 hrs5 hS0'
  refine PanR.norm ?_
  go_wp2_with (first | (refine wpl_load_blk rfl 31 _ rfl w.heap.size rfl 31 _ _ HOF.out.bt Tryz.underlying31 rfl info36 ?_) | (refine wpl_store_blk rfl 31 _ _ rfl w.heap.size 31 (tcells x2 x3 x4) (tcells x2 x3 x4) rfl rfl HOF.out.bt rfl info36 (by kernel_rfl) ?_; intro w8 hB8 hO8 hz8; have hE8 : Blk w8 (w.heap.size + 1) 32 #[.int .i64 0] := hO8.blk HOF.out.be (by omega); have ef8 := hE8.frozen 0; have ec8 : w8.cell? ⟨w.heap.size + 1, 0, none⟩ = some (.int .i64 0) := hE8.cell (i := 0) rfl))
  have hE9 : Blk (w8.setCell ⟨w.heap.size + 1, 0, none⟩ (.int .i64 0)) (w.heap.size + 1) 32 #[.int .i64 0] := hE8.set 0 _
  have hB9 : Blk (w8.setCell ⟨w.heap.size + 1, 0, none⟩ (.int .i64 0)) w.heap.size 31 (tcells x2 x3 x4) := hB8.far (p := ⟨w.heap.size + 1, 0, none⟩) (by simp) _
  have hl9 : Below w.heap.size w (w8.setCell ⟨w.heap.size + 1, 0, none⟩ (.int .i64 0)) := (HOF.out.bel.trans (hO8.below (B := w.heap.size) HOF.out.bel.size (Nat.le_refl _))).setCell (by simp) _
  generalize w8.setCell ⟨w.heap.size + 1, 0, none⟩ (.int .i64 0) = w9 at hE9 hB9 hl9 ⊢
  refine leaves_cons (f := 29) (args := #[.pointer (some ⟨w.heap.size + 1, 0, none⟩), .func (.func 30) #[] #[.pointer (some ⟨w.heap.size, 0, none⟩)]]) (by simp) (by simp [go_sem]) ?_
  refine (caughtT_idle _ _ _).mono ?_
  rintro e u' wz ⟨rfl, rfl, rfl⟩
  have kz : wz.cell? ⟨w.heap.size + 1, 0, none⟩ = some (.int .i64 0) := hE9.cell (i := 0) rfl
  refine ⟨.tuple #[.agg (tcells x2 x3 x4), .int .i64 0], results_cell2c (p := 4) (q := 5) (ty := 31) (ty2 := 32) rfl _ _ w.heap.size (w.heap.size + 1) 31 _ _ _ rfl rfl hB9 Tryz.underlying31 rfl info36 (by simp [go_sem, kz]), ?_, hl9⟩
  rw [HRR.out]
  rfl
set_option maxHeartbeats 2000000 in
theorem open_none (v : Value) (s : ByteArray) (w : World) (h : ∀ W, Below w.heap.size w W → Calls Tryz.prog 32 #[v] W fun e w' => e = .returned (.bool true) ∧ W = w') :
    Calls Tryz.prog 10 #[v, .string s] w fun e w' => e = .returned (.tuple #[Tok.zero.val, .int .i64 1]) ∧ Below w.heap.size w w' := by
  have hmf : ∀ (fn : Fn) (first cap : Array Value) (w : World), (Instr.makeFunc fn first cap).run Tryz.prog w = .ok (.func fn first cap) w := fun _ _ _ _ => rfl
  have hb0 := ((Below.refl w.heap.size w).alloc (Nat.le_refl _) (.cells (tcells 0 0 0) 31)).alloc (by simp) (.cells #[.int .i64 0] 32)
  have HT : Hid (Blk ((w.alloc (.cells (tcells 0 0 0) 31)).alloc (.cells #[.int .i64 0] 32)) w.heap.size 31 (tcells 0 0 0)) := Lib.hid ((Blk.new _ _ _).alloc _)
  have HE : Hid (Blk ((w.alloc (.cells (tcells 0 0 0) 31)).alloc (.cells #[.int .i64 0] 32)) (w.heap.size + 1) 32 #[.int .i64 0]) := Lib.hid (Blk.new2 _ _ _ _)
  have HB := Lib.hid hb0
  have H := Lib.hid (h _ hb0)
  clear h hb0
  go_enter_defers Tryz.func10, Tryz.ntmps10
  go_wp2_with fail
  change Calls Tryz.prog 32 _ ((w.alloc (.cells (tcells 0 0 0) 31)).alloc (.cells #[.int .i64 0] 32)) _
  generalize ((w.alloc (.cells (tcells 0 0 0) 31)).alloc (.cells #[.int .i64 0] 32)) = w1 at HT HE HB H ⊢
  refine H.out.mono ?_
  rintro e w' ⟨rfl, rfl⟩
  go_wp2_with fail
  refine (mustT_no _ _).mono ?_
  rintro e w' ⟨rfl, rfl⟩
  refine leaves_cons (f := 29) (args := #[.pointer (some ⟨w.heap.size + 1, 0, none⟩), .func (.func 30) #[] #[.pointer (some ⟨w.heap.size, 0, none⟩)]]) (by simp) (by simp [go_sem]) ?_
  refine (openFail_c w _ 0 0 0 0 1 HT.out HE.out HB.out).mono ?_
  rintro e u' wz ⟨rfl, rfl, hbz, hez, hlz⟩
  have kz : wz.cell? ⟨w.heap.size + 1, 0, none⟩ = some (.int .i64 1) := hez.cell (i := 0) rfl
  exact ⟨.tuple #[.agg (tcells 0 0 0), .int .i64 1], results_cell2c (p := 4) (q := 5) (ty := 31) (ty2 := 32) rfl _ _ w.heap.size (w.heap.size + 1) 31 _ _ _ rfl rfl hbz Tryz.underlying31 rfl info36 (by simp [go_sem, kz]), rfl, hlz⟩
end Go.Proofs.YtomnjhhpeglcnaaGreat

namespace Go.Proofs.YtomnjhhpeglcnaaGreat
set_option linter.unusedSimpArgs false
set_option linter.unusedVariables false
set_option maxRecDepth 100000

theorem laidN_cons (x : Int) (zs : List Int) : laidN (x :: zs) = numB x.toNat ++ laidN zs := by simp [laidN]
theorem rnum_laid (n : Nat) (zs : List Int) (t : List By) (most : Int) (h : (n : Int) ≤ most) (h2 : n ≤ 4611686018427387904) : rnum ⟨laidN ((n : Int) :: zs) ++ t, 0⟩ most = (⟨laidN zs ++ t, 0⟩, n, 0) := by
  have e : laidN ((n : Int) :: zs) ++ t = numB n ++ (laidN zs ++ t) := by rw [laidN_cons]; simp
  have ht := takeB_num h2 (laidN zs ++ t)
  have hp := numB_pos n
  rw [e, rnum_ok rfl (by omega) ?_]
  · simp only [ht, Int.toNat_natCast, List.drop_left]
  · unfold canNum
    simp only [ht]
    simp; omega
/-- What is under a key opens, or is told to be under none. -/
theorem open_tagged (k : KS) (m : ByteArray) (n : Nat) (t : Tok) (ht : t.ok = true) (hn : n ≤ 2147483647) :
    openTB k (taggedB m (KS.head n t)) = if ¬ (k.first ≤ n ∧ n ≤ k.newest) then (Tok.zero, 162) else if taggedB (k.at_ (n - k.first)) (KS.head n t) = taggedB m (KS.head n t) then (t, 0) else (Tok.zero, 161) := by
  unfold Tok.ok may31 at ht
  simp only [Bool.and_eq_true, decide_eq_true_eq] at ht
  obtain ⟨⟨⟨a1, a2⟩, b1, b2⟩, c1, c2⟩ := ht
  obtain ⟨tm, ts, ti⟩ := t
  simp only at a1 a2 b1 b2 c1 c2
  obtain ⟨x2, rfl⟩ : ∃ x : Nat, tm = (x : Int) := ⟨tm.toNat, by omega⟩
  obtain ⟨x3, rfl⟩ : ∃ x : Nat, ts = (x : Int) := ⟨ts.toNat, by omega⟩
  obtain ⟨x4, rfl⟩ : ∃ x : Nat, ti = (x : Int) := ⟨ti.toNat, by omega⟩
  obtain ⟨G, hG⟩ : ∃ G, G = (tagB (keyM m) (KS.head n ⟨(x2 : Int), (x3 : Int), (x4 : Int)⟩)).take 16 := ⟨_, rfl⟩
  have hl : G.length = 16 := by rw [hG, List.length_take, tagB_len]; rfl
  have e0 : taggedB m (KS.head n ⟨(x2 : Int), (x3 : Int), (x4 : Int)⟩) = laidN [(n : Int), (x2 : Int), (x3 : Int), (x4 : Int)] ++ G := by rw [hG]; rfl
  have r1 := rnum_laid n [(x2 : Int), (x3 : Int), (x4 : Int)] G most31 (by unfold most31; omega) (by omega)
  have r2 := rnum_laid x2 [(x3 : Int), (x4 : Int)] G 15 (by omega) (by omega)
  have r3 := rnum_laid x3 [(x4 : Int)] G most31 (by unfold most31; omega) (by omega)
  have r4 := rnum_laid x4 [] G most31 (by unfold most31; omega) (by omega)
  have r5 : laidN [] ++ G = G := by simp [laidN]
  rw [r5] at r4
  unfold openTB
  rw [e0, r1]
  simp only [r2, r3, r4, hl]
  simp only [ne_eq, not_true_eq_false, if_false]
  rfl
theorem KS.open_spell (k : KS) (b : List By) (h : b.length ≤ 90) : k.open_ (spellB b) = openTB k b := by
  unfold KS.open_
  have := spellB_len b
  rw [if_neg (by omega), unspell_spell]
theorem strB_strOf (l : List By) : strB (strOf l) = l := by
  unfold strB strOf
  simp [Function.comp_def]
theorem strOf_strB (s : ByteArray) : strOf (strB s) = s := by
  unfold strB strOf
  cases s with
  | mk d => simp [Function.comp_def]
theorem strOf_inj {a b : List By} (h : strOf a = strOf b) : a = b := by rw [← strB_strOf a, h, strB_strOf]
/-- What a token's text opens to under keys. -/
theorem open_made (k k0 : KS) (t : Tok) (ht : t.ok = true) (hn : k0.newest ≤ 2000000000) :
    k.open_ (strB (strOf (spellB (k0.bytes t)))) = if ¬ (k.first ≤ k0.newest ∧ k0.newest ≤ k.newest) then (Tok.zero, 162) else if taggedB (k.at_ (k0.newest - k.first)) (KS.head k0.newest t) = k0.bytes t then (t, 0) else (Tok.zero, 161) := by
  rw [strB_strOf, KS.open_spell]
  · exact open_tagged k _ _ t ht (by omega)
  · unfold KS.bytes
    rw [taggedB_len]
    have := KS.head_len ht k0.newest hn
    omega
end Go.Proofs.YtomnjhhpeglcnaaGreat
