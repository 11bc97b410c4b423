/- Contracts: keys behind masters, by both. -/
import Derived.Test.YtomnjhhpeglcnaaGreatZ8
namespace Go.Proofs.YtomnjhhpeglcnaaGreat
open Go.RowKit
set_option linter.unusedSimpArgs false
set_option linter.unusedVariables false
set_option maxRecDepth 100000

theorem results_tct {P : Program} {fn : Func} {p q r : Tmp} {ty : TypeId} (h : fn.results = #[.tmp q, .cell p ty, .tmp r]) (tmps : Array Value) (w : World) (g : Nat) (t : TypeId) (cs : Array Value) (d : TypeDesc)
    (hp : tmps.getD p undef = .pointer (some ⟨g, 0, none⟩)) (hg : Blk w g t cs)
    (hu : P.underlying ty = some d) (hd : (match d with | .struct _ | .array _ _ => true | _ => false) = true) (hi : (P.info? ty).map (·.size) = some cs.size) :
    (results fn tmps).run P w = .ok (.tuple #[tmps.getD q undef, .agg cs, tmps.getD r undef]) w := by
  have hp' : tmps[p]?.getD undef = .pointer (some ⟨g, 0, none⟩) := by simpa using hp
  simp [results, h, hp', asAddr, run_loadVar_row w g t ty cs (0, 0) d hg hu hd hi]
theorem rturn_any (k k2 : KS) (e2 : Int) (a : Option Addr) (n c : Nat) (s : ByteArray) (w : World) (h : RK w a n c k) (h1 : 0 < n) (h3 : n ≤ 3) (hf : k.first ≤ 1000000000) (hk2 : k2 = if mayM s then k.turn s else k) (he2 : e2 = if mayM s then 0 else 2) :
    Calls Tryz.prog 22 #[.agg (kval k.first a n c), .string s] w fun e w' => (∃ a' c', e = .returned (.tuple #[.agg (kval k2.first a' k2.ms.length c'), .int .i64 e2]) ∧ RK w' a' k2.ms.length c' k2 ∧ ∀ g off, a' = some ⟨g, off, none⟩ → (w.heap.size ≤ g ∨ a' = a)) ∧ Below w.heap.size w w' := by
  by_cases hs : mayM s = true
  · rw [if_pos hs] at hk2 he2
    subst hk2; subst he2
    refine (rturn_ok k a n c s w hs h h1 h3 hf).mono ?_
    rintro e w' ⟨⟨a', n', c', rfl, hr, hlo⟩, hb⟩
    obtain rfl : (k.turn s).ms.length = n' := hr.1.1
    exact ⟨⟨a', c', rfl, hr, fun g off e => .inl (hlo g off e)⟩, hb⟩
  · have hs' : mayM s = false := by simpa using hs
    rw [if_neg hs] at hk2 he2
    subst hk2; subst he2
    refine (rturn_bad k2 a n c s w hs' h).mono ?_
    rintro e w' ⟨rfl, hb⟩
    obtain rfl : k2.ms.length = n := h.1.1
    exact ⟨⟨a, c, rfl, h.below hb, fun g off e => .inr rfl⟩, hb⟩
theorem RK.only {w W : World} {a : Option Addr} {n c p : Nat} {k : KS} (h : RK w a n c k) (ho : Only p w W) (hp : ∀ g off, a = some ⟨g, off, none⟩ → g ≠ p) : RK W a n c k := ⟨h.1.only ho (fun g off e _ => hp g off e), h.2⟩
theorem RK.lt {w : World} {a : Option Addr} {n c : Nat} {k : KS} (h : RK w a n c k) (hn : 0 < n) {g off : Nat} (e : a = some ⟨g, off, none⟩) : g < w.heap.size := by
  obtain ⟨g', off', e', hg, _⟩ := h.1.cells hn
  rw [e] at e'; injection e' with e'; injection e' with e1; omega
/-- What the turning of keys holds, but for the keys. -/
structure TS (w : World) (p q : Nat) (a : Option Addr) (n : Nat) (l : List ByteArray) (k : KS) (a' : Option Addr) (c' : Nat) (W : World) : Prop where
  res : Blk W w.heap.size 27 (kval 0 none 0 0)
  want : Blk W q 27 (kval k.first a' k.ms.length c')
  rk : RK W a' k.ms.length c' k
  st : Strs W a n l
  bel : Below w.heap.size w W
theorem TS.below {w W W' : World} {p q n : Nat} {a : Option Addr} {l : List ByteArray} {k : KS} {a' : Option Addr} {c' : Nat} (h : TS w p q a n l k a' c' W) (hb : Below W.heap.size W W') : TS w p q a n l k a' c' W' :=
  ⟨h.res.below hb h.res.lt, h.want.below hb h.want.lt, h.rk.below hb, h.st.below (Nat.le_refl _) hb, h.bel.trans (hb.mono h.bel.size)⟩
theorem TS.only {w W W' : World} {p q n G : Nat} {a : Option Addr} {l : List ByteArray} {k : KS} {a' : Option Addr} {c' : Nat} (h : TS w p q a n l k a' c' W) (ho : Only G W W') (h1 : w.heap.size < G) (h2 : q ≠ G) (hf : ∀ g off, a' = some ⟨g, off, none⟩ → g ≠ G) (hl : ∀ g off, a = some ⟨g, off, none⟩ → 0 < n → g < w.heap.size) : TS w p q a n l k a' c' W' :=
  ⟨ho.blk h.res (by omega), ho.blk h.want (by omega), h.rk.only ho hf, h.st.only ho (fun g off e h0 => by have := hl g off e h0; omega), h.bel.trans (ho.below h.bel.size (by omega))⟩
/-- .. and the keys. -/
def TSK (w : World) (p q : Nat) (a : Option Addr) (n : Nat) (l : List ByteArray) (k : KS) (a' : Option Addr) (c' : Nat) (W : World) : Prop := TS w p q a n l k a' c' W ∧ IsKeys W p k
theorem TSK.below {w W W' : World} {p q n : Nat} {a : Option Addr} {l : List ByteArray} {k : KS} {a' : Option Addr} {c' : Nat} (h : TSK w p q a n l k a' c' W) (hb : Below W.heap.size W W') : TSK w p q a n l k a' c' W' := ⟨h.1.below hb, h.2.below hb⟩
theorem TSK.only {w W W' : World} {p q n G : Nat} {a : Option Addr} {l : List ByteArray} {k : KS} {a' : Option Addr} {c' : Nat} (h : TSK w p q a n l k a' c' W) (ho : Only G W W') (h1 : w.heap.size < G) (h2 : q ≠ G) (h3 : p ≠ G) (hf : ∀ g off, a' = some ⟨g, off, none⟩ → g ≠ G) (hl : ∀ g off, a = some ⟨g, off, none⟩ → 0 < n → g < w.heap.size) : TSK w p q a n l k a' c' W' :=
  ⟨h.1.only ho h1 h2 hf hl, ⟨ho.blk h.2.blk (by omega), h.2.pos, h.2.len, h.2.may⟩⟩
/-- .. and the next ones. -/
structure TG (w : World) (p q G : Nat) (a : Option Addr) (n : Nat) (l : List ByteArray) (k : KS) (a' : Option Addr) (c' : Nat) (k2 : KS) (a2 : Option Addr) (c2 : Nat) (W : World) : Prop where
  ts : TS w p q a n l k a' c' W
  gb : Blk W G 27 (kval k2.first a2 k2.ms.length c2)
  rk2 : RK W a2 k2.ms.length c2 k2
theorem TG.below {w W W' : World} {p q n G : Nat} {a : Option Addr} {l : List ByteArray} {k : KS} {a' : Option Addr} {c' : Nat} {k2 : KS} {a2 : Option Addr} {c2 : Nat} (h : TG w p q G a n l k a' c' k2 a2 c2 W) (hb : Below W.heap.size W W') : TG w p q G a n l k a' c' k2 a2 c2 W' :=
  ⟨h.ts.below hb, h.gb.below hb h.gb.lt, h.rk2.below hb⟩
theorem TG.only {w W W' : World} {p q n G : Nat} {a : Option Addr} {l : List ByteArray} {k : KS} {a' : Option Addr} {c' : Nat} {k2 : KS} {a2 : Option Addr} {c2 : Nat} (h : TG w p q G a n l k a' c' k2 a2 c2 W) (ho : Only p W W') (h1 : w.heap.size < p) (h2 : q ≠ p) (h3 : G ≠ p) (hf : ∀ g off, a' = some ⟨g, off, none⟩ → g ≠ p) (hf2 : ∀ g off, a2 = some ⟨g, off, none⟩ → g ≠ p) (hl : ∀ g off, a = some ⟨g, off, none⟩ → 0 < n → g < w.heap.size) : TG w p q G a n l k a' c' k2 a2 c2 W' :=
  ⟨h.ts.only ho h1 h2 hf hl, ho.blk h.gb h3, h.rk2.only ho hf2⟩
theorem turnsK_take (k : KS) (l : List ByteArray) (i : Nat) (x : ByteArray) (hx : l[i]? = some x) : turnsK k (l.take (i + 1)) = (if mayM x then (turnsK k (l.take i)).turn x else turnsK k (l.take i)) := by
  rw [List.take_add_one, hx]
  show turnsK k (l.take i ++ [x]) = _
  rw [turnsK_snoc]
/-- What the turning of keys holds at its end. -/
structure TE (w : World) (p q : Nat) (k : KS) (a' : Option Addr) (c' : Nat) (W : World) : Prop where
  ks : IsKeys W p k
  want : Blk W q 27 (kval k.first a' k.ms.length c')
  rk : RK W a' k.ms.length c' k
  bel : Below w.heap.size w W
  res : ∃ cs : Array Value, cs.size = 2 ∧ Blk W w.heap.size 27 cs
theorem TE.below {w W W' : World} {p q : Nat} {k : KS} {a' : Option Addr} {c' : Nat} (h : TE w p q k a' c' W) (hb : Below W.heap.size W W') : TE w p q k a' c' W' := by
  obtain ⟨cs, h1, h2⟩ := h.res
  exact ⟨h.ks.below hb, h.want.below hb h.want.lt, h.rk.below hb, h.bel.trans (hb.mono h.bel.size), cs, h1, h2.below hb h2.lt⟩
theorem TE.put {w W W' : World} {p q : Nat} {k : KS} {a' : Option Addr} {c' : Nat} (h : TE w p q k a' c' W) (hB : Blk W' w.heap.size 27 #[.int .i64 (k.first : Int), .slice a' k.ms.length c']) (ho : Only w.heap.size W W') (h1 : w.heap.size < q) (h2 : w.heap.size < p) (hf : ∀ g off, a' = some ⟨g, off, none⟩ → g ≠ w.heap.size) : TE w p q k a' c' W' :=
  ⟨⟨ho.blk h.ks.blk (by omega), h.ks.pos, h.ks.len, h.ks.may⟩, ho.blk h.want (by omega), h.rk.only ho hf, h.bel.trans (ho.below h.bel.size (by omega)), _, rfl, hB⟩
set_option maxHeartbeats 16000000 in
theorem turnedK_c (f : ByteArray) (a : Option Addr) (n c : Nat) (l : List ByteArray) (w : World) (h : Strs w a n l) (hn : n ≤ 12) :
    Calls Tryz.prog 9 #[.string f, .slice a n c] w fun e w' => Below w.heap.size w w' ∧
      ((mayM f = false ∧ e = .returned (.tuple #[.pointer none, .agg (kval 0 none 0 0), .bool true])) ∨
       (∃ p k a' c', e = .returned (.tuple #[.pointer (some ⟨p, 0, none⟩), .agg (kval k.first a' k.ms.length c'), .bool true]) ∧ k = turnsK ⟨0, [f]⟩ l ∧ k.first ≤ 12 ∧ w.heap.size ≤ p ∧ IsKeys w' p k ∧ RK w' a' k.ms.length c' k ∧ ∀ g off, a' = some ⟨g, off, none⟩ → g ≠ p)) := by
  have HLT : Hid (∀ g off, a = some ⟨g, off, none⟩ → 0 < n → g < w.heap.size) := Lib.hid (fun g off e h0 => by
    obtain ⟨g', off', e', hg, _⟩ := h.cells h0
    rw [e] at e'; injection e' with e'; injection e' with e1; omega)
  have hal := (Below.refl w.heap.size w).alloc (Nat.le_refl _) (.cells (kval 0 none 0 0) 27)
  have HB1 := Lib.hid hal
  have HZ1 := Lib.hid (Blk.new w 27 (kval 0 none 0 0))
  have HS1 := Lib.hid (h.below (Nat.le_refl _) hal)
  have HL : Hid (l.length = n) := Lib.hid h.1
  clear hal h
  go_enter Tryz.func9, Tryz.ntmps9
  go_wp2_with fail
  change Calls Tryz.prog 25 _ (w.alloc (.cells (kval 0 none 0 0) 27)) _
  generalize (w.alloc (.cells (kval 0 none 0 0) 27)) = w1 at HB1 HZ1 HS1 ⊢
  have hw1 := HZ1.out.lt
  by_cases hmf : mayM f = true
  rotate_left
  · have hmf' : mayM f = false := by simpa using hmf
    have HMF := Lib.hid hmf'
    clear hmf hmf'
    refine (tnew_bad f w1 HMF.out).mono ?_
    rintro e w2 ⟨rfl, hb2⟩
    have HB2 := Lib.hid (HB1.out.trans (hb2.mono HB1.out.size))
    have HZ2 := Lib.hid (HZ1.out.below hb2 HZ1.out.lt)
    clear hb2 HB1 HZ1 HS1 hw1
    go_wp2_with fail
    refine (rnew_bad f w2 HMF.out).mono ?_
    rintro e w3 ⟨rfl, hb3⟩
    have HB3 := Lib.hid (HB2.out.trans (hb3.mono HB2.out.size))
    have HZ3 := Lib.hid (HZ2.out.below hb3 HZ2.out.lt)
    clear hb3 HB2 HZ2
    have hal := (Below.refl w3.heap.size w3).alloc (Nat.le_refl _) (.cells (kval 0 none 0 0) 27)
    obtain ⟨q, hq⟩ : ∃ q, q = w3.heap.size := ⟨_, rfl⟩
    have hqw : w.heap.size < q := by rw [hq]; exact HZ3.out.lt
    have HG4 : Hid (Blk (w3.alloc (.cells (kval 0 none 0 0) 27)) q 27 (kval 0 none 0 0)) := Lib.hid (by rw [hq]; exact Blk.new _ _ _)
    have HB4 := Lib.hid (HB3.out.trans (hal.mono HB3.out.size))
    have HZ4 := Lib.hid (HZ3.out.below hal HZ3.out.lt)
    have HQ := Lib.hid hq
    clear hal hq HB3 HZ3
    unfold kval at *
    go_wp2_with fail
    rw [← HQ.out]
    clear HQ
    generalize (w3.alloc (.cells #[.int .i64 0, .slice none 0 0] 27)) = w4 at HG4 HB4 HZ4 ⊢
    have hS0 : (fun W => Blk W q 27 #[.int .i64 0, .slice none 0 0] ∧ Blk W w.heap.size 27 #[.int .i64 0, .slice none 0 0] ∧ Below w.heap.size w W) (World.drew w4) := ⟨HG4.out.drew, HZ4.out.drew, HB4.out.drew⟩
    refine wp_region_held_drew (S := (fun W => Blk W q 27 #[.int .i64 0, .slice none 0 0] ∧ Blk W w.heap.size 27 #[.int .i64 0, .slice none 0 0] ∧ Below w.heap.size w W)) (by kernel_rfl) hS0 ?_
    intro hS0'
    refine wpAnyH_take (i := 0) (v := .agg #[.int .i64 0, .slice none 0 0]) rfl (by kernel_rfl) (by kernel_rfl) (by kernel_rfl) (fun _ _ _ h => h) ?_ hS0' ?_
    · exact yieldsIf_load_blk (by kernel_rfl) 27 (.tmp 9) (by kernel_rfl) q (by kernel_rfl) 27 #[.int .i64 0, .slice none 0 0] _ (fun _ h => h.1) Tryz.underlying27 rfl infoKR
    try simp only [Act.put, List.getElem_toArray, List.getElem_cons_succ, List.getElem_cons_zero, List.setIfInBounds_toArray, List.set_cons_zero, List.set_cons_succ]
    refine wpAnyH_take (i := 1) (v := .pointer none) rfl (by kernel_rfl) (by kernel_rfl) (by kernel_rfl) (fun _ _ _ h => h) (Or.inl ⟨by kernel_rfl, fun w0 hSw => ?_⟩) hS0' ?_
    · go_simp
    try simp only [Act.put, List.getElem_toArray, List.getElem_cons_succ, List.getElem_cons_zero, List.setIfInBounds_toArray, List.set_cons_zero, List.set_cons_succ]
    refine wpAnyH_take (i := 2) (v := .bool true) rfl (by kernel_rfl) (by kernel_rfl) (by kernel_rfl) (fun _ _ _ h => h) (Or.inl ⟨by kernel_rfl, fun w0 hSw => ?_⟩) hS0' ?_
    · go_simp
    try simp only [Act.put, List.getElem_toArray, List.getElem_cons_succ, List.getElem_cons_zero, List.setIfInBounds_toArray, List.set_cons_zero, List.set_cons_succ]
    refine wpAnyH_take (i := 3) (v := .bool true) rfl (by kernel_rfl) (by kernel_rfl) (by kernel_rfl) (fun _ _ _ h => h) (Or.inl ⟨by kernel_rfl, fun w0 hSw => ?_⟩) hS0' ?_
    · go_simp
    try simp only [Act.put, List.getElem_toArray, List.getElem_cons_succ, List.getElem_cons_zero, List.setIfInBounds_toArray, List.set_cons_zero, List.set_cons_succ]
    refine wpAnyH_take (i := 4) (v := .int .i64 2) rfl (by kernel_rfl) (by kernel_rfl) (by kernel_rfl) (fun _ _ _ h => h) (Or.inl ⟨by kernel_rfl, fun w0 hSw => ?_⟩) hS0' ?_
    · go_simp
    try simp only [Act.put, List.getElem_toArray, List.getElem_cons_succ, List.getElem_cons_zero, List.setIfInBounds_toArray, List.set_cons_zero, List.set_cons_succ]
    refine wpAnyH_take (i := 6) (v := .int .i64 2) rfl (by kernel_rfl) (by kernel_rfl) (by kernel_rfl) (fun _ _ _ h => h) (Or.inl ⟨by kernel_rfl, fun w0 hSw => ?_⟩) hS0' ?_
    · go_simp
    try simp only [Act.put, List.getElem_toArray, List.getElem_cons_succ, List.getElem_cons_zero, List.setIfInBounds_toArray, List.set_cons_zero, List.set_cons_succ]
    refine wpAnyH_ready (rs := [5]) (by kernel_rfl) (by simp) ?_
    refine AllReadyH.cons (by rfl) ?_ AllReadyH.nil
    intro K hK
    go_simp
    refine (num_c _ _).mono ?_
    rintro e w5 ⟨rfl, rfl⟩
    refine hK.out _ _ hS0' (fun hS1 => ?_)
    clear hK K
    refine wpAnyH_take (i := 7) (v := .bool true) rfl (by kernel_rfl) (by kernel_rfl) (by kernel_rfl) (fun _ _ _ h => h) (Or.inl ⟨by kernel_rfl, fun w0 hSw => ?_⟩) hS1 ?_
    · go_simp
    try simp only [Act.put, List.getElem_toArray, List.getElem_cons_succ, List.getElem_cons_zero, List.setIfInBounds_toArray, List.set_cons_zero, List.set_cons_succ]
    refine wpAnyH_take (i := 8) (v := .bool true) rfl (by kernel_rfl) (by kernel_rfl) (by kernel_rfl) (fun _ _ _ h => h) (Or.inl ⟨by kernel_rfl, fun w0 hSw => ?_⟩) hS1 ?_
    · go_simp
    try simp only [Act.put, List.getElem_toArray, List.getElem_cons_succ, List.getElem_cons_zero, List.setIfInBounds_toArray, List.set_cons_zero, List.set_cons_succ]
    refine wpAnyH_take (i := 9) (v := .pointer none) rfl (by kernel_rfl) (by kernel_rfl) (by kernel_rfl) (fun _ _ _ h => h) (Or.inl ⟨by kernel_rfl, fun w0 hSw => ?_⟩) hS1 ?_
    · go_simp
    try simp only [Act.put, List.getElem_toArray, List.getElem_cons_succ, List.getElem_cons_zero, List.setIfInBounds_toArray, List.set_cons_zero, List.set_cons_succ]
    refine wpAnyH_ready (rs := [10]) (by kernel_rfl) (by simp) ?_
    refine all_readyH_yes (by rfl) (by kernel_rfl) ?_ AllReadyH.nil
    intro K hK
    with_reducible refine wp_store_blk 27 (.tmp 5) (.tmp 32) ?_ w.heap.size 27 _ #[.int .i64 0, .slice none 0 0] ?_ ?_ hS1.2.1 ?_ ?_ (by kernel_rfl) ?_
    · kernel_rfl
    · kernel_rfl
    · kernel_rfl
    · rfl
    · exact infoKR
    intro w6 hB6 hO6 hz6
    try simp only [Act.put, List.getElem_toArray, List.getElem_cons_succ, List.getElem_cons_zero, List.setIfInBounds_toArray, List.set_cons_zero, List.set_cons_succ]
    refine hK.out _ _ ⟨hO6.blk hS1.1 (by omega), hB6, hS1.2.2.trans (hO6.below (B := w.heap.size) hS1.2.2.size (Nat.le_refl _))⟩ (fun hS2 => ?_)
    clear hK K
    refine wpAnyH_take (i := 11) (v := .bool true) rfl (by kernel_rfl) (by kernel_rfl) (by kernel_rfl) (fun _ _ _ h => h) (Or.inl ⟨by kernel_rfl, fun w0 hSw => ?_⟩) hS2 ?_
    · go_simp
    try simp only [Act.put, List.getElem_toArray, List.getElem_cons_succ, List.getElem_cons_zero, List.setIfInBounds_toArray, List.set_cons_zero, List.set_cons_succ]
    refine wpAnyH_done (by kernel_rfl) ?_ _
    go_wp2_with fail
    exact bodyPost_ret (results_tct rfl _ _ w.heap.size 27 _ _ rfl hS2.2.1 Tryz.underlying27 rfl infoKR) rfl ⟨hS2.2.2, .inl ⟨HMF.out, rfl⟩⟩
  have HMF := Lib.hid hmf
  clear hmf
  refine (tnew_c f w1 HMF.out).mono ?_
  rintro e w2 ⟨rfl, hk2, hb2⟩
  obtain ⟨p, hp⟩ : ∃ p, p = w1.heap.size := ⟨_, rfl⟩
  rw [← hp] at hk2 ⊢
  have hpw : w.heap.size < p := by rw [hp]; exact hw1
  have HB2 := Lib.hid (HB1.out.trans (hb2.mono HB1.out.size))
  have HZ2 := Lib.hid (HZ1.out.below hb2 HZ1.out.lt)
  have HS2 := Lib.hid (HS1.out.below (Nat.le_refl _) hb2)
  have HK2 : Hid (IsKeys w2 p ⟨0, [f]⟩) := Lib.hid hk2
  clear hb2 hk2 hp HB1 HZ1 HS1 hw1
  go_wp2_with fail
  refine (rnew_c f w2 HMF.out).mono ?_
  rintro e w3 ⟨⟨a', c', rfl, hr3, hlo3⟩, hb3⟩
  have hp2 := HK2.out.blk.lt
  have hal := (Below.refl w3.heap.size w3).alloc (Nat.le_refl _) (.cells (kval 0 a' 1 c') 27)
  have HB3 := HB2.out.trans (hb3.mono HB2.out.size)
  have HZ3 := HZ2.out.below hb3 HZ2.out.lt
  have HS3 := HS2.out.below (Nat.le_refl _) hb3
  have HK3 := HK2.out.below hb3
  obtain ⟨q, hq⟩ : ∃ q, q = w3.heap.size := ⟨_, rfl⟩
  have hqp : p < q := by rw [hq]; have := hb3.size; omega
  have HG4 : Blk (w3.alloc (.cells (kval 0 a' 1 c') 27)) q 27 (kval 0 a' 1 c') := by rw [hq]; exact Blk.new _ _ _
  have HFR : Hid (∀ g off, a' = some ⟨g, off, none⟩ → g ≠ p ∧ g ≠ w.heap.size ∧ g ≠ q) := Lib.hid (fun g off e => by
    have h1 := hlo3 g off e
    have h2 := hr3.lt (by decide) e
    omega)
  obtain ⟨k, hk⟩ : ∃ k : KS, k = ⟨0, [f]⟩ := ⟨_, rfl⟩
  have HTS : Hid (TSK w p q a n l k a' c' (w3.alloc (.cells (kval 0 a' 1 c') 27))) := Lib.hid (by
    rw [hk]
    exact ⟨⟨HZ3.below hal HZ3.lt, HG4, hr3.below hal, HS3.below (Nat.le_refl _) hal, HB3.trans (hal.mono HB3.size)⟩, HK3.below hal⟩)
  have HQ := Lib.hid hq
  have HK := Lib.hid hk
  clear hal hq HB3 HZ3 HS3 HK3 HG4 hr3 hlo3 hb3 HB2 HZ2 HS2 HK2 hp2 hk
  unfold kval at *
  go_wp2_with fail
  rw [← HQ.out]
  clear HQ
  generalize (w3.alloc (.cells #[.int .i64 0, .slice a' 1 c'] 27)) = w4 at HTS ⊢
  refine (num_c _ _).mono ?_
  rintro e w' ⟨rfl, rfl⟩
  go_wp2_with fail
  go_loopw [11] (fun iv wr => ∃ (i : Nat) (k2 : KS) (a2 : Option Addr) (c2 : Nat), i ≤ n ∧ iv = .int .i64 (i : Int) ∧ k2 = turnsK k (l.take i) ∧ k2.first ≤ i ∧ TSK w p q a n l k2 a2 c2 wr ∧ ∀ g off, a2 = some ⟨g, off, none⟩ → g ≠ p ∧ g ≠ w.heap.size ∧ g ≠ q) (fun iv _ => n - (intOf iv).toNat)
  case atStart => exact ⟨0, k, a', c', Nat.zero_le _, rfl, rfl, by rw [HK.out]; exact Nat.le_refl _, HTS.out, HFR.out⟩
  case round =>
  obtain ⟨i, k1, a1, c1, hi, rfl, hk1, hfi, hts, hfr⟩ := hrel
  have HT := Lib.hid hts; have HF1 := Lib.hid hfr; have HK1 := Lib.hid hk1
  have hpos := hts.2.pos; have hlen := hts.2.len
  clear hts hfr hk1 HTS HFR
  by_cases hlt : i < n
  · obtain ⟨x, hx⟩ : ∃ x, l[i]? = some x := ⟨l[i]'(by rw [HL.out]; exact hlt), List.getElem?_eq_getElem _⟩
    have HX := Lib.hid hx
    obtain ⟨g, off, hae, hg, _⟩ := HT.out.1.st.cells (by omega)
    subst hae
    have HC : Hid (∀ W, TSK w p q (some ⟨g, off, none⟩) n l k1 a1 c1 W → W.cell? ⟨g, off + i, none⟩ = some (.string x)) := Lib.hid (fun W hW => by
      obtain ⟨g', off', e', _, hc⟩ := hW.1.st.2 i x hx
      injection e' with e'; injection e' with e1 e2; subst e1; subst e2; exact hc)
    obtain ⟨k2, hk2⟩ : ∃ k2 : KS, k2 = if mayM x then k1.turn x else k1 := ⟨_, rfl⟩
    obtain ⟨e2, he2⟩ : ∃ e2 : Int, e2 = if mayM x then 0 else 2 := ⟨_, rfl⟩
    have HK2 := Lib.hid hk2; have HE2 := Lib.hid he2
    have HN2 : Hid (k2 = turnsK k (l.take (i + 1))) := Lib.hid (by rw [turnsK_take k l i x hx, ← HK1.out]; exact hk2)
    have hf2 : k2.first ≤ i + 1 := by
      rw [hk2]
      have := turn_first k1 x
      split <;> omega
    have hw2 : IntKind.i64.wrap (i : Int) = (i : Int) := IntWalk.i64_in _ (by omega)
    have hj2 : ¬ ((n : Int) ≤ (i : Int)) := by omega
    have hj3 : (i : Int) < (n : Int) := by omega
    have hqr : q < wr.heap.size := HT.out.1.want.lt
    have hA1 : ∀ g off, a1 = some ⟨g, off, none⟩ → g < wr.heap.size := fun g off e => HT.out.1.rk.lt hpos e
    have hpos2 : 0 < k2.ms.length := by
      rw [hk2]; split
      · unfold KS.turn; split <;> simp
      · exact hpos
    have hlen2 : k2.ms.length ≤ 3 := by
      rw [hk2]; split
      · unfold KS.turn; split <;> simp <;> omega
      · exact hlen
    clear hx hk2 he2
    go_wp2_with fail
    go_cut [12, 13] from 47 to 55 (fun v12 v13 wx => ∃ (G : Nat) (a2 : Option Addr) (c2 : Nat), v12 = .pointer (some ⟨G, 0, none⟩) ∧ v13 = .int .i64 e2 ∧ TSK w p q (some ⟨g, off, none⟩) n l k1 a1 c1 wx ∧ Blk wx G 27 (kval k2.first a2 k2.ms.length c2) ∧ RK wx a2 k2.ms.length c2 k2 ∧ q < G ∧ ∀ g off, a2 = some ⟨g, off, none⟩ → g ≠ p ∧ g ≠ w.heap.size ∧ g ≠ q ∧ g ≠ G)
    case first =>
      have hS0 : (TSK w p q (some ⟨g, off, none⟩) n l k1 a1 c1) (World.drew wr) := HT.out.below (Below.refl _ _).drew
      refine wp_region_held_drew (S := (TSK w p q (some ⟨g, off, none⟩) n l k1 a1 c1)) (by kernel_rfl) hS0 ?_
      intro hS0'
      refine wpAnyH_take (i := 0) (v := .agg #[.int .i64 (k1.first : Int), .slice a1 k1.ms.length c1]) rfl (by kernel_rfl) (by kernel_rfl) (by kernel_rfl) (fun _ _ _ h => h) ?_ hS0' ?_
      · exact yieldsIf_load_blk (by kernel_rfl) 27 (.tmp 9) (by kernel_rfl) q (by kernel_rfl) 27 #[.int .i64 (k1.first : Int), .slice a1 k1.ms.length c1] _ (fun _ h => h.1.want) Tryz.underlying27 rfl infoKR
      try simp only [Act.put, List.getElem_toArray, List.getElem_cons_succ, List.getElem_cons_zero, List.setIfInBounds_toArray, List.set_cons_zero, List.set_cons_succ]
      refine wpAnyH_take (i := 1) (v := .slice (some ⟨g, off, none⟩) n c) rfl (by kernel_rfl) (by kernel_rfl) (by kernel_rfl) (fun _ _ _ h => h) (Or.inl ⟨by kernel_rfl, fun w0 hSw => ?_⟩) hS0' ?_
      · go_simp
      try simp only [Act.put, List.getElem_toArray, List.getElem_cons_succ, List.getElem_cons_zero, List.setIfInBounds_toArray, List.set_cons_zero, List.set_cons_succ]
      refine wpAnyH_take (i := 2) (v := .int .i64 (i : Int)) rfl (by kernel_rfl) (by kernel_rfl) (by kernel_rfl) (fun _ _ _ h => h) (Or.inl ⟨by kernel_rfl, fun w0 hSw => ?_⟩) hS0' ?_
      · go_simp
      try simp only [Act.put, List.getElem_toArray, List.getElem_cons_succ, List.getElem_cons_zero, List.setIfInBounds_toArray, List.set_cons_zero, List.set_cons_succ]
      refine wpAnyH_take (i := 3) (v := .pointer (some ⟨g, off + i, none⟩)) rfl (by kernel_rfl) (by kernel_rfl) (by kernel_rfl) (fun _ _ _ h => h) (Or.inl ⟨by kernel_rfl, fun w0 hSw => ?_⟩) hS0' ?_
      · go_simp
      try simp only [Act.put, List.getElem_toArray, List.getElem_cons_succ, List.getElem_cons_zero, List.setIfInBounds_toArray, List.set_cons_zero, List.set_cons_succ]
      refine wpAnyH_take (i := 4) (v := .string x) rfl (by kernel_rfl) (by kernel_rfl) (by kernel_rfl) (fun _ _ _ h => h) (Or.inl ⟨by kernel_rfl, fun w0 hSw => ?_⟩) hS0' ?_
      · have cc := HC.out _ hSw
        go_simp
      try simp only [Act.put, List.getElem_toArray, List.getElem_cons_succ, List.getElem_cons_zero, List.setIfInBounds_toArray, List.set_cons_zero, List.set_cons_succ]
      refine wpAnyH_ready (rs := [5, 9]) (by kernel_rfl) (by simp) ?_
      refine AllReadyH.cons (by rfl) ?_ ?_
      · intro K hK
        go_simp
        refine (rturn_any k1 k2 e2 a1 k1.ms.length c1 x _ hS0'.1.rk hpos hlen (by omega) HK2.out HE2.out).mono ?_
        rintro e w6 ⟨⟨a2, c2, rfl, hr2, hlo2⟩, hb6⟩
        unfold kval
        refine hK.out _ _ (hS0'.below hb6) (fun hS1 => ?_)
        clear hK K
        refine wpAnyH_take (i := 6) (v := .tuple #[.agg #[.int .i64 (k2.first : Int), .slice a2 k2.ms.length c2], .int .i64 e2]) rfl (by kernel_rfl) (by kernel_rfl) (by kernel_rfl) (fun _ _ _ h => h) (Or.inl ⟨by kernel_rfl, fun w0 hSw => ?_⟩) hS1 ?_
        · go_simp
        try simp only [Act.put, List.getElem_toArray, List.getElem_cons_succ, List.getElem_cons_zero, List.setIfInBounds_toArray, List.set_cons_zero, List.set_cons_succ]
        refine wpAnyH_take (i := 7) (v := .agg #[.int .i64 (k2.first : Int), .slice a2 k2.ms.length c2]) rfl (by kernel_rfl) (by kernel_rfl) (by kernel_rfl) (fun _ _ _ h => h) (Or.inl ⟨by kernel_rfl, fun w0 hSw => ?_⟩) hS1 ?_
        · go_simp
        try simp only [Act.put, List.getElem_toArray, List.getElem_cons_succ, List.getElem_cons_zero, List.setIfInBounds_toArray, List.set_cons_zero, List.set_cons_succ]
        refine wpAnyH_take (i := 8) (v := .int .i64 e2) rfl (by kernel_rfl) (by kernel_rfl) (by kernel_rfl) (fun _ _ _ h => h) (Or.inl ⟨by kernel_rfl, fun w0 hSw => ?_⟩) hS1 ?_
        · go_simp
        try simp only [Act.put, List.getElem_toArray, List.getElem_cons_succ, List.getElem_cons_zero, List.setIfInBounds_toArray, List.set_cons_zero, List.set_cons_succ]
        refine wpAnyH_ready (rs := [9]) (by kernel_rfl) (by simp) ?_
        refine AllReadyH.cons (by rfl) ?_ AllReadyH.nil
        intro K hK
        go_simp
        have hsz6 := hb6.size
        have hal := (Below.refl w6.heap.size w6).alloc (Nat.le_refl _) (.cells #[.int .i64 0, .slice none 0 0] 27)
        have hgb6 := Blk.new w6 27 #[.int .i64 0, .slice none 0 0]
        have hr3 := hr2.below hal
        have hfa : ∀ g off, a2 = some ⟨g, off, none⟩ → g ≠ p ∧ g ≠ w.heap.size ∧ g ≠ q ∧ g ≠ w6.heap.size := fun g off e => by
          rcases hlo2 g off e with e1 | e1
          · have e2 := hr2.lt hpos2 e; have e5 : (World.drew wr).heap.size = wr.heap.size := rfl; omega
          · rw [e1] at e; have e3 := HF1.out g off e; have e4 := hA1 g off e; have e5 : (World.drew wr).heap.size = wr.heap.size := rfl; omega
        refine hK.out _ _ (hS1.below hal) (fun hS2 => ?_)
        clear hK K
        refine wpAnyH_ready (rs := [10]) (by kernel_rfl) (by simp) ?_
        refine all_readyH_yes (by rfl) (by kernel_rfl) ?_ AllReadyH.nil
        intro K hK
        with_reducible refine wp_store_blk 27 (.tmp 12) (.tmp 54) ?_ w6.heap.size 27 _ #[.int .i64 (k2.first : Int), .slice a2 k2.ms.length c2] ?_ ?_ hgb6 ?_ ?_ (by kernel_rfl) ?_
        · kernel_rfl
        · kernel_rfl
        · kernel_rfl
        · rfl
        · exact infoKR
        intro w7 hB7 hO7 hz7
        have e5 : (World.drew wr).heap.size = wr.heap.size := rfl
        try simp only [Act.put, List.getElem_toArray, List.getElem_cons_succ, List.getElem_cons_zero, List.setIfInBounds_toArray, List.set_cons_zero, List.set_cons_succ]
        refine hK.out _ _ (hS2.only hO7 (by omega) (by omega) (by omega) (fun g off e => by have := hA1 g off e; omega) HLT.out) (fun hS3 => ?_)
        clear hK K
        refine wpAnyH_take (i := 11) (v := .int .i64 e2) rfl (by kernel_rfl) (by kernel_rfl) (by kernel_rfl) (fun _ _ _ h => h) (Or.inl ⟨by kernel_rfl, fun w0 hSw => ?_⟩) hS3 ?_
        · go_simp
        try simp only [Act.put, List.getElem_toArray, List.getElem_cons_succ, List.getElem_cons_zero, List.setIfInBounds_toArray, List.set_cons_zero, List.set_cons_succ]
        refine wpAnyH_done (by kernel_rfl) ?_ _
        have hr7 := hr3.only hO7 (fun g off e => (hfa g off e).2.2.2)
        go_wp2_with fail
        go_meet
        case rel => exact ⟨_, a2, c2, rfl, rfl, hS3, hB7, hr7, by omega, hfa⟩
      refine AllReadyH.cons (by rfl) ?_ AllReadyH.nil
      intro K hK
      go_simp
      have hal := (Below.refl (World.drew wr).heap.size (World.drew wr)).alloc (Nat.le_refl _) (.cells #[.int .i64 0, .slice none 0 0] 27)
      have hgb := Blk.new (World.drew wr) 27 #[.int .i64 0, .slice none 0 0]
      refine hK.out _ _ (hS0'.below hal) (fun hS4 => ?_)
      clear hK K
      refine wpAnyH_ready (rs := [5]) (by kernel_rfl) (by simp) ?_
      refine AllReadyH.cons (by rfl) ?_ AllReadyH.nil
      intro K hK
      go_simp
      refine (rturn_any k1 k2 e2 a1 k1.ms.length c1 x _ hS4.1.rk hpos hlen (by omega) HK2.out HE2.out).mono ?_
      rintro e w6 ⟨⟨a2, c2, rfl, hr2, hlo2⟩, hb6⟩
      unfold kval
      have hgb6 := hgb.below hb6 hgb.lt
      have hsz6 := hb6.size
      have e6 : (World.drew (wr.alloc (.cells #[.int .i64 0, .slice none 0 0] 27))).heap.size = wr.heap.size + 1 := World.size_alloc _ _
      rw [e6] at hsz6 hlo2
      have hfa : ∀ g off, a2 = some ⟨g, off, none⟩ → g ≠ p ∧ g ≠ w.heap.size ∧ g ≠ q ∧ g ≠ (World.drew wr).heap.size := fun g off e => by
        rcases hlo2 g off e with e1 | e1
        · have e2 := hr2.lt hpos2 e; have e5 : (World.drew wr).heap.size = wr.heap.size := rfl; omega
        · rw [e1] at e; have e3 := HF1.out g off e; have e4 := hA1 g off e; have e5 : (World.drew wr).heap.size = wr.heap.size := rfl; omega
      have hr3 := hr2
      refine hK.out _ _ (hS4.below hb6) (fun hS5 => ?_)
      clear hK K
      refine wpAnyH_take (i := 6) (v := .tuple #[.agg #[.int .i64 (k2.first : Int), .slice a2 k2.ms.length c2], .int .i64 e2]) rfl (by kernel_rfl) (by kernel_rfl) (by kernel_rfl) (fun _ _ _ h => h) (Or.inl ⟨by kernel_rfl, fun w0 hSw => ?_⟩) hS5 ?_
      · go_simp
      try simp only [Act.put, List.getElem_toArray, List.getElem_cons_succ, List.getElem_cons_zero, List.setIfInBounds_toArray, List.set_cons_zero, List.set_cons_succ]
      refine wpAnyH_take (i := 7) (v := .agg #[.int .i64 (k2.first : Int), .slice a2 k2.ms.length c2]) rfl (by kernel_rfl) (by kernel_rfl) (by kernel_rfl) (fun _ _ _ h => h) (Or.inl ⟨by kernel_rfl, fun w0 hSw => ?_⟩) hS5 ?_
      · go_simp
      try simp only [Act.put, List.getElem_toArray, List.getElem_cons_succ, List.getElem_cons_zero, List.setIfInBounds_toArray, List.set_cons_zero, List.set_cons_succ]
      refine wpAnyH_take (i := 8) (v := .int .i64 e2) rfl (by kernel_rfl) (by kernel_rfl) (by kernel_rfl) (fun _ _ _ h => h) (Or.inl ⟨by kernel_rfl, fun w0 hSw => ?_⟩) hS5 ?_
      · go_simp
      try simp only [Act.put, List.getElem_toArray, List.getElem_cons_succ, List.getElem_cons_zero, List.setIfInBounds_toArray, List.set_cons_zero, List.set_cons_succ]
      refine wpAnyH_ready (rs := [10]) (by kernel_rfl) (by simp) ?_
      refine all_readyH_yes (by rfl) (by kernel_rfl) ?_ AllReadyH.nil
      intro K hK
      with_reducible refine wp_store_blk 27 (.tmp 12) (.tmp 54) ?_ (World.drew wr).heap.size 27 _ #[.int .i64 (k2.first : Int), .slice a2 k2.ms.length c2] ?_ ?_ hgb6 ?_ ?_ (by kernel_rfl) ?_
      · kernel_rfl
      · kernel_rfl
      · kernel_rfl
      · rfl
      · exact infoKR
      intro w7 hB7 hO7 hz7
      have e5 : (World.drew wr).heap.size = wr.heap.size := rfl
      try simp only [Act.put, List.getElem_toArray, List.getElem_cons_succ, List.getElem_cons_zero, List.setIfInBounds_toArray, List.set_cons_zero, List.set_cons_succ]
      refine hK.out _ _ (hS5.only hO7 (by omega) (by omega) (by omega) (fun g off e => by have := hA1 g off e; omega) HLT.out) (fun hS6 => ?_)
      clear hK K
      refine wpAnyH_take (i := 11) (v := .int .i64 e2) rfl (by kernel_rfl) (by kernel_rfl) (by kernel_rfl) (fun _ _ _ h => h) (Or.inl ⟨by kernel_rfl, fun w0 hSw => ?_⟩) hS6 ?_
      · go_simp
      try simp only [Act.put, List.getElem_toArray, List.getElem_cons_succ, List.getElem_cons_zero, List.setIfInBounds_toArray, List.set_cons_zero, List.set_cons_succ]
      refine wpAnyH_done (by kernel_rfl) ?_ _
      have hr7 := hr3.only hO7 (fun g off e => (hfa g off e).2.2.2)
      go_wp2_with fail
      go_meet
      case rel => exact ⟨_, a2, c2, rfl, rfl, hS6, hB7, hr7, by omega, hfa⟩
    case rest =>
    obtain ⟨G, a2, c2, rfl, rfl, hts, hgb, hr2, hqG, hfr2⟩ := hcut
    have HTG : Hid (TG w p q G (some ⟨g, off, none⟩) n l k1 a1 c1 k2 a2 c2 wc) := Lib.hid ⟨hts.1, hgb, hr2⟩
    have HKY : Hid (IsKeys wc p k1) := Lib.hid hts.2
    have HF2 := Lib.hid hfr2
    clear hts hgb hr2 hfr2 HT HC
    have HC9 : Hid (∀ W, TG w p q G (some ⟨g, off, none⟩) n l k1 a1 c1 k2 a2 c2 W → W.cell? ⟨g, off + i, none⟩ = some (.string x)) := Lib.hid (fun W hW => by
      obtain ⟨g', off', e', _, hc⟩ := hW.ts.st.2 i x HX.out
      injection e' with e'; injection e' with e1 e2; subst e1; subst e2; exact hc)
    have HKD : Hid (IsKeys (World.drew wc) p k1) := Lib.hid (HKY.out.below (Below.refl _ _).drew)
    obtain ⟨N, hN⟩ : ∃ N : Int, N = (k2.newest : Int) := ⟨_, rfl⟩
    have HNA := Lib.hid hN
    have HNB : Hid (N = ((k2.first + k2.ms.length - 1 : Nat) : Int)) := Lib.hid hN
    clear hN
    go_wp2_with fail
    have hS0 : (TG w p q G (some ⟨g, off, none⟩) n l k1 a1 c1 k2 a2 c2) (World.drew wc) := HTG.out.below (Below.refl _ _).drew
    refine wp_region_held_drew (S := (TG w p q G (some ⟨g, off, none⟩) n l k1 a1 c1 k2 a2 c2)) (by kernel_rfl) hS0 ?_
    intro hS0'
    refine wpAnyH_take (i := 0) (v := .pointer (some ⟨p, 0, none⟩)) rfl (by kernel_rfl) (by kernel_rfl) (by kernel_rfl) (fun _ _ _ h => h) (Or.inl ⟨by kernel_rfl, fun w0 hSw => ?_⟩) hS0' ?_
    · go_simp
    try simp only [Act.put, List.getElem_toArray, List.getElem_cons_succ, List.getElem_cons_zero, List.setIfInBounds_toArray, List.set_cons_zero, List.set_cons_succ]
    refine wpAnyH_take (i := 1) (v := .slice (some ⟨g, off, none⟩) n c) rfl (by kernel_rfl) (by kernel_rfl) (by kernel_rfl) (fun _ _ _ h => h) (Or.inl ⟨by kernel_rfl, fun w0 hSw => ?_⟩) hS0' ?_
    · go_simp
    try simp only [Act.put, List.getElem_toArray, List.getElem_cons_succ, List.getElem_cons_zero, List.setIfInBounds_toArray, List.set_cons_zero, List.set_cons_succ]
    refine wpAnyH_take (i := 2) (v := .int .i64 (i : Int)) rfl (by kernel_rfl) (by kernel_rfl) (by kernel_rfl) (fun _ _ _ h => h) (Or.inl ⟨by kernel_rfl, fun w0 hSw => ?_⟩) hS0' ?_
    · go_simp
    try simp only [Act.put, List.getElem_toArray, List.getElem_cons_succ, List.getElem_cons_zero, List.setIfInBounds_toArray, List.set_cons_zero, List.set_cons_succ]
    refine wpAnyH_take (i := 3) (v := .pointer (some ⟨g, off + i, none⟩)) rfl (by kernel_rfl) (by kernel_rfl) (by kernel_rfl) (fun _ _ _ h => h) (Or.inl ⟨by kernel_rfl, fun w0 hSw => ?_⟩) hS0' ?_
    · go_simp
    try simp only [Act.put, List.getElem_toArray, List.getElem_cons_succ, List.getElem_cons_zero, List.setIfInBounds_toArray, List.set_cons_zero, List.set_cons_succ]
    refine wpAnyH_take (i := 4) (v := .string x) rfl (by kernel_rfl) (by kernel_rfl) (by kernel_rfl) (fun _ _ _ h => h) (Or.inl ⟨by kernel_rfl, fun w0 hSw => ?_⟩) hS0' ?_
    · have cc := HC9.out _ hSw
      go_simp
    try simp only [Act.put, List.getElem_toArray, List.getElem_cons_succ, List.getElem_cons_zero, List.setIfInBounds_toArray, List.set_cons_zero, List.set_cons_succ]
    refine wpAnyH_take (i := 7) (v := .int .i64 e2) rfl (by kernel_rfl) (by kernel_rfl) (by kernel_rfl) (fun _ _ _ h => h) (Or.inl ⟨by kernel_rfl, fun w0 hSw => ?_⟩) hS0' ?_
    · go_simp
    try simp only [Act.put, List.getElem_toArray, List.getElem_cons_succ, List.getElem_cons_zero, List.setIfInBounds_toArray, List.set_cons_zero, List.set_cons_succ]
    refine wpAnyH_ready (rs := [5]) (by kernel_rfl) (by simp) ?_
    refine AllReadyH.cons (by rfl) ?_ AllReadyH.nil
    intro K hK
    go_simp
    refine (turn_c p k1 x _ HKD.out (by omega)).mono ?_
    rintro e w5 ⟨rfl, hk5, ho5⟩
    rw [← HK2.out] at hk5
    rw [← HE2.out]
    refine hK.out _ _ (hS0'.only ho5 hpw (by omega) (by omega) (fun g off e => (HF1.out g off e).1) (fun g off e => (HF2.out g off e).1) HLT.out) (fun hS1 => ?_)
    clear hK K
    refine wpAnyH_ready (rs := [6]) (by kernel_rfl) (by simp) ?_
    refine AllReadyH.cons (by rfl) ?_ AllReadyH.nil
    intro K hK
    go_simp
    refine (num_c _ _).mono ?_
    rintro e w6 ⟨rfl, rfl⟩
    refine hK.out _ _ hS1 (fun hS2 => ?_)
    clear hK K
    refine wpAnyH_take (i := 8) (v := .bool false) rfl (by kernel_rfl) (by kernel_rfl) (by kernel_rfl) (fun _ _ _ h => h) (Or.inl ⟨by kernel_rfl, fun w0 hSw => ?_⟩) hS2 ?_
    · go_simp
    try simp only [Act.put, List.getElem_toArray, List.getElem_cons_succ, List.getElem_cons_zero, List.setIfInBounds_toArray, List.set_cons_zero, List.set_cons_succ]
    refine wpAnyH_take (i := 9) (v := .bool false) rfl (by kernel_rfl) (by kernel_rfl) (by kernel_rfl) (fun _ _ _ h => h) (Or.inl ⟨by kernel_rfl, fun w0 hSw => ?_⟩) hS2 ?_
    · go_simp
    try simp only [Act.put, List.getElem_toArray, List.getElem_cons_succ, List.getElem_cons_zero, List.setIfInBounds_toArray, List.set_cons_zero, List.set_cons_succ]
    refine wpAnyH_take (i := 10) (v := .pointer (some ⟨p, 0, none⟩)) rfl (by kernel_rfl) (by kernel_rfl) (by kernel_rfl) (fun _ _ _ h => h) (Or.inl ⟨by kernel_rfl, fun w0 hSw => ?_⟩) hS2 ?_
    · go_simp
    try simp only [Act.put, List.getElem_toArray, List.getElem_cons_succ, List.getElem_cons_zero, List.setIfInBounds_toArray, List.set_cons_zero, List.set_cons_succ]
    refine wpAnyH_take (i := 12) (v := .agg #[.int .i64 (k2.first : Int), .slice a2 k2.ms.length c2]) rfl (by kernel_rfl) (by kernel_rfl) (by kernel_rfl) (fun _ _ _ h => h) ?_ hS2 ?_
    · exact yieldsIf_load_blk (by kernel_rfl) 27 (.tmp 12) (by kernel_rfl) G (by kernel_rfl) 27 #[.int .i64 (k2.first : Int), .slice a2 k2.ms.length c2] _ (fun _ h => h.gb) Tryz.underlying27 rfl infoKR
    try simp only [Act.put, List.getElem_toArray, List.getElem_cons_succ, List.getElem_cons_zero, List.setIfInBounds_toArray, List.set_cons_zero, List.set_cons_succ]
    refine wpAnyH_ready (rs := [11]) (by kernel_rfl) (by simp) ?_
    refine AllReadyH.cons (by rfl) ?_ AllReadyH.nil
    intro K hK
    go_simp
    refine (newestk_c p k2 _ hk5 (by omega)).mono ?_
    rintro e w7 ⟨rfl, hb7⟩
    rw [← HNA.out]
    have hk7 := hk5.below hb7
    refine hK.out _ _ (hS2.below hb7) (fun hS3 => ?_)
    clear hK K
    refine wpAnyH_ready (rs := [13]) (by kernel_rfl) (by simp) ?_
    refine AllReadyH.cons (by rfl) ?_ AllReadyH.nil
    intro K hK
    go_simp
    refine (rnewest_c k2.first a2 k2.ms.length c2 _ (by omega) hpos2 (by omega)).mono ?_
    rintro e w8 ⟨rfl, hb8⟩
    rw [← HNB.out]
    have hk8 := hk7.below hb8
    refine hK.out _ _ (hS3.below hb8) (fun hS4 => ?_)
    clear hK K
    refine wpAnyH_take (i := 14) (v := .bool false) rfl (by kernel_rfl) (by kernel_rfl) (by kernel_rfl) (fun _ _ _ h => h) (Or.inl ⟨by kernel_rfl, fun w0 hSw => ?_⟩) hS4 ?_
    · go_simp
    try simp only [Act.put, List.getElem_toArray, List.getElem_cons_succ, List.getElem_cons_zero, List.setIfInBounds_toArray, List.set_cons_zero, List.set_cons_succ]
    refine wpAnyH_take (i := 15) (v := .bool false) rfl (by kernel_rfl) (by kernel_rfl) (by kernel_rfl) (fun _ _ _ h => h) (Or.inl ⟨by kernel_rfl, fun w0 hSw => ?_⟩) hS4 ?_
    · go_simp
    try simp only [Act.put, List.getElem_toArray, List.getElem_cons_succ, List.getElem_cons_zero, List.setIfInBounds_toArray, List.set_cons_zero, List.set_cons_succ]
    refine wpAnyH_done (by kernel_rfl) ?_ _
    go_wp2_with (first | (refine wpl_load_blk rfl 27 _ rfl G rfl 27 _ _ hS4.gb Tryz.underlying27 rfl infoKR ?_) | (refine wpl_store_blk rfl 27 _ _ rfl q 27 _ #[.int .i64 (k2.first : Int), .slice a2 k2.ms.length c2] rfl rfl hS4.ts.want rfl infoKR (by kernel_rfl) ?_; intro w9 hB9 hO9 hz9))
    go_roundw
    case rel =>
      refine ⟨i + 1, k2, a2, c2, by omega, by go_num, HN2.out, hf2, ⟨⟨hO9.blk hS4.ts.res (by omega), hB9, hS4.rk2.only hO9 (fun g off e => (HF2.out g off e).2.2.1), hS4.ts.st.only hO9 (fun g off e h0 => by have := HLT.out g off e h0; omega), hS4.ts.bel.trans (hO9.below hS4.ts.bel.size (by omega))⟩, hO9.blk hk8.blk (by omega), hk8.pos, hk8.len, hk8.may⟩, fun g off e => ⟨(HF2.out g off e).1, (HF2.out g off e).2.1, (HF2.out g off e).2.2.1⟩⟩
    case measure => simp [intOf]; omega
  obtain rfl : i = n := by omega
  have hall : l.take i = l := List.take_of_length_le (by rw [HL.out]; exact Nat.le_refl _)
  have HKE : Hid (k1 = turnsK ⟨0, [f]⟩ l) := Lib.hid (by rw [HK1.out, hall, HK.out])
  have HTE : Hid (TE w p q k1 a1 c1 wr) := Lib.hid ⟨HT.out.2, HT.out.1.want, HT.out.1.rk, HT.out.1.bel, _, rfl, HT.out.1.res⟩
  obtain ⟨N, hN⟩ : ∃ N : Int, N = (k1.newest : Int) := ⟨_, rfl⟩
  have HNA := Lib.hid hN
  have HNB : Hid (N = ((k1.first + k1.ms.length - 1 : Nat) : Int)) := Lib.hid hN
  have hqw : w.heap.size < q := by omega
  have hji : ¬ ((i : Int) < (i : Int)) := by omega
  clear hN hall HT HK1
  go_wp2_with fail
  have hS0 : (TE w p q k1 a1 c1) (World.drew wr) := HTE.out.below (Below.refl _ _).drew
  refine wp_region_held_drew (S := (TE w p q k1 a1 c1)) (by kernel_rfl) hS0 ?_
  intro hS0'
  refine wpAnyH_take (i := 0) (v := .pointer (some ⟨p, 0, none⟩)) rfl (by kernel_rfl) (by kernel_rfl) (by kernel_rfl) (fun _ _ _ h => h) (Or.inl ⟨by kernel_rfl, fun w0 hSw => ?_⟩) hS0' ?_
  · go_simp
  try simp only [Act.put, List.getElem_toArray, List.getElem_cons_succ, List.getElem_cons_zero, List.setIfInBounds_toArray, List.set_cons_zero, List.set_cons_succ]
  refine wpAnyH_take (i := 1) (v := .agg #[.int .i64 (k1.first : Int), .slice a1 k1.ms.length c1]) rfl (by kernel_rfl) (by kernel_rfl) (by kernel_rfl) (fun _ _ _ h => h) ?_ hS0' ?_
  · exact yieldsIf_load_blk (by kernel_rfl) 27 (.tmp 9) (by kernel_rfl) q (by kernel_rfl) 27 #[.int .i64 (k1.first : Int), .slice a1 k1.ms.length c1] _ (fun _ h => h.want) Tryz.underlying27 rfl infoKR
  try simp only [Act.put, List.getElem_toArray, List.getElem_cons_succ, List.getElem_cons_zero, List.setIfInBounds_toArray, List.set_cons_zero, List.set_cons_succ]
  refine wpAnyH_take (i := 2) (v := .pointer (some ⟨p, 0, none⟩)) rfl (by kernel_rfl) (by kernel_rfl) (by kernel_rfl) (fun _ _ _ h => h) (Or.inl ⟨by kernel_rfl, fun w0 hSw => ?_⟩) hS0' ?_
  · go_simp
  try simp only [Act.put, List.getElem_toArray, List.getElem_cons_succ, List.getElem_cons_zero, List.setIfInBounds_toArray, List.set_cons_zero, List.set_cons_succ]
  refine wpAnyH_take (i := 4) (v := .agg #[.int .i64 (k1.first : Int), .slice a1 k1.ms.length c1]) rfl (by kernel_rfl) (by kernel_rfl) (by kernel_rfl) (fun _ _ _ h => h) ?_ hS0' ?_
  · exact yieldsIf_load_blk (by kernel_rfl) 27 (.tmp 9) (by kernel_rfl) q (by kernel_rfl) 27 #[.int .i64 (k1.first : Int), .slice a1 k1.ms.length c1] _ (fun _ h => h.want) Tryz.underlying27 rfl infoKR
  try simp only [Act.put, List.getElem_toArray, List.getElem_cons_succ, List.getElem_cons_zero, List.setIfInBounds_toArray, List.set_cons_zero, List.set_cons_succ]
  refine wpAnyH_ready (rs := [3]) (by kernel_rfl) (by simp) ?_
  refine AllReadyH.cons (by rfl) ?_ AllReadyH.nil
  intro K hK
  go_simp
  refine (newestk_c p k1 _ hS0'.ks (by omega)).mono ?_
  rintro e w7 ⟨rfl, hb7⟩
  rw [← HNA.out]
  refine hK.out _ _ (hS0'.below hb7) (fun hS1 => ?_)
  clear hK K
  refine wpAnyH_ready (rs := [5]) (by kernel_rfl) (by simp) ?_
  refine AllReadyH.cons (by rfl) ?_ AllReadyH.nil
  intro K hK
  go_simp
  refine (rnewest_c k1.first a1 k1.ms.length c1 _ (by omega) hpos (by omega)).mono ?_
  rintro e w8 ⟨rfl, hb8⟩
  rw [← HNB.out]
  refine hK.out _ _ (hS1.below hb8) (fun hS2 => ?_)
  clear hK K
  refine wpAnyH_take (i := 6) (v := .bool true) rfl (by kernel_rfl) (by kernel_rfl) (by kernel_rfl) (fun _ _ _ h => h) (Or.inl ⟨by kernel_rfl, fun w0 hSw => ?_⟩) hS2 ?_
  · go_simp
  try simp only [Act.put, List.getElem_toArray, List.getElem_cons_succ, List.getElem_cons_zero, List.setIfInBounds_toArray, List.set_cons_zero, List.set_cons_succ]
  refine wpAnyH_take (i := 7) (v := .pointer (some ⟨p, 0, none⟩)) rfl (by kernel_rfl) (by kernel_rfl) (by kernel_rfl) (fun _ _ _ h => h) (Or.inl ⟨by kernel_rfl, fun w0 hSw => ?_⟩) hS2 ?_
  · go_simp
  try simp only [Act.put, List.getElem_toArray, List.getElem_cons_succ, List.getElem_cons_zero, List.setIfInBounds_toArray, List.set_cons_zero, List.set_cons_succ]
  refine wpAnyH_ready (rs := [8]) (by kernel_rfl) (by simp) ?_
  refine all_readyH_yes (by rfl) (by kernel_rfl) ?_ AllReadyH.nil
  intro K hK
  obtain ⟨cs, hcs, hbs⟩ := hS2.res
  with_reducible refine wp_store_blk 27 (.tmp 5) (.tmp 75) ?_ w.heap.size 27 _ #[.int .i64 (k1.first : Int), .slice a1 k1.ms.length c1] ?_ ?_ hbs ?_ ?_ (by kernel_rfl) ?_
  · kernel_rfl
  · kernel_rfl
  · kernel_rfl
  · rw [hcs]; rfl
  · exact infoKR
  intro w9 hB9 hO9 hz9
  try simp only [Act.put, List.getElem_toArray, List.getElem_cons_succ, List.getElem_cons_zero, List.setIfInBounds_toArray, List.set_cons_zero, List.set_cons_succ]
  refine hK.out _ _ (hS2.put hB9 hO9 hqw hpw (fun g off e => (HF1.out g off e).2.1)) (fun hS3 => ?_)
  clear hK K
  refine wpAnyH_take (i := 9) (v := .bool true) rfl (by kernel_rfl) (by kernel_rfl) (by kernel_rfl) (fun _ _ _ h => h) (Or.inl ⟨by kernel_rfl, fun w0 hSw => ?_⟩) hS3 ?_
  · go_simp
  try simp only [Act.put, List.getElem_toArray, List.getElem_cons_succ, List.getElem_cons_zero, List.setIfInBounds_toArray, List.set_cons_zero, List.set_cons_succ]
  refine wpAnyH_done (by kernel_rfl) ?_ _
  go_wp2_with fail
  exact bodyPost_ret (results_tct rfl _ _ w.heap.size 27 _ _ rfl hB9 Tryz.underlying27 rfl infoKR) rfl ⟨hS3.bel, .inr ⟨p, k1, a1, c1, rfl, HKE.out, by omega, by omega, hS3.ks, hS3.rk, fun g off e => (HF1.out g off e).1⟩⟩
end Go.Proofs.YtomnjhhpeglcnaaGreat
