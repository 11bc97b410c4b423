/- Keys that are the same, and copies that go on apart: the walk. -/
import Derived.Test.YtomnjhhpeglcnaaGreatYa
import Derived.Test.YtomnjhhpeglcnaaGreatZ9
import Derived.Test.YtomnjhhpeglcnaaGreatYc
namespace Go.Proofs.YtomnjhhpeglcnaaGreat
open Go.RowKit
set_option linter.unusedSimpArgs false
set_option linter.unusedVariables false
set_option maxRecDepth 100000

/-- What the comparing holds: three of the document's keys. -/
structure TK (w : World) (Q QA QB : Nat) (k : KS) (a' : Option Addr) (c' : Nat) (ka : KS) (a2 : Option Addr) (c2 : Nat) (kb : KS) (a3 : Option Addr) (c3 : Nat) (W : World) : Prop where
  want : Blk W Q 27 (kval k.first a' k.ms.length c')
  wa : Blk W QA 27 (kval ka.first a2 ka.ms.length c2)
  wb : Blk W QB 27 (kval kb.first a3 kb.ms.length c3)
  rk : RK W a' k.ms.length c' k
  ra : RK W a2 ka.ms.length c2 ka
  rb : RK W a3 kb.ms.length c3 kb
  bel : Below w.heap.size w W
theorem TK.below {w W W' : World} {Q QA QB : Nat} {k ka kb : KS} {a' a2 a3 : Option Addr} {c' c2 c3 : Nat} (h : TK w Q QA QB k a' c' ka a2 c2 kb a3 c3 W) (hb : Below W.heap.size W W') : TK w Q QA QB k a' c' ka a2 c2 kb a3 c3 W' :=
  ⟨h.want.below hb h.want.lt, h.wa.below hb h.wa.lt, h.wb.below hb h.wb.lt, h.rk.below hb, h.ra.below hb, h.rb.below hb, h.bel.trans (hb.mono h.bel.size)⟩
/-- A block that none of them is. -/
def Apt (Q QA QB : Nat) (a' a2 a3 : Option Addr) (G : Nat) : Prop := Q ≠ G ∧ QA ≠ G ∧ QB ≠ G ∧ (∀ g off, a' = some ⟨g, off, none⟩ → g ≠ G) ∧ (∀ g off, a2 = some ⟨g, off, none⟩ → g ≠ G) ∧ (∀ g off, a3 = some ⟨g, off, none⟩ → g ≠ G)
theorem TK.only {w W W' : World} {Q QA QB G : Nat} {k ka kb : KS} {a' a2 a3 : Option Addr} {c' c2 c3 : Nat} (h : TK w Q QA QB k a' c' ka a2 c2 kb a3 c3 W) (ho : Only G W W') (hG : w.heap.size ≤ G) (hA : Apt Q QA QB a' a2 a3 G) : TK w Q QA QB k a' c' ka a2 c2 kb a3 c3 W' :=
  ⟨ho.blk h.want hA.1, ho.blk h.wa hA.2.1, ho.blk h.wb hA.2.2.1, h.rk.only ho hA.2.2.2.1, h.ra.only ho hA.2.2.2.2.1, h.rb.only ho hA.2.2.2.2.2, h.bel.trans (ho.below h.bel.size hG)⟩
theorem turnif_ok (k : KS) (s : ByteArray) (k2 : KS) (hk2 : k2 = if mayM s then k.turn s else k) (h1 : 0 < k.ms.length) (h3 : k.ms.length ≤ 3) (hm : ∀ x ∈ k.ms, mayM x = true) : 0 < k2.ms.length ∧ k2.ms.length ≤ 3 ∧ k2.first ≤ k.first + 1 ∧ ∀ x ∈ k2.ms, mayM x = true := by
  by_cases hs : mayM s = true
  · rw [if_pos hs] at hk2
    subst hk2
    unfold KS.turn
    split
    · rename_i h
      refine ⟨by simp, by simp; omega, Nat.le_refl _, fun m hm' => ?_⟩
      rcases List.mem_append.1 hm' with hm' | hm'
      · exact hm m (List.mem_of_mem_drop hm')
      · simp at hm'; subst hm'; exact hs
    · rename_i h
      refine ⟨by simp, by simp; omega, Nat.le_succ _, fun m hm' => ?_⟩
      rcases List.mem_append.1 hm' with hm' | hm'
      · exact hm m hm'
      · simp at hm'; subst hm'; exact hs
  · rw [if_neg hs] at hk2
    subst hk2
    exact ⟨h1, h3, Nat.le_succ _, hm⟩
set_option maxHeartbeats 32000000 in
theorem keys_walk (f : ByteArray) (a1 : Option Addr) (len1 cap1 : Nat) (z1 : List ByteArray) (one two : ByteArray) (w : World) (v1 : Strs w a1 len1 z1 ∧ len1 ≤ maxLen) :
    Calls Tryz.prog 6 #[.string f, .slice a1 len1 cap1, .string one, .string two] w fun e w' => e = .returned (.bool true) ∧ Below w.heap.size w w' := by
  have HS := Lib.hid v1.1
  have hm1 := v1.2
  have hl1 := v1.1.1
  clear v1
  go_enter Tryz.func6, Tryz.ntmps6
  go_wp2_with fail
  refine (few_c f a1 len1 cap1 z1 w HS.out hm1).mono ?_
  rintro e w' ⟨rfl, rfl⟩
  by_cases hfw : fewB f z1 = true
  rotate_left
  · have hfw' : fewB f z1 = false := by simpa using hfw
    rw [hfw']
    clear hfw hfw'
    go_wp2_with fail
    refine (tworks_c w).mono ?_
    rintro e w9 ⟨rfl, hb9⟩
    have HB9 := Lib.hid (hb9)
    clear hb9
    go_wp2_with fail
    go_ret
    exact ⟨rfl, HB9.out⟩
  obtain ⟨hf1, hf2, hf3⟩ := fewB_parts hfw
  rw [hfw]
  rw [hl1] at hf2
  clear hfw hm1 hf3
  have hal := (Below.refl w.heap.size w).alloc (Nat.le_refl _) (.cells #[.string two] 9)
  have HL1 := Lib.hid (Strs.lit (W := w) (cs := #[.string two]) (zs := [two]) (n := 1) 9 rfl rfl)
  have HS1 := Lib.hid (HS.out.below (Nat.le_refl _) hal)
  have HB1 := Lib.hid hal
  clear hal HS
  go_wp2_with fail
  generalize w.alloc (.cells #[.string two] 9) = w1 at HL1 HS1 HB1 ⊢
  refine (few_c one _ 1 1 [two] w1 HL1.out (by decide)).mono ?_
  rintro e w' ⟨rfl, rfl⟩
  by_cases hfo : fewB one [two] = true
  rotate_left
  · have hfo' : fewB one [two] = false := by simpa using hfo
    rw [hfo']
    clear hfo hfo'
    go_wp2_with fail
    refine (tworks_c w1).mono ?_
    rintro e w9 ⟨rfl, hb9⟩
    have HB9 := Lib.hid (HB1.out.trans (hb9.mono HB1.out.size))
    clear hb9
    go_wp2_with fail
    go_ret
    exact ⟨rfl, HB9.out⟩
  rw [hfo]
  clear hfo HL1
  go_wp2_with fail
  refine (turnedK_c f a1 len1 cap1 z1 w1 HS1.out hf2).mono ?_
  rintro e w3 ⟨hb3, (⟨hmf, rfl⟩ | ⟨p, k, a', c', rfl, hk, hkf, hwp, hks, hrk, hne⟩)⟩
  · have HB3 := Lib.hid (HB1.out.trans ((hb3.alloc hb3.size (.cells #[.int .i64 0, .slice none 0 0] 27)).mono HB1.out.size))
    clear hb3
    unfold kval
    go_wp2_with fail
    refine (tworks_c _).mono ?_
    rintro e w9 ⟨rfl, hb9⟩
    have HB9 := Lib.hid (HB3.out.trans (hb9.mono HB3.out.size))
    clear hb9
    go_wp2_with fail
    go_ret
    exact ⟨rfl, HB9.out⟩
  have hal := (Below.refl w3.heap.size w3).alloc (Nat.le_refl _) (.cells #[.int .i64 (k.first : Int), .slice a' k.ms.length c'] 27)
  have hb4 := hb3.alloc hb3.size (.cells #[.int .i64 (k.first : Int), .slice a' k.ms.length c'] 27)
  obtain ⟨Q, hQ⟩ : ∃ Q, Q = w3.heap.size := ⟨_, rfl⟩
  have HQ := Lib.hid hQ
  have HW4 : Hid (Blk (w3.alloc (.cells #[.int .i64 (k.first : Int), .slice a' k.ms.length c'] 27)) Q 27 #[.int .i64 (k.first : Int), .slice a' k.ms.length c']) := Lib.hid (by rw [hQ]; exact Blk.new _ _ _)
  have HB4 := Lib.hid (HB1.out.trans (hb4.mono HB1.out.size))
  have HK4 := Lib.hid (hks.below hal)
  have HR4 := Lib.hid (RK.below hrk hal)
  have hpos := hks.pos
  have hlen := hks.len
  have HMAY := Lib.hid hks.may
  have HNE := Lib.hid hne
  have hpQ : p < Q := by rw [hQ]; exact hks.blk.lt
  have hwp : w.heap.size ≤ p := Nat.le_trans HB1.out.size hwp
  clear hb3 hb4 hal hks hrk hk hQ hne HB1 HS1
  unfold kval
  go_wp2_with fail
  rw [← HQ.out]
  clear HQ
  generalize w3.alloc (.cells #[.int .i64 (k.first : Int), .slice a' k.ms.length c'] 27) = w4 at HW4 HB4 HK4 HR4 ⊢
  refine (copyk_c p k w4 HK4.out).mono ?_
  rintro e w5 ⟨⟨cc, rfl, hcc, hc5⟩, hb5⟩
  have hQc : Q < cc := Nat.lt_of_lt_of_le HW4.out.lt hcc
  have HNR : Hid (∀ g off, a' = some ⟨g, off, none⟩ → g < cc) := Lib.hid (fun g off e => Nat.lt_of_lt_of_le (HR4.out.lt hpos e) hcc)
  have HB5 := Lib.hid (HB4.out.trans (hb5.mono HB4.out.size))
  have HW5 := Lib.hid (HW4.out.below hb5 HW4.out.lt)
  have HK5 := Lib.hid (HK4.out.below hb5)
  have HR5 := Lib.hid (RK.below HR4.out hb5)
  have HC5 := Lib.hid hc5
  clear hcc hc5 hb5 HB4 HW4 HK4 HR4
  go_wp2_with fail
  refine (samek_c p cc k k w5 HK5.out HC5.out).mono ?_
  rintro e w6 ⟨rfl, hb6⟩
  rw [decide_eq_true (⟨rfl, rfl⟩ : k.first = k.first ∧ k.ms = k.ms)]
  have HB6 := Lib.hid (HB5.out.trans (hb6.mono HB5.out.size))
  have HW6 := Lib.hid (HW5.out.below hb6 HW5.out.lt)
  have HK6 := Lib.hid (HK5.out.below hb6)
  have HC6 := Lib.hid (HC5.out.below hb6)
  have HR6 := Lib.hid (RK.below HR5.out hb6)
  clear hb6 HB5 HW5 HK5 HR5 HC5
  obtain ⟨ka, hka⟩ : ∃ ka : KS, ka = if mayM one then k.turn one else k := ⟨_, rfl⟩
  obtain ⟨kb, hkb⟩ : ∃ kb : KS, kb = if mayM two then k.turn two else k := ⟨_, rfl⟩
  obtain ⟨e1, he1⟩ : ∃ e1 : Int, e1 = if mayM one then 0 else 2 := ⟨_, rfl⟩
  obtain ⟨e2, he2⟩ : ∃ e2 : Int, e2 = if mayM two then 0 else 2 := ⟨_, rfl⟩
  have HKA := Lib.hid hka; have HKB := Lib.hid hkb; have HE1 := Lib.hid he1; have HE2 := Lib.hid he2
  obtain ⟨hpa, hla, hfa, hma⟩ := turnif_ok k one ka hka hpos hlen HMAY.out
  obtain ⟨hpb, hlb, hfb, hmb⟩ := turnif_ok k two kb hkb hpos hlen HMAY.out
  have HMA := Lib.hid hma; have HMB := Lib.hid hmb
  clear hka hkb he1 he2 hma hmb
  go_wp2_with (refine wpl_load_blk rfl 27 _ rfl Q rfl 27 _ _ HW6.out Tryz.underlying27 rfl infoKR ?_)
  change Calls Tryz.prog 22 #[.agg (kval k.first a' k.ms.length c'), .string one] w6 _
  refine (rturn_any k ka e1 a' k.ms.length c' one w6 HR6.out hpos hlen (by omega) HKA.out HE1.out).mono ?_
  rintro e w7 ⟨⟨a2, c2, rfl, hr2, hlo2⟩, hb7⟩
  have hal := (Below.refl w7.heap.size w7).alloc (Nat.le_refl _) (.cells #[.int .i64 (ka.first : Int), .slice a2 ka.ms.length c2] 27)
  have hb8 := hb7.alloc hb7.size (.cells #[.int .i64 (ka.first : Int), .slice a2 ka.ms.length c2] 27)
  obtain ⟨QA, hQA⟩ : ∃ QA, QA = w7.heap.size := ⟨_, rfl⟩
  have HQ := Lib.hid hQA
  have hcQA : cc < QA := by rw [hQA]; exact Nat.lt_of_lt_of_le HC6.out.blk.lt hb7.size
  have HWA : Hid (Blk (w7.alloc (.cells #[.int .i64 (ka.first : Int), .slice a2 ka.ms.length c2] 27)) QA 27 #[.int .i64 (ka.first : Int), .slice a2 ka.ms.length c2]) := Lib.hid (by rw [hQA]; exact Blk.new _ _ _)
  have HNA : Hid (∀ g off, a2 = some ⟨g, off, none⟩ → g ≠ p ∧ g ≠ cc) := Lib.hid (fun g off e => by
    rcases hlo2 g off e with e9 | e9
    · have e8 := HC6.out.blk.lt; have e7 := HK6.out.blk.lt; omega
    · rw [e9] at e; have e8 := HNE.out g off e; have e7 := HNR.out g off e; omega)
  have HB8 := Lib.hid (HB6.out.trans (hb8.mono HB6.out.size))
  have HW8 := Lib.hid (HW6.out.below hb8 HW6.out.lt)
  have HK8 := Lib.hid (HK6.out.below hb8)
  have HC8 := Lib.hid (HC6.out.below hb8)
  have HR8 := Lib.hid (RK.below HR6.out hb8)
  have HRA := Lib.hid (RK.below hr2 hal)
  clear hal hb7 hb8 hQA hr2 hlo2 HB6 HW6 HK6 HC6 HR6
  unfold kval
  go_wp2_with (refine wpl_load_blk rfl 27 _ rfl Q rfl 27 _ _ HW8.out Tryz.underlying27 rfl infoKR ?_)
  rw [← HQ.out]
  clear HQ
  generalize w7.alloc (.cells #[.int .i64 (ka.first : Int), .slice a2 ka.ms.length c2] 27) = w8 at HWA HB8 HW8 HK8 HC8 HR8 HRA ⊢
  change Calls Tryz.prog 22 #[.agg (kval k.first a' k.ms.length c'), .string two] w8 _
  refine (rturn_any k kb e2 a' k.ms.length c' two w8 HR8.out hpos hlen (by omega) HKB.out HE2.out).mono ?_
  rintro e w9 ⟨⟨a3, c3, rfl, hr3, hlo3⟩, hb9⟩
  have hal := (Below.refl w9.heap.size w9).alloc (Nat.le_refl _) (.cells #[.int .i64 (kb.first : Int), .slice a3 kb.ms.length c3] 27)
  have hb10 := hb9.alloc hb9.size (.cells #[.int .i64 (kb.first : Int), .slice a3 kb.ms.length c3] 27)
  obtain ⟨QB, hQB⟩ : ∃ QB, QB = w9.heap.size := ⟨_, rfl⟩
  have HQ := Lib.hid hQB
  have hAB : QA < QB := by rw [hQB]; exact Nat.lt_of_lt_of_le HWA.out.lt hb9.size
  have hNP : Hid (Apt Q QA QB a' a2 a3 p) := Lib.hid ⟨by omega, by omega, by omega, HNE.out, fun g off e => (HNA.out g off e).1, fun g off e => by
    rcases hlo3 g off e with e9 | e9
    · have e8 := HC8.out.blk.lt; have e7 := HK8.out.blk.lt; omega
    · rw [e9] at e; exact HNE.out g off e⟩
  have hNC : Hid (Apt Q QA QB a' a2 a3 cc) := Lib.hid ⟨by omega, by omega, by omega, fun g off e => by have e7 := HNR.out g off e; omega, fun g off e => (HNA.out g off e).2, fun g off e => by
    rcases hlo3 g off e with e9 | e9
    · have e8 := HC8.out.blk.lt; have e7 := HK8.out.blk.lt; omega
    · rw [e9] at e; have e7 := HNR.out g off e; omega⟩
  have HTK : Hid (TK w Q QA QB k a' c' ka a2 c2 kb a3 c3 (w9.alloc (.cells #[.int .i64 (kb.first : Int), .slice a3 kb.ms.length c3] 27))) := Lib.hid ⟨HW8.out.below hb10 HW8.out.lt, HWA.out.below hb10 HWA.out.lt, by rw [hQB]; exact Blk.new _ _ _, RK.below HR8.out hb10, RK.below HRA.out hb10, RK.below hr3 hal, HB8.out.trans (hb10.mono HB8.out.size)⟩
  have HP10 := Lib.hid (HK8.out.below hb10)
  have HC10 := Lib.hid (HC8.out.below hb10)
  clear hal hb9 hb10 hQB hr3 hlo3 HB8 HW8 HK8 HC8 HR8 HRA HWA HNE HNA HNR
  unfold kval
  go_wp2_with fail
  rw [← HQ.out]
  clear HQ
  generalize w9.alloc (.cells #[.int .i64 (kb.first : Int), .slice a3 kb.ms.length c3] 27) = w10 at HTK HP10 HC10 ⊢
  have HPD := Lib.hid (HP10.out.below (Below.refl _ _).drew)
  have HCD := Lib.hid (HC10.out.below (Below.refl _ _).drew)
  obtain ⟨ba, hba⟩ : ∃ ba, ba = decide (ka.first = k.first ∧ ka.ms = k.ms) := ⟨_, rfl⟩
  obtain ⟨bb, hbb⟩ : ∃ bb, bb = decide (kb.first = ka.first ∧ kb.ms = ka.ms) := ⟨_, rfl⟩
  have HBA := Lib.hid hba
  have HBB := Lib.hid hbb
  have HBC : Hid (bb = decide (ka.first = kb.first ∧ ka.ms = kb.ms)) := Lib.hid (by rw [hbb]; congr 1; exact propext ⟨fun h => ⟨h.1.symm, h.2.symm⟩, fun h => ⟨h.1.symm, h.2.symm⟩⟩)
  clear hba hbb HP10 HC10
  have hS0 : (TK w Q QA QB k a' c' ka a2 c2 kb a3 c3) (World.drew w10) := HTK.out.below (Below.refl _ _).drew
  refine wp_region_held_drew (S := (TK w Q QA QB k a' c' ka a2 c2 kb a3 c3)) (by kernel_rfl) hS0 ?_
  intro hS0'
  refine wpAnyH_take (i := 0) (v := .pointer (some ⟨p, 0, none⟩)) rfl (by kernel_rfl) (by kernel_rfl) (by kernel_rfl) (fun _ _ _ h => h) (Or.inl ⟨by kernel_rfl, fun w0 hSw => ?_⟩) hS0' ?_
  · go_simp
  try simp only [Act.put, List.getElem_toArray, List.getElem_cons_succ, List.getElem_cons_zero, List.setIfInBounds_toArray, List.set_cons_zero, List.set_cons_succ]
  refine wpAnyH_take (i := 1) (v := .string one) rfl (by kernel_rfl) (by kernel_rfl) (by kernel_rfl) (fun _ _ _ h => h) (Or.inl ⟨by kernel_rfl, fun w0 hSw => ?_⟩) hS0' ?_
  · go_simp
  try simp only [Act.put, List.getElem_toArray, List.getElem_cons_succ, List.getElem_cons_zero, List.setIfInBounds_toArray, List.set_cons_zero, List.set_cons_succ]
  refine wpAnyH_take (i := 4) (v := .int .i64 e1) rfl (by kernel_rfl) (by kernel_rfl) (by kernel_rfl) (fun _ _ _ h => h) (Or.inl ⟨by kernel_rfl, fun w0 hSw => ?_⟩) hS0' ?_
  · go_simp
  try simp only [Act.put, List.getElem_toArray, List.getElem_cons_succ, List.getElem_cons_zero, List.setIfInBounds_toArray, List.set_cons_zero, List.set_cons_succ]
  refine wpAnyH_ready (rs := [2]) (by kernel_rfl) (by simp) ?_
  refine AllReadyH.cons (by rfl) ?_ AllReadyH.nil
  intro K hK
  go_simp
  refine (turn_c p k one _ HPD.out (by omega)).mono ?_
  rintro e w20 ⟨rfl, hp20, ho20⟩
  rw [← HKA.out] at hp20
  rw [← HE1.out]
  have hc20 : IsKeys w20 cc k := ⟨ho20.blk HCD.out.blk (by omega), HCD.out.pos, HCD.out.len, HCD.out.may⟩
  refine hK.out _ _ (hS0'.only ho20 hwp hNP.out) (fun hS1 => ?_)
  clear hK K
  refine wpAnyH_ready (rs := [3]) (by kernel_rfl) (by simp) ?_
  refine AllReadyH.cons (by rfl) ?_ AllReadyH.nil
  intro K hK
  go_simp
  refine (num_c _ _).mono ?_
  rintro e w21 ⟨rfl, rfl⟩
  refine hK.out _ _ hS1 (fun hS2 => ?_)
  clear hK K
  refine wpAnyH_take (i := 5) (v := .bool false) rfl (by kernel_rfl) (by kernel_rfl) (by kernel_rfl) (fun _ _ _ h => h) (Or.inl ⟨by kernel_rfl, fun w0 hSw => ?_⟩) hS2 ?_
  · go_simp
  try simp only [Act.put, List.getElem_toArray, List.getElem_cons_succ, List.getElem_cons_zero, List.setIfInBounds_toArray, List.set_cons_zero, List.set_cons_succ]
  refine wpAnyH_take (i := 6) (v := .bool false) rfl (by kernel_rfl) (by kernel_rfl) (by kernel_rfl) (fun _ _ _ h => h) (Or.inl ⟨by kernel_rfl, fun w0 hSw => ?_⟩) hS2 ?_
  · go_simp
  try simp only [Act.put, List.getElem_toArray, List.getElem_cons_succ, List.getElem_cons_zero, List.setIfInBounds_toArray, List.set_cons_zero, List.set_cons_succ]
  refine wpAnyH_take (i := 7) (v := .pointer (some ⟨p, 0, none⟩)) rfl (by kernel_rfl) (by kernel_rfl) (by kernel_rfl) (fun _ _ _ h => h) (Or.inl ⟨by kernel_rfl, fun w0 hSw => ?_⟩) hS2 ?_
  · go_simp
  try simp only [Act.put, List.getElem_toArray, List.getElem_cons_succ, List.getElem_cons_zero, List.setIfInBounds_toArray, List.set_cons_zero, List.set_cons_succ]
  refine wpAnyH_take (i := 8) (v := .pointer (some ⟨cc, 0, none⟩)) rfl (by kernel_rfl) (by kernel_rfl) (by kernel_rfl) (fun _ _ _ h => h) (Or.inl ⟨by kernel_rfl, fun w0 hSw => ?_⟩) hS2 ?_
  · go_simp
  try simp only [Act.put, List.getElem_toArray, List.getElem_cons_succ, List.getElem_cons_zero, List.setIfInBounds_toArray, List.set_cons_zero, List.set_cons_succ]
  refine wpAnyH_take (i := 10) (v := .agg #[.int .i64 (ka.first : Int), .slice a2 ka.ms.length c2]) rfl (by kernel_rfl) (by kernel_rfl) (by kernel_rfl) (fun _ _ _ h => h) ?_ hS2 ?_
  · exact yieldsIf_load_blk (by kernel_rfl) 27 (.tmp 13) (by kernel_rfl) QA (by kernel_rfl) 27 #[.int .i64 (ka.first : Int), .slice a2 ka.ms.length c2] _ (fun _ h => h.wa) Tryz.underlying27 rfl infoKR
  try simp only [Act.put, List.getElem_toArray, List.getElem_cons_succ, List.getElem_cons_zero, List.setIfInBounds_toArray, List.set_cons_zero, List.set_cons_succ]
  refine wpAnyH_take (i := 11) (v := .agg #[.int .i64 (k.first : Int), .slice a' k.ms.length c']) rfl (by kernel_rfl) (by kernel_rfl) (by kernel_rfl) (fun _ _ _ h => h) ?_ hS2 ?_
  · exact yieldsIf_load_blk (by kernel_rfl) 27 (.tmp 10) (by kernel_rfl) Q (by kernel_rfl) 27 #[.int .i64 (k.first : Int), .slice a' k.ms.length c'] _ (fun _ h => h.want) Tryz.underlying27 rfl infoKR
  try simp only [Act.put, List.getElem_toArray, List.getElem_cons_succ, List.getElem_cons_zero, List.setIfInBounds_toArray, List.set_cons_zero, List.set_cons_succ]
  refine wpAnyH_ready (rs := [9]) (by kernel_rfl) (by simp) ?_
  refine AllReadyH.cons (by rfl) ?_ AllReadyH.nil
  intro K hK
  go_simp
  refine (samek_c p cc ka k _ hp20 hc20).mono ?_
  rintro e w22 ⟨rfl, hb22⟩
  rw [← HBA.out]
  have hp22 := hp20.below hb22
  have hc22 := hc20.below hb22
  refine hK.out _ _ (hS2.below hb22) (fun hS3 => ?_)
  clear hK K
  refine wpAnyH_ready (rs := [12]) (by kernel_rfl) (by simp) ?_
  refine AllReadyH.cons (by rfl) ?_ AllReadyH.nil
  intro K hK
  go_simp
  refine (rsame_c ka k a2 ka.ms.length c2 a' k.ms.length c' _ hS3.ra hS3.rk hla hlen).mono ?_
  rintro e w23 ⟨rfl, hb23⟩
  rw [← HBA.out]
  have hp23 := hp22.below hb23
  have hc23 := hc22.below hb23
  refine hK.out _ _ (hS3.below hb23) (fun hS4 => ?_)
  clear hK K
  refine wpAnyH_take (i := 13) (v := .bool false) rfl (by kernel_rfl) (by kernel_rfl) (by kernel_rfl) (fun _ _ _ h => h) (Or.inl ⟨by kernel_rfl, fun w0 hSw => ?_⟩) hS4 ?_
  · go_simp
  try simp only [Act.put, List.getElem_toArray, List.getElem_cons_succ, List.getElem_cons_zero, List.setIfInBounds_toArray, List.set_cons_zero, List.set_cons_succ]
  refine wpAnyH_take (i := 14) (v := .bool false) rfl (by kernel_rfl) (by kernel_rfl) (by kernel_rfl) (fun _ _ _ h => h) (Or.inl ⟨by kernel_rfl, fun w0 hSw => ?_⟩) hS4 ?_
  · go_simp
  try simp only [Act.put, List.getElem_toArray, List.getElem_cons_succ, List.getElem_cons_zero, List.setIfInBounds_toArray, List.set_cons_zero, List.set_cons_succ]
  refine wpAnyH_take (i := 15) (v := .bool false) rfl (by kernel_rfl) (by kernel_rfl) (by kernel_rfl) (fun _ _ _ h => h) (Or.inl ⟨by kernel_rfl, fun w0 hSw => ?_⟩) hS4 ?_
  · go_simp
  try simp only [Act.put, List.getElem_toArray, List.getElem_cons_succ, List.getElem_cons_zero, List.setIfInBounds_toArray, List.set_cons_zero, List.set_cons_succ]
  refine wpAnyH_take (i := 16) (v := .pointer (some ⟨cc, 0, none⟩)) rfl (by kernel_rfl) (by kernel_rfl) (by kernel_rfl) (fun _ _ _ h => h) (Or.inl ⟨by kernel_rfl, fun w0 hSw => ?_⟩) hS4 ?_
  · go_simp
  try simp only [Act.put, List.getElem_toArray, List.getElem_cons_succ, List.getElem_cons_zero, List.setIfInBounds_toArray, List.set_cons_zero, List.set_cons_succ]
  refine wpAnyH_take (i := 17) (v := .string two) rfl (by kernel_rfl) (by kernel_rfl) (by kernel_rfl) (fun _ _ _ h => h) (Or.inl ⟨by kernel_rfl, fun w0 hSw => ?_⟩) hS4 ?_
  · go_simp
  try simp only [Act.put, List.getElem_toArray, List.getElem_cons_succ, List.getElem_cons_zero, List.setIfInBounds_toArray, List.set_cons_zero, List.set_cons_succ]
  refine wpAnyH_take (i := 20) (v := .int .i64 e2) rfl (by kernel_rfl) (by kernel_rfl) (by kernel_rfl) (fun _ _ _ h => h) (Or.inl ⟨by kernel_rfl, fun w0 hSw => ?_⟩) hS4 ?_
  · go_simp
  try simp only [Act.put, List.getElem_toArray, List.getElem_cons_succ, List.getElem_cons_zero, List.setIfInBounds_toArray, List.set_cons_zero, List.set_cons_succ]
  refine wpAnyH_ready (rs := [18]) (by kernel_rfl) (by simp) ?_
  refine AllReadyH.cons (by rfl) ?_ AllReadyH.nil
  intro K hK
  go_simp
  refine (turn_c cc k two _ hc23 (by omega)).mono ?_
  rintro e w24 ⟨rfl, hc24, ho24⟩
  rw [← HKB.out] at hc24
  rw [← HE2.out]
  have hp24 : IsKeys w24 p ka := ⟨ho24.blk hp23.blk (by omega), hp23.pos, hp23.len, hp23.may⟩
  refine hK.out _ _ (hS4.only ho24 (by omega) hNC.out) (fun hS5 => ?_)
  clear hK K
  refine wpAnyH_ready (rs := [19]) (by kernel_rfl) (by simp) ?_
  refine AllReadyH.cons (by rfl) ?_ AllReadyH.nil
  intro K hK
  go_simp
  refine (num_c _ _).mono ?_
  rintro e w25 ⟨rfl, rfl⟩
  refine hK.out _ _ hS5 (fun hS6 => ?_)
  clear hK K
  refine wpAnyH_take (i := 21) (v := .bool false) rfl (by kernel_rfl) (by kernel_rfl) (by kernel_rfl) (fun _ _ _ h => h) (Or.inl ⟨by kernel_rfl, fun w0 hSw => ?_⟩) hS6 ?_
  · go_simp
  try simp only [Act.put, List.getElem_toArray, List.getElem_cons_succ, List.getElem_cons_zero, List.setIfInBounds_toArray, List.set_cons_zero, List.set_cons_succ]
  refine wpAnyH_take (i := 22) (v := .bool false) rfl (by kernel_rfl) (by kernel_rfl) (by kernel_rfl) (fun _ _ _ h => h) (Or.inl ⟨by kernel_rfl, fun w0 hSw => ?_⟩) hS6 ?_
  · go_simp
  try simp only [Act.put, List.getElem_toArray, List.getElem_cons_succ, List.getElem_cons_zero, List.setIfInBounds_toArray, List.set_cons_zero, List.set_cons_succ]
  refine wpAnyH_take (i := 23) (v := .bool false) rfl (by kernel_rfl) (by kernel_rfl) (by kernel_rfl) (fun _ _ _ h => h) (Or.inl ⟨by kernel_rfl, fun w0 hSw => ?_⟩) hS6 ?_
  · go_simp
  try simp only [Act.put, List.getElem_toArray, List.getElem_cons_succ, List.getElem_cons_zero, List.setIfInBounds_toArray, List.set_cons_zero, List.set_cons_succ]
  refine wpAnyH_take (i := 24) (v := .pointer (some ⟨cc, 0, none⟩)) rfl (by kernel_rfl) (by kernel_rfl) (by kernel_rfl) (fun _ _ _ h => h) (Or.inl ⟨by kernel_rfl, fun w0 hSw => ?_⟩) hS6 ?_
  · go_simp
  try simp only [Act.put, List.getElem_toArray, List.getElem_cons_succ, List.getElem_cons_zero, List.setIfInBounds_toArray, List.set_cons_zero, List.set_cons_succ]
  refine wpAnyH_take (i := 25) (v := .pointer (some ⟨p, 0, none⟩)) rfl (by kernel_rfl) (by kernel_rfl) (by kernel_rfl) (fun _ _ _ h => h) (Or.inl ⟨by kernel_rfl, fun w0 hSw => ?_⟩) hS6 ?_
  · go_simp
  try simp only [Act.put, List.getElem_toArray, List.getElem_cons_succ, List.getElem_cons_zero, List.setIfInBounds_toArray, List.set_cons_zero, List.set_cons_succ]
  refine wpAnyH_take (i := 27) (v := .agg #[.int .i64 (ka.first : Int), .slice a2 ka.ms.length c2]) rfl (by kernel_rfl) (by kernel_rfl) (by kernel_rfl) (fun _ _ _ h => h) ?_ hS6 ?_
  · exact yieldsIf_load_blk (by kernel_rfl) 27 (.tmp 13) (by kernel_rfl) QA (by kernel_rfl) 27 #[.int .i64 (ka.first : Int), .slice a2 ka.ms.length c2] _ (fun _ h => h.wa) Tryz.underlying27 rfl infoKR
  try simp only [Act.put, List.getElem_toArray, List.getElem_cons_succ, List.getElem_cons_zero, List.setIfInBounds_toArray, List.set_cons_zero, List.set_cons_succ]
  refine wpAnyH_take (i := 28) (v := .agg #[.int .i64 (kb.first : Int), .slice a3 kb.ms.length c3]) rfl (by kernel_rfl) (by kernel_rfl) (by kernel_rfl) (fun _ _ _ h => h) ?_ hS6 ?_
  · exact yieldsIf_load_blk (by kernel_rfl) 27 (.tmp 15) (by kernel_rfl) QB (by kernel_rfl) 27 #[.int .i64 (kb.first : Int), .slice a3 kb.ms.length c3] _ (fun _ h => h.wb) Tryz.underlying27 rfl infoKR
  try simp only [Act.put, List.getElem_toArray, List.getElem_cons_succ, List.getElem_cons_zero, List.setIfInBounds_toArray, List.set_cons_zero, List.set_cons_succ]
  refine wpAnyH_ready (rs := [26]) (by kernel_rfl) (by simp) ?_
  refine AllReadyH.cons (by rfl) ?_ AllReadyH.nil
  intro K hK
  go_simp
  refine (samek_c cc p kb ka _ hc24 hp24).mono ?_
  rintro e w26 ⟨rfl, hb26⟩
  rw [← HBB.out]
  have hp26 := hp24.below hb26
  have hc26 := hc24.below hb26
  refine hK.out _ _ (hS6.below hb26) (fun hS7 => ?_)
  clear hK K
  refine wpAnyH_ready (rs := [29]) (by kernel_rfl) (by simp) ?_
  refine AllReadyH.cons (by rfl) ?_ AllReadyH.nil
  intro K hK
  go_simp
  refine (rsame_c ka kb a2 ka.ms.length c2 a3 kb.ms.length c3 _ hS7.ra hS7.rb hla hlb).mono ?_
  rintro e w27 ⟨rfl, hb27⟩
  rw [← HBC.out]
  have hp27 := hp26.below hb27
  have hc27 := hc26.below hb27
  refine hK.out _ _ (hS7.below hb27) (fun hS8 => ?_)
  clear hK K
  refine wpAnyH_take (i := 30) (v := .bool false) rfl (by kernel_rfl) (by kernel_rfl) (by kernel_rfl) (fun _ _ _ h => h) (Or.inl ⟨by kernel_rfl, fun w0 hSw => ?_⟩) hS8 ?_
  · go_simp
  try simp only [Act.put, List.getElem_toArray, List.getElem_cons_succ, List.getElem_cons_zero, List.setIfInBounds_toArray, List.set_cons_zero, List.set_cons_succ]
  refine wpAnyH_take (i := 31) (v := .bool false) rfl (by kernel_rfl) (by kernel_rfl) (by kernel_rfl) (fun _ _ _ h => h) (Or.inl ⟨by kernel_rfl, fun w0 hSw => ?_⟩) hS8 ?_
  · go_simp
  try simp only [Act.put, List.getElem_toArray, List.getElem_cons_succ, List.getElem_cons_zero, List.setIfInBounds_toArray, List.set_cons_zero, List.set_cons_succ]
  refine wpAnyH_done (by kernel_rfl) ?_ _
  have HKP := Lib.hid hp27; have HKC := Lib.hid hc27; have HSF := Lib.hid hS8
  clear hS0' hp20 hc20 hp22 hc22 hp23 hc23 hp24 hc24 hp26 hc26 hp27 hc27 ho20 ho24 hb22 hb23 hb26 hb27
  have hal := (Below.refl w27.heap.size w27).alloc (Nat.le_refl _) (.cells #[.int .i64 1, .int .i64 2, .int .i64 3] 31)
  have HS28 := Lib.hid (HSF.out.below hal)
  have HP28 := Lib.hid (HKP.out.below hal)
  have HC28 := Lib.hid (HKC.out.below hal)
  obtain ⟨Y, hY⟩ : ∃ Y, Y = w27.heap.size := ⟨_, rfl⟩
  have HT28 : Hid (Blk (w27.alloc (.cells #[.int .i64 1, .int .i64 2, .int .i64 3] 31)) Y 31 #[.int .i64 1, .int .i64 2, .int .i64 3]) := Lib.hid (by rw [hY]; exact Blk.new _ _ _)
  have HYS := Lib.hid hY
  have x0 : (w27.alloc (.cells #[.int .i64 1, .int .i64 2, .int .i64 3] 31)).cell? ⟨w27.heap.size, 0, none⟩ = some (.int .i64 1) := by rw [← hY]; exact HT28.out.cell (i := 0) rfl
  have x1 : (w27.alloc (.cells #[.int .i64 1, .int .i64 2, .int .i64 3] 31)).cell? ⟨w27.heap.size, 1, none⟩ = some (.int .i64 2) := by rw [← hY]; exact HT28.out.cell (i := 1) rfl
  have x2 : (w27.alloc (.cells #[.int .i64 1, .int .i64 2, .int .i64 3] 31)).cell? ⟨w27.heap.size, 2, none⟩ = some (.int .i64 3) := by rw [← hY]; exact HT28.out.cell (i := 2) rfl
  clear hal hY HSF HKP HKC
  go_wp2_with fail
  rw [← HYS.out]
  clear x0 x1 x2 HYS
  generalize w27.alloc (.cells #[.int .i64 1, .int .i64 2, .int .i64 3] 31) = w28 at HS28 HP28 HC28 HT28 ⊢
  change Calls Tryz.prog 16 #[.pointer (some ⟨p, 0, none⟩), (⟨1, 2, 3⟩ : Tok).val] w28 _
  refine (make_c p ka ⟨1, 2, 3⟩ w28 HP28.out (by omega) (by decide)).mono ?_
  rintro e w29 ⟨rfl, hb29⟩
  obtain ⟨XA, hXA⟩ : ∃ X, X = strOf (spellB (ka.bytes ⟨1, 2, 3⟩)) := ⟨_, rfl⟩
  rw [← hXA]
  have HXA := Lib.hid hXA
  have HS29 := Lib.hid (HS28.out.below hb29)
  have HC29 := Lib.hid (HC28.out.below hb29)
  have HT29 := Lib.hid (HT28.out.below hb29 HT28.out.lt)
  clear hXA hb29 HS28 HP28 HC28 HT28
  have x0 : w29.cell? ⟨Y, 0, none⟩ = some (.int .i64 1) := HT29.out.cell (i := 0) rfl
  have x1 : w29.cell? ⟨Y, 1, none⟩ = some (.int .i64 2) := HT29.out.cell (i := 1) rfl
  have x2 : w29.cell? ⟨Y, 2, none⟩ = some (.int .i64 3) := HT29.out.cell (i := 2) rfl
  go_wp2_with fail
  clear x0 x1 x2
  change Calls Tryz.prog 16 #[.pointer (some ⟨cc, 0, none⟩), (⟨1, 2, 3⟩ : Tok).val] w29 _
  refine (make_c cc kb ⟨1, 2, 3⟩ w29 HC29.out (by omega) (by decide)).mono ?_
  rintro e w30 ⟨rfl, hb30⟩
  obtain ⟨XB, hXB⟩ : ∃ X, X = strOf (spellB (kb.bytes ⟨1, 2, 3⟩)) := ⟨_, rfl⟩
  rw [← hXB]
  have HXB := Lib.hid hXB
  have HS30 := Lib.hid (HS29.out.below hb30)
  have HT30 := Lib.hid (HT29.out.below hb30 HT29.out.lt)
  clear hXB hb30 HS29 HC29 HT29
  have x0 : w30.cell? ⟨Y, 0, none⟩ = some (.int .i64 1) := HT30.out.cell (i := 0) rfl
  have x1 : w30.cell? ⟨Y, 1, none⟩ = some (.int .i64 2) := HT30.out.cell (i := 1) rfl
  have x2 : w30.cell? ⟨Y, 2, none⟩ = some (.int .i64 3) := HT30.out.cell (i := 2) rfl
  go_wp2_with (refine wpl_load_blk rfl 27 _ rfl QA rfl 27 _ _ HS30.out.wa Tryz.underlying27 rfl infoKR ?_)
  clear x0 x1 x2
  change Calls Tryz.prog 21 #[.agg (kval ka.first a2 ka.ms.length c2), .agg #[.int .i64 ((1 : Nat) : Int), .int .i64 ((2 : Nat) : Int), .int .i64 ((3 : Nat) : Int)]] w30 _
  refine (rmake_c ka a2 ka.ms.length c2 1 2 3 w30 HS30.out.ra hpa hla (by omega) HMA.out (by decide) (by decide) (by decide)).mono ?_
  rintro e w31 ⟨rfl, hb31⟩
  rw [show strOf (spellB (ka.bytes ⟨((1 : Nat) : Int), ((2 : Nat) : Int), ((3 : Nat) : Int)⟩)) = XA from HXA.out.symm]
  have HS31 := Lib.hid (HS30.out.below hb31)
  have HT31 := Lib.hid (HT30.out.below hb31 HT30.out.lt)
  clear hb31 HS30 HT30
  have x0 : w31.cell? ⟨Y, 0, none⟩ = some (.int .i64 1) := HT31.out.cell (i := 0) rfl
  have x1 : w31.cell? ⟨Y, 1, none⟩ = some (.int .i64 2) := HT31.out.cell (i := 1) rfl
  have x2 : w31.cell? ⟨Y, 2, none⟩ = some (.int .i64 3) := HT31.out.cell (i := 2) rfl
  go_wp2_with (refine wpl_load_blk_g 27 _ rfl QB (by simp [Region.wanted, yielded]) rfl 27 _ _ HS31.out.wb Tryz.underlying27 rfl infoKR ?_)
  clear x0 x1 x2
  change Calls Tryz.prog 21 #[.agg (kval kb.first a3 kb.ms.length c3), .agg #[.int .i64 ((1 : Nat) : Int), .int .i64 ((2 : Nat) : Int), .int .i64 ((3 : Nat) : Int)]] w31 _
  refine (rmake_c kb a3 kb.ms.length c3 1 2 3 w31 HS31.out.rb hpb hlb (by omega) HMB.out (by decide) (by decide) (by decide)).mono ?_
  rintro e w32 ⟨rfl, hb32⟩
  rw [show strOf (spellB (kb.bytes ⟨((1 : Nat) : Int), ((2 : Nat) : Int), ((3 : Nat) : Int)⟩)) = XB from HXB.out.symm]
  have HB32 := Lib.hid (HS31.out.bel.trans (hb32.mono HS31.out.bel.size))
  clear hb32 HS31 HT31
  go_wp2_with fail
  refine (num_c _ _).mono ?_
  rintro e w' ⟨rfl, rfl⟩
  go_wp2_with fail
  refine (num_c _ _).mono ?_
  rintro e w' ⟨rfl, rfl⟩
  go_wp2_with fail
  refine (tworks_c _).mono ?_
  rintro e w33 ⟨rfl, hb33⟩
  have HB33 := Lib.hid (HB32.out.trans (hb33.mono HB32.out.size))
  clear hb33
  go_wp2_with fail
  go_ret
  exact ⟨rfl, HB33.out⟩
end Go.Proofs.YtomnjhhpeglcnaaGreat
