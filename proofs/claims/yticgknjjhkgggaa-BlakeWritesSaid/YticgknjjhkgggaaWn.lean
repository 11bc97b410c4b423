/- Contracts: a hash is made. -/
import Derived.Test.YticgknjjhkgggaaWm
import Derived.IntWalk
namespace Go.Proofs.Yticgknjjhkgggaa
open Go.RowKit
set_option linter.unusedSimpArgs false
set_option linter.unusedVariables false

set_option maxHeartbeats 1000000 in
theorem new_bad (size : Int) (a : Option Addr) (n c : Nat) (w : World) (h : rightB size n = false) :
    Calls Try.prog 21 #[.int .i64 size, .slice a n c] w fun e w' => e = .returned (.tuple #[.pointer none, .int .i64 2]) ∧ w = w' := by
  unfold rightB at h
  have h' : ¬ (1 ≤ size ∧ size ≤ 32 ∧ n ≤ 32) := by simpa using h
  clear h
  by_cases p1 : size < 1
  · go_enter Try.func21, Try.ntmps21
    go_wp2
    go_ret2
    exact ⟨rfl, rfl⟩
  · by_cases p2 : size > 32
    · go_enter Try.func21, Try.ntmps21
      go_wp2
      go_ret2
      exact ⟨rfl, rfl⟩
    · have p3 : (n : Int) > 32 := by omega
      clear h'
      go_enter Try.func21, Try.ntmps21
      go_wp2
      go_ret2
      exact ⟨rfl, rfl⟩
theorem or_new : ∀ k, k < 33 → ∀ s, s < 33 → bits .or .i64 (bits .or .i64 16842752 ((k * 256 : Nat) : Int)) ((s : Nat) : Int) = ((16842752 + 256 * k + s : Nat) : Int) := by decide +kernel

set_option maxRecDepth 100000 in
set_option maxHeartbeats 4000000 in
theorem new_c (wide : Nat) (a : Option Addr) (n c : Nat) (key : List By) (w : World) (hk : Bys w a n key) (h1 : 1 ≤ wide) (h2 : wide ≤ 32) (h3 : n ≤ 32) :
    Calls Try.prog 21 #[.int .i64 (wide : Int), .slice a n c] w fun e w' => ∃ b, e = .returned (.tuple #[.pointer (some ⟨b, 0, none⟩), .int .i64 0]) ∧ IsHash w' b (start wide n) (keyB key) wide 0 ∧ w.heap.size ≤ b ∧ Below w.heap.size w w' := by
  have HK := Lib.hid hk; clear hk
  go_enter Try.func21, Try.ntmps21
  go_wp2_with fail
  refine (first_c _).mono ?_
  rintro e w1 ⟨rfl, hb1⟩
  have HB1 := Lib.hid hb1
  have HK1 := Lib.hid (HK.out.below hb1)
  clear hb1
  go_wp2_with fail
  generalize hE : (Array.setIfInBounds _ 10 _) = E
  have hE2 : E = scells iv 0 [.slice none 0 0, .int .i64 (wide : Int), .int .i64 0] := by rw [← hE]; kernel_rfl
  clear hE
  subst hE2
  have hblk := Blk.new w1 57 (scells iv 0 [.slice none 0 0, .int .i64 (wide : Int), .int .i64 0])
  have HB2 := Lib.hid (HB1.out.alloc HB1.out.size (.cells (scells iv 0 [.slice none 0 0, .int .i64 (wide : Int), .int .i64 0]) 57))
  have HK2 := Lib.hid (HK1.out.below ((Below.refl w1.heap.size w1).alloc (Nat.le_refl _) (.cells (scells iv 0 [.slice none 0 0, .int .i64 (wide : Int), .int .i64 0]) 57)))
  have HKn : Hid (∀ x off, a = some ⟨x, off, none⟩ → 0 < n → x < w1.heap.size) := Lib.hid (fun x off e h0 => by
    obtain ⟨x', off', e', hx, _⟩ := HK1.out.cells h0
    rw [e] at e'; injection e' with e'; injection e' with e1 e2; omega)
  have hbs : w.heap.size ≤ w1.heap.size := HB1.out.size
  generalize w1.heap.size = b at hblk HKn hbs ⊢
  generalize (World.alloc _ _) = w2 at hblk HB2 HK2 ⊢
  obtain ⟨x0, hx0⟩ : ∃ x, x = iv.getD 0 0#32 := ⟨_, rfl⟩
  have c0 := hblk.cell (scells_word (h := iv) rfl (k := 0) (by decide))
  rw [← hx0] at c0
  have f0 := hblk.frozen 0
  have hor := or_new n (by omega) wide (by omega)
  have hxo := bx x0 (BitVec.ofNat 32 (16842752 + 256 * n + wide))
  rw [BitVec.toNat_ofNat, Nat.mod_eq_of_lt (by omega)] at hxo
  obtain ⟨y, hy⟩ : ∃ y, y = x0 ^^^ BitVec.ofNat 32 (16842752 + 256 * n + wide) := ⟨_, rfl⟩
  rw [← hy] at hxo
  have HY : Hid (iv.set 0 y = start wide n) := Lib.hid (by rw [hy, hx0]; rfl)
  obtain ⟨z, hz⟩ : ∃ z, z = 16842752 + 256 * n + wide := ⟨_, rfl⟩
  have hz2 : z < 4294967296 := by omega
  rw [← hz] at hor hxo
  have hz3 : IntKind.u32.wrap (z : Int) = (z : Int) := IntWalk.u32_in _ (by omega)
  have hn8 : IntKind.i64.wrap ((n : Int) * 256) = (n : Int) * 256 := IntWalk.i64_in _ (by omega)
  rw [show ((n * 256 : Nat) : Int) = (n : Int) * 256 by omega] at hor
  have HX0 := Lib.hid hx0
  clear hy hx0 hz
  have HBk := Lib.hid hblk
  clear hblk
  go_still_tail 17, (by kernel_rfl)
  change wpList _ _ _ _ _ w2.drew
  clear hn8 hor hxo hz3
  have HB2 := Lib.hid HB2.out.drew
  have HBk := Lib.hid HBk.out.drew
  have HK2 := Lib.hid (HK2.out.below (Below.refl w2.heap.size w2).drew)
  have HB3 := Lib.hid (HB2.out.setCell (p := ⟨b, 0, none⟩) hbs (.int .u32 (y.toNat : Int)))
  have hk3 := HBk.out.set 0 (.int .u32 (y.toNat : Int))
  rw [scells_setw rfl 0 (by decide), HY.out] at hk3
  have HBk3 := Lib.hid hk3
  have HK3 := Lib.hid (HK2.out.only ((Only.refl b w2.drew).setCell (p := ⟨b, 0, none⟩) (.inl rfl) (.int .u32 (y.toNat : Int))) (fun x off e h0 => by have := HKn.out x off e h0; omega))
  have c0 := HBk.out.cell (scells_word (h := iv) rfl (k := 0) (by decide))
  have f0 := HBk.out.frozen 0
  clear hk3
  generalize w2.drew = w3 at HB3 HBk3 HK3 c0 f0 ⊢
  by_cases hn : n = 0
  · have hq : ¬ (0 : Int) < (n : Int) := by omega
    have hke : key = [] := List.eq_nil_of_length_eq_zero (by have := HK3.out.1; omega)
    have Hke := Lib.hid hke
    have Hn := Lib.hid hn
    clear hke hn
    go_wp2_with fail
    generalize (World.setCell _ _ _) = w4 at HB3 HBk3 HK3 ⊢
    go_ret2
    refine ⟨b, rfl, ⟨start_len _ _, h1, h2, by simp [keyB, Hke.out], none, 0, ?_, ⟨rfl, fun i c hi => by simp [keyB, Hke.out, leftOf] at hi⟩, fun x off e => by cases e⟩, hbs, HB3.out⟩
    have := HBk3.out
    simpa [keyB, Hke.out, leftOf, full, pressN] using this
  · have hq : (0 : Int) < (n : Int) := by omega
    have hke : key ≠ [] := fun e => by have := HK3.out.1; rw [e] at this; exact hn this.symm
    have Hke := Lib.hid hke
    have Hn := Lib.hid hn
    clear hke hn
    have hw64 : (64 : Int) - (n : Int) = ((64 - n : Nat) : Int) := by omega
    have Hw64 := Lib.hid hw64
    clear hw64
    go_wp2_with (refine wpl_make_bys rfl _ _ rfl (64 - n) (64 - (n : Int)) (64 - (n : Int)) rfl rfl Hw64.out Hw64.out (by omega) ?_; intro w5 hO5 hb5)
    have hzz : (w3.setCell ⟨b, 0, none⟩ (.int .u32 (y.toNat : Int))).heap.size = w3.heap.size := by simp
    rw [hzz] at hO5
    generalize (World.setCell _ _ _) = w4 at HB3 HBk3 HK3 hzz hb5 ⊢
    obtain ⟨za, zc, hz1, _, hzb⟩ := hO5.bys
    rw [List.length_replicate] at hz1
    have HB5 := Lib.hid (HB3.out.trans (hb5.mono HB3.out.size))
    have HBk5 := Lib.hid (HBk3.out.below hb5 HBk3.out.lt)
    have hp := Prs.two c zc 33 (HK3.out.below hb5) hzb (by omega) (by simp; omega)
    simp only [List.length_replicate] at hp
    injection hz1 with hz1 _ hz3
    rw [← hz1, ← hz3] at hp
    have HP := Lib.hid hp
    have HB6 := Lib.hid (HB5.out.alloc HB5.out.size (.cells #[.slice a n c, .slice (some ⟨w3.heap.size, 0, none⟩) (64 - n) (64 - n)] 33))
    have HBk6 := Lib.hid (HBk5.out.alloc (.cells #[.slice a n c, .slice (some ⟨w3.heap.size, 0, none⟩) (64 - n) (64 - n)] 33))
    clear hz1 hz3 hzb hO5 hb5 hp
    refine (concat_c _ 2 2 _ _ HP.out (by decide) (by simp; have := HK3.out.1; omega)).mono ?_
    rintro e w7 ⟨v, rfl, hv, hb7⟩
    have HBk7 := Lib.hid (HBk6.out.below hb7 HBk6.out.lt)
    have HB7 := Lib.hid (HB6.out.trans (hb7.mono HB6.out.size))
    have hbl : b < w5.heap.size + 1 := by have := HBk5.out.lt; omega
    have hV : OwnB w7 (w5.heap.size + 1) v (pad key) := by
      have hkl := HK3.out.1
      have e : [key, List.replicate (64 - n) 0#8].flatten = pad key := by simp [pad, hkl]
      rw [e] at hv
      simpa using hv
    have HV := Lib.hid hV
    clear hV hv hb7
    have c9 := cell9 HBk7.out (start_len _ _)
    have f9 := HBk7.out.frozen 9
    obtain ⟨va, vc, rfl, _, hvb⟩ := HV.out.bys
    have HVB := Lib.hid hvb
    clear hvb
    rw [show (pad key).length = 64 from pad_len key (by have := HK3.out.1; omega)]
    go_wp2_with fail
    go_ret2
    have hke2 : keyB key = pad key := by rw [keyB, if_neg Hke.out]
    have hkl : (pad key).length = 64 := pad_len key (by have := HK3.out.1; omega)
    have hfull : full (pad key) = 0 := by simp [full, hkl]
    have hleft : leftOf (pad key) = pad key := by simp [leftOf, hfull]
    refine ⟨b, rfl, ⟨start_len _ _, h1, h2, by rw [hke2, hkl]; decide, va, vc, ?_, ?_, ?_⟩, hbs, HB7.out.setCell hbs _⟩
    · have := set9 HBk7.out (start_len _ _) (.slice va 64 vc)
      rw [hke2, hleft, hfull, pressN, hkl]
      exact this
    · rw [hke2, hleft]
      exact HVB.out.only ((Only.refl b w7).setCell (p := ⟨b, 9, none⟩) (.inl rfl) _) (fun x off e h0 => by
        subst e
        have := (World.ownsRow.lt HV.out x rfl).1
        omega)
    · intro x off e h0
      subst e
      have := (World.ownsRow.lt HV.out x rfl).1
      omega
end Go.Proofs.Yticgknjjhkgggaa
