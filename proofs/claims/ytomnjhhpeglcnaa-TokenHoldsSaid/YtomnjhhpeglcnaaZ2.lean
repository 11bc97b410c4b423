/- The longest texts. -/
import Derived.Test.YtomnjhhpeglcnaaZ1
namespace Go.Proofs.Ytomnjhhpeglcnaa
open Go.RowKit
set_option linter.unusedSimpArgs false
set_option linter.unusedVariables false
set_option maxRecDepth 100000

def xS : ByteArray := ⟨#[120]⟩
def kx : KS := ⟨0, [xS]⟩
def tokB : Tok := ⟨15, 2147483647, 2147483647⟩
theorem head_B : (KS.head 0 tokB).length = 12 := by decide +kernel
theorem openX : kx.open_ (strB (strOf (spellB (kx.bytes tokB)))) = (tokB, 0) := by
  rw [open_made kx kx tokB (by decide) (by decide), if_neg (by decide), if_pos (show taggedB (kx.at_ (kx.newest - kx.first)) (KS.head kx.newest tokB) = kx.bytes tokB from rfl)]
theorem sizeX : (strOf (spellB (kx.bytes tokB))).size ≤ 60 := by
  have h1 : (strOf (spellB (kx.bytes tokB))).size = (spellB (kx.bytes tokB)).length := by rw [← strB_len, strB_strOf]
  have h2 := spellB_len (kx.bytes tokB)
  have h3 : (kx.bytes tokB).length = (KS.head 0 tokB).length + 16 := taggedB_len _ _
  rw [head_B] at h3
  omega
theorem openA0 : (kx.open_ (List.replicate 200 97#8)).2 = 161 := by decide +kernel
theorem openA1 : (kx.open_ (List.replicate 201 97#8)).2 = 3 := by decide +kernel
theorem openX_c (p : Nat) (X : ByteArray) (w : World) (h : IsKeys w p kx) (hX : X = strOf (spellB (kx.bytes tokB))) :
    Calls Try.prog 14 #[.pointer (some ⟨p, 0, none⟩), .string X] w fun e w' => e = .returned (.tuple #[.agg #[.int .i64 15, .int .i64 2147483647, .int .i64 2147483647], .int .i64 0]) ∧ Below w.heap.size w w' := by
  have hs : X.size ≤ 60 := by rw [hX]; exact sizeX
  have := open_c p kx X w h (by decide) (by omega)
  rw [show kx.open_ (strB X) = (tokB, 0) by rw [hX]; exact openX] at this
  exact this
/-- A text that is told an error. -/
theorem openE_c (p : Nat) (k : KS) (l : List By) (e : Int) (w : World) (h : IsKeys w p k) (hf : k.first ≤ 1000000000) (hl : l.length ≤ 1000) (he : (k.open_ l).2 = e) :
    Calls Try.prog 14 #[.pointer (some ⟨p, 0, none⟩), .string (strOf l)] w fun r w' => (∃ a b c : Int, r = .returned (.tuple #[.agg #[.int .i64 a, .int .i64 b, .int .i64 c], .int .i64 e])) ∧ Below w.heap.size w w' := by
  have hs : (strOf l).size = l.length := by rw [← strB_len, strB_strOf]
  have := open_c p k (strOf l) w h hf (by omega)
  rw [strB_strOf, he] at this
  refine this.mono ?_
  rintro r w' ⟨rfl, hb⟩
  exact ⟨⟨_, _, _, rfl⟩, hb⟩
theorem fill_set (k N : Nat) (l : List By) (h : l = List.replicate k 97#8 ++ List.replicate (N - k) 0#8) (hk : k < N) : l.set k 97#8 = List.replicate (k + 1) 97#8 ++ List.replicate (N - (k + 1)) 0#8 := by
  obtain ⟨m, rfl⟩ : ∃ m, N = k + (m + 1) := ⟨N - k - 1, by omega⟩
  rw [h, show k + (m + 1) - k = m + 1 by omega, show k + (m + 1) - (k + 1) = m by omega, List.set_append_right _ _ (by simp), List.length_replicate, Nat.sub_self, List.replicate_succ, List.set_cons_zero, List.replicate_succ', List.append_assoc]
  rfl
set_option maxHeartbeats 8000000 in
theorem bounds_walk (w : World) : Calls Try.prog 4 #[] w fun e w' => e = .returned (.bool true) ∧ Below w.heap.size w w' := by
  go_enter Try.func4, Try.ntmps4
  go_wp2_with fail
  refine (tnew_c xS w (by decide)).mono ?_
  rintro e w4 ⟨rfl, hk4, hb4⟩
  obtain ⟨p, hp⟩ : ∃ p, p = w.heap.size := ⟨_, rfl⟩
  have hpw : w.heap.size ≤ p := by rw [hp]; exact Nat.le_refl _
  rw [← hp] at hk4 ⊢
  have HB4 : Hid (Below w.heap.size w w4) := Lib.hid hb4
  have hp4 : p < w4.heap.size := hk4.blk.lt
  have HK4 : Hid (IsKeys w4 p kx) := Lib.hid hk4
  have HPW := Lib.hid hp
  clear hb4 hk4 hp
  have hal := (Below.refl w4.heap.size w4).alloc (Nat.le_refl _) (.cells (tcells 15 2147483647 2147483647) 36)
  have HT5 := Lib.hid (Blk.new w4 36 (tcells 15 2147483647 2147483647))
  have HK5 := Lib.hid (HK4.out.below hal)
  have HB5 := Lib.hid (HB4.out.trans (hal.mono HB4.out.size))
  clear hal
  go_wp2_with fail
  change Calls Try.prog 13 #[.pointer (some ⟨p, 0, none⟩), tokB.val] (w4.alloc (.cells (tcells 15 2147483647 2147483647) 36)) _
  obtain ⟨G, hG⟩ : ∃ G, G = w4.heap.size := ⟨_, rfl⟩
  have hGp : p < G := by rw [hG]; exact hp4
  rw [← hG] at HT5 ⊢
  generalize w4.alloc (.cells (tcells 15 2147483647 2147483647) 36) = w5 at HT5 HK5 HB5 ⊢
  clear hG HK4 HB4 hp4
  refine (make_c p kx tokB w5 HK5.out (by decide) (by decide)).mono ?_
  rintro e w6 ⟨rfl, hb6⟩
  obtain ⟨X, hX⟩ : ∃ X, X = strOf (spellB (kx.bytes tokB)) := ⟨_, rfl⟩
  have hXs : (X.size : Int) ≤ 60 := by have := sizeX; rw [hX]; omega
  have HX := Lib.hid hX
  rw [← hX]
  have HT6 := Lib.hid (HT5.out.below hb6 HT5.out.lt)
  have HK6 := Lib.hid (HK5.out.below hb6)
  have HB6 := Lib.hid (HB5.out.trans (hb6.mono HB5.out.size))
  clear hb6 hX HT5 HK5 HB5
  go_wp2_with fail
  refine (openX_c p X w6 HK6.out HX.out).mono ?_
  rintro e w9 ⟨rfl, hb9⟩
  have hp9 : p < w9.heap.size := (HK6.out.below hb9).blk.lt
  have hal := (Below.refl w9.heap.size w9).alloc (Nat.le_refl _) (.cells (tcells 15 2147483647 2147483647) 36)
  have HT9 := Lib.hid ((HT6.out.below hb9 HT6.out.lt).below hal (Blk.lt (HT6.out.below hb9 HT6.out.lt)))
  have HK9 := Lib.hid ((HK6.out.below hb9).below hal)
  have HB9 := Lib.hid ((HB6.out.trans (hb9.mono HB6.out.size)).trans (hal.mono (by have := HB6.out.size; have := hb9.size; omega)))
  have HU9 := Lib.hid (Blk.new w9 36 (tcells 15 2147483647 2147483647))
  clear hb9 HT6 HK6 HB6 hal
  obtain ⟨N, hN⟩ : ∃ N : Nat, N = 201 := ⟨_, rfl⟩
  have HN := Lib.hid hN
  have hN1 : (N : Int) = 201 := by omega
  have HN1 := Lib.hid hN1
  clear hN hN1
  obtain ⟨U, hU⟩ : ∃ U, U = w9.heap.size := ⟨_, rfl⟩
  rw [← hU] at HU9 hp9
  have HUS := Lib.hid hU
  clear hU
  go_wp2_with (refine wpl_make_bys rfl _ _ rfl N 201 201 ?a1 ?a2 ?a3 ?a4 ?a5 ?_)
  case a1 => rfl
  case a2 => rfl
  case a3 => exact HN1.out.symm
  case a4 => exact HN1.out.symm
  case a5 => have := HN.out; omega
  rw [← HUS.out]
  intro w7 ho7 hb7
  have hb7' : Below (w9.alloc (.cells (tcells 15 2147483647 2147483647) 36)).heap.size (w9.alloc (.cells (tcells 15 2147483647 2147483647) 36)) w7 := by
    rw [World.size_alloc, ← HUS.out]; exact hb7
  have HT7 := Lib.hid (HT9.out.below hb7' HT9.out.lt)
  have HU7 := Lib.hid (HU9.out.below hb7' HU9.out.lt)
  have HK7 := Lib.hid (HK9.out.below hb7')
  have HB7 := Lib.hid (HB9.out.trans (hb7'.mono HB9.out.size))
  have hGU : G < U + 1 := by have := HT9.out.lt; rw [World.size_alloc, ← HUS.out] at this; exact this
  have HO7 := Lib.hid ho7
  have hzw : w.heap.size ≤ U + 1 := by have := HPW.out; omega
  clear hb7 hb7' ho7 HT9 HU9 HK9 HB9
  go_wp2_with fail
  go_loopw [9] (fun iv wr => ∃ k : Nat, k ≤ N ∧ iv = .int .i64 (k : Int) ∧ OwnB wr (U + 1) (.slice (some ⟨U + 1, 0, none⟩) N N) (List.replicate k 97#8 ++ List.replicate (N - k) 0#8) ∧ Tch (fun i => i = U + 1) w7 wr) (fun iv _ => N - (intOf iv).toNat)
  case atStart => exact ⟨0, Nat.zero_le _, rfl, by simpa using HO7.out, Tch.refl _ _⟩
  case round =>
  obtain ⟨k, hk, rfl, ho, ht⟩ := hrel
  have HO := Lib.hid ho; have HTT := Lib.hid ht
  clear ho ht
  by_cases hlt : k < N
  · have hkb : k < 201 := by have := HN.out; omega
    obtain ⟨c0, f0⟩ := OwnB.at_ HO.out (k := k) (x := 0#8) (by rw [List.getElem?_append_right (by simp), List.length_replicate, Nat.sub_self, List.getElem?_replicate, if_pos (by omega)])
    go_wp2_with fail
    go_roundw
    case rel =>
      refine ⟨k + 1, by omega, by go_num, ?_, HTT.out.setCell (p := ⟨U + 1, k, none⟩) (.inl rfl) _⟩
      have := OwnB.put HO.out k 97#8
      rw [fill_set k N _ rfl hlt] at this
      exact this
    case measure => simp [intOf]; omega
  · obtain rfl : k = N := by omega
    have hB : Below (U + 1) w7 wr := HTT.out.below (B := U + 1) (by have := HO7.out.base; omega) (fun i e => by omega)
    have HT8 := Lib.hid (HT7.out.below hB hGU)
    have HU8 := Lib.hid (HU7.out.below hB (by omega))
    have HK8 : Hid (IsKeys wr p kx) := Lib.hid ⟨HK7.out.blk.below hB (by omega), HK7.out.pos, HK7.out.len, HK7.out.may⟩
    have HB8 := Lib.hid (HB7.out.trans (hB.mono hzw))
    have hrow : OwnB wr (U + 1) (.slice (some ⟨U + 1, 0, none⟩) k k) (List.replicate k 97#8) := by have := HO.out; simpa using this
    have HROW := Lib.hid hrow
    have hby : Bys wr (some ⟨U + 1, 0, none⟩) 200 (List.replicate 200 97#8) := by
      obtain ⟨a9, c9, e9, _, hy9⟩ := hrow.bys
      injection e9 with e1 e2 e3
      rw [← e1] at hy9
      have := hy9.take 200 (by rw [List.length_replicate]; have := HN.out; omega)
      rw [List.take_replicate, Nat.min_eq_left (by have := HN.out; omega)] at this
      exact this
    have q1 := run_str wr (some ⟨U + 1, 0, none⟩) 200 k (List.replicate 200 97#8) hby
    obtain ⟨S1, hS1⟩ : ∃ S1, S1 = strOf (List.replicate 200 97#8) := ⟨_, rfl⟩
    rw [← hS1] at q1
    have HS1 := Lib.hid hS1
    have hN2 : 200 ≤ k := by have := HN.out; omega
    have hN3 : (200 : Int) ≤ (k : Int) := by omega
    clear hby hrow HT7 HU7 HK7 HB7 HO7 HO hB hS1
    go_wp2_with fail
    rw [HS1.out]
    refine (openE_c p kx (List.replicate 200 97#8) 161 wr HK8.out (by decide) (by simp) openA0).mono ?_
    rintro e wa ⟨⟨x1, x2, x3, rfl⟩, hba⟩
    have hrowa := HROW.out.below hba
    have hTa := HT8.out.below hba HT8.out.lt
    have hUa := HU8.out.below hba HU8.out.lt
    have hal := (Below.refl wa.heap.size wa).alloc (Nat.le_refl _) (.cells (tcells x1 x2 x3) 36)
    have HTb := Lib.hid (hTa.below hal hTa.lt)
    have HUb := Lib.hid (hUa.below hal hUa.lt)
    have HKb := Lib.hid ((HK8.out.below hba).below hal)
    have HBb := Lib.hid ((HB8.out.trans (hba.mono HB8.out.size)).trans (hal.mono (by have := HB8.out.size; have := hba.size; omega)))
    have hrowb := hrowa.below hal
    have hby : Bys (wa.alloc (.cells (tcells x1 x2 x3) 36)) (some ⟨U + 1, 0, none⟩) k (List.replicate k 97#8) := by
      obtain ⟨a9, c9, e9, _, hy9⟩ := hrowb.bys
      injection e9 with e1 e2 e3
      rw [← e1, List.length_replicate] at hy9
      exact hy9
    have q2 : (convert 22 9 (.slice (some ⟨U + 1, 0, none⟩) k k)).run Try.prog (wa.alloc (.cells #[.int .i64 x1, .int .i64 x2, .int .i64 x3] 36)) = .ok (.string (strOf (List.replicate k 97#8))) (wa.alloc (.cells #[.int .i64 x1, .int .i64 x2, .int .i64 x3] 36)) := run_str _ (some ⟨U + 1, 0, none⟩) k k (List.replicate k 97#8) hby
    obtain ⟨S2, hS2⟩ : ∃ S2, S2 = strOf (List.replicate k 97#8) := ⟨_, rfl⟩
    rw [← hS2] at q2
    have HS2 := Lib.hid hS2
    clear hba hTa hUa hal HT8 HU8 HK8 HB8 hrowa hrowb hby HROW q1 hS2
    go_wp2_with fail
    rw [HS2.out]
    change Calls Try.prog 14 _ (wa.alloc (.cells (tcells x1 x2 x3) 36)) _
    generalize wa.alloc (.cells (tcells x1 x2 x3) 36) = wb at HTb HUb HKb HBb q2 ⊢
    refine (openE_c p kx (List.replicate k 97#8) 3 wb HKb.out (by decide) (by rw [List.length_replicate, HN.out]; decide) (by rw [HN.out]; exact openA1)).mono ?_
    rintro e wc ⟨⟨y1, y2, y3, rfl⟩, hbc⟩
    have hTa := HTb.out.below hbc HTb.out.lt
    have hUa := HUb.out.below hbc HUb.out.lt
    have hal := (Below.refl wc.heap.size wc).alloc (Nat.le_refl _) (.cells (tcells y1 y2 y3) 36)
    have HTd := Lib.hid (hTa.below hal hTa.lt)
    have HUd := Lib.hid (hUa.below hal hUa.lt)
    have HBd := Lib.hid ((HBb.out.trans (hbc.mono HBb.out.size)).trans (hal.mono (by have := HBb.out.size; have := hbc.size; omega)))
    clear hbc hTa hUa hal HTb HUb HKb HBb q2
    go_wp2_with fail
    change Calls Try.prog 11 _ (wc.alloc (.cells (tcells y1 y2 y3) 36)) _
    generalize wc.alloc (.cells (tcells y1 y2 y3) 36) = wd at HTd HUd HBd ⊢
    refine (num_c _ _).mono ?_
    rintro e w' ⟨rfl, rfl⟩
    go_wp2_with fail
    refine (num_c _ _).mono ?_
    rintro e w' ⟨rfl, rfl⟩
    have u0 : wd.cell? ⟨U, 0, none⟩ = some (.int .i64 15) := HUd.out.cell (i := 0) rfl
    have u1 : wd.cell? ⟨U, 1, none⟩ = some (.int .i64 2147483647) := HUd.out.cell (i := 1) rfl
    have u2 : wd.cell? ⟨U, 2, none⟩ = some (.int .i64 2147483647) := HUd.out.cell (i := 2) rfl
    have g0 : wd.cell? ⟨G, 0, none⟩ = some (.int .i64 15) := HTd.out.cell (i := 0) rfl
    have g1 : wd.cell? ⟨G, 1, none⟩ = some (.int .i64 2147483647) := HTd.out.cell (i := 1) rfl
    have g2 : wd.cell? ⟨G, 2, none⟩ = some (.int .i64 2147483647) := HTd.out.cell (i := 2) rfl
    go_wp2_with fail
    refine (num_c _ _).mono ?_
    rintro e w' ⟨rfl, rfl⟩
    go_wp2_with fail
    refine (num_c _ _).mono ?_
    rintro e w' ⟨rfl, rfl⟩
    go_wp2_with fail
    refine (num_c _ _).mono ?_
    rintro e w' ⟨rfl, rfl⟩
    go_wp2_with fail
    refine (tworks_c wd).mono ?_
    rintro e we ⟨rfl, hbe⟩
    have HBe := Lib.hid (HBd.out.trans (hbe.mono HBd.out.size))
    clear hbe u0 u1 u2 g0 g1 g2
    go_wp2_with fail
    go_ret
    exact ⟨rfl, HBe.out⟩
end Go.Proofs.Ytomnjhhpeglcnaa
