/- A text whose bytes are a token's but for some: the walk. -/
import Derived.Test.YtomnjhhpeglcnaaGreatYb
import Derived.Test.YtomnjhhpeglcnaaGreatYa
import Derived.Test.YtomnjhhpeglcnaaGreatYc
namespace Go.Proofs.YtomnjhhpeglcnaaGreat
open Go.RowKit
set_option linter.unusedSimpArgs false
set_option linter.unusedVariables false
set_option maxRecDepth 100000

theorem run_u8_add (x y : By) : IntKind.u8.wrap ((x.toNat : Int) + (y.toNat : Int)) = ((x + y).toNat : Int) := by
  rw [BitVec.toNat_add]
  show ((x.toNat : Int) + (y.toNat : Int)) % 256 = _
  omega
/-- What the forging holds: the document's keys, the opened token, the bytes. -/
structure FO (w : World) (Q V : Nat) (R : Option Addr) (k : KS) (a' : Option Addr) (c' : Nat) (t : Tok) (Bb : List By) (W : World) : Prop where
  want : Blk W Q 27 (kval k.first a' k.ms.length c')
  rk : RK W a' k.ms.length c' k
  tok : Blk W V 31 #[.int .i64 t.m, .int .i64 t.s, .int .i64 t.i]
  by_ : Bys W R Bb.length Bb
  bel : Below w.heap.size w W
theorem FO.below {w W W' : World} {Q V : Nat} {R : Option Addr} {k : KS} {a' : Option Addr} {c' : Nat} {t : Tok} {Bb : List By} (h : FO w Q V R k a' c' t Bb W) (hb : Below W.heap.size W W') : FO w Q V R k a' c' t Bb W' :=
  ⟨h.want.below hb h.want.lt, h.rk.below hb, h.tok.below hb h.tok.lt, h.by_.below hb, h.bel.trans (hb.mono h.bel.size)⟩
/-- A block behind all of them. -/
structure FOG (w : World) (Q V : Nat) (R : Option Addr) (a' : Option Addr) (n G : Nat) : Prop where
  w_ : w.heap.size ≤ G
  q : Q < G
  v : V < G
  a : ∀ g off, a' = some ⟨g, off, none⟩ → g < G
  r : ∀ g off, R = some ⟨g, off, none⟩ → 0 < n → g < G
theorem FO.new {w W : World} {Q V : Nat} {R : Option Addr} {k : KS} {a' : Option Addr} {c' : Nat} {t : Tok} {Bb : List By} (h : FO w Q V R k a' c' t Bb W) (hpos : 0 < k.ms.length) : FOG w Q V R a' Bb.length W.heap.size :=
  ⟨h.bel.size, h.want.lt, h.tok.lt, fun g off e => h.rk.lt hpos e, fun g off e hn => by
    obtain ⟨g', off', e', hg, _⟩ := h.by_.cells hn
    rw [e] at e'; injection e' with e'; injection e' with e1; omega⟩
theorem FO.only {w W W' : World} {Q V G : Nat} {R : Option Addr} {k : KS} {a' : Option Addr} {c' : Nat} {t : Tok} {Bb : List By} (h : FO w Q V R k a' c' t Bb W) (ho : Only G W W') (hG : FOG w Q V R a' Bb.length G) : FO w Q V R k a' c' t Bb W' :=
  ⟨ho.blk h.want (Nat.ne_of_lt hG.q), h.rk.only ho (fun g off e => Nat.ne_of_lt (hG.a g off e)), ho.blk h.tok (Nat.ne_of_lt hG.v), h.by_.only ho (fun g off e hn => Nat.ne_of_lt (hG.r g off e hn)), h.bel.trans (ho.below h.bel.size hG.w_)⟩
set_option maxHeartbeats 32000000 in
theorem forged_walk (f : ByteArray) (a1 : Option Addr) (len1 cap1 : Nat) (z1 : List ByteArray) (by_ : ByteArray) (n : Int) (tm ts ti : Int) (at_ : Int) (add : By) (fw : Int) (w : World) (v1 : Strs w a1 len1 z1 ∧ len1 ≤ maxLen) :
    Calls Tryz.prog 4 #[.string f, .slice a1 len1 cap1, .string by_, .int .i64 n, .agg #[.int .i64 tm, .int .i64 ts, .int .i64 ti], .int .i64 at_, .int .u8 (add.toNat : Int), .int .i64 fw] w fun e w' => e = .returned (.bool true) ∧ Below w.heap.size w w' := by
  have hal := (Below.refl w.heap.size w).alloc (Nat.le_refl _) (.cells #[.int .i64 tm, .int .i64 ts, .int .i64 ti] 31)
  have HB := Lib.hid hal
  have HT := Lib.hid (Blk.new w 31 #[.int .i64 tm, .int .i64 ts, .int .i64 ti])
  have HS := Lib.hid (v1.1.below (Nat.le_refl _) hal)
  have hm1 := v1.2
  have hl1 := v1.1.1
  clear hal v1
  go_enter Tryz.func4, Tryz.ntmps4
  go_wp2_with fail
  generalize w.alloc (.cells #[.int .i64 tm, .int .i64 ts, .int .i64 ti] 31) = w1 at HB HT HS ⊢
  refine (few_c f a1 len1 cap1 z1 w1 HS.out hm1).mono ?_
  rintro e w' ⟨rfl, rfl⟩
  by_cases hfw : fewB f z1 = true
  rotate_left
  · have hfw' : fewB f z1 = false := by simpa using hfw
    rw [hfw']
    clear hfw hfw'
    go_wp2_with fail
    refine (tworks_c w1).mono ?_
    rintro e w9 ⟨rfl, hb9⟩
    have HB9 := Lib.hid (HB.out.trans (hb9.mono HB.out.size))
    clear hb9
    go_wp2_with fail
    go_ret
    exact ⟨rfl, HB9.out⟩
  obtain ⟨hf1, hf2, hf3⟩ := fewB_parts hfw
  rw [hfw]
  rw [hl1] at hf2
  clear hfw hm1 hf3
  by_cases hby : 100 < by_.size
  · have q1 : (100 : Int) < (by_.size : Int) := by omega
    go_wp2_with fail
    refine (tworks_c w1).mono ?_
    rintro e w9 ⟨rfl, hb9⟩
    have HB9 := Lib.hid (HB.out.trans (hb9.mono HB.out.size))
    clear hb9
    go_wp2_with fail
    go_ret
    exact ⟨rfl, HB9.out⟩
  have q1 : ¬ (100 : Int) < (by_.size : Int) := by omega
  by_cases hn0 : n < 0
  · go_wp2_with fail
    refine (tworks_c w1).mono ?_
    rintro e w9 ⟨rfl, hb9⟩
    have HB9 := Lib.hid (HB.out.trans (hb9.mono HB.out.size))
    clear hb9
    go_wp2_with fail
    go_ret
    exact ⟨rfl, HB9.out⟩
  by_cases hn1 : 2147483647 < n
  · go_wp2_with fail
    refine (tworks_c w1).mono ?_
    rintro e w9 ⟨rfl, hb9⟩
    have HB9 := Lib.hid (HB.out.trans (hb9.mono HB.out.size))
    clear hb9
    go_wp2_with fail
    go_ret
    exact ⟨rfl, HB9.out⟩
  obtain ⟨n, rfl⟩ : ∃ x : Nat, n = (x : Int) := ⟨n.toNat, by omega⟩
  have c0 : w1.cell? ⟨w.heap.size, 0, none⟩ = some (.int .i64 tm) := HT.out.cell (i := 0) rfl
  have c1 : w1.cell? ⟨w.heap.size, 1, none⟩ = some (.int .i64 ts) := HT.out.cell (i := 1) rfl
  have c2 : w1.cell? ⟨w.heap.size, 2, none⟩ = some (.int .i64 ti) := HT.out.cell (i := 2) rfl
  go_wp2_with fail
  change Calls Tryz.prog 13 #[(⟨tm, ts, ti⟩ : Tok).val] w1 _
  refine (rright_c ⟨tm, ts, ti⟩ w1).mono ?_
  rintro e w2 ⟨rfl, hb2⟩
  have HB2 := Lib.hid (HB.out.trans (hb2.mono HB.out.size))
  have HT2 := Lib.hid (HT.out.below hb2 HT.out.lt)
  have HS2 := Lib.hid (HS.out.below (Nat.le_refl _) hb2)
  clear hb2 HB HT HS c0 c1 c2
  by_cases hto : (⟨tm, ts, ti⟩ : Tok).ok = true
  rotate_left
  · have hto' : (⟨tm, ts, ti⟩ : Tok).ok = false := by simpa using hto
    rw [hto']
    clear hto hto'
    go_wp2_with fail
    refine (tworks_c w2).mono ?_
    rintro e w9 ⟨rfl, hb9⟩
    have HB9 := Lib.hid (HB2.out.trans (hb9.mono HB2.out.size))
    clear hb9
    go_wp2_with fail
    go_ret
    exact ⟨rfl, HB9.out⟩
  rw [hto]
  have hto2 := hto
  unfold Tok.ok may31 at hto2
  simp only [Bool.and_eq_true, decide_eq_true_eq] at hto2
  obtain ⟨m, rfl⟩ : ∃ x : Nat, tm = (x : Int) := ⟨tm.toNat, by omega⟩
  obtain ⟨s, rfl⟩ : ∃ x : Nat, ts = (x : Int) := ⟨ts.toNat, by omega⟩
  obtain ⟨i, rfl⟩ : ∃ x : Nat, ti = (x : Int) := ⟨ti.toNat, by omega⟩
  have hm15 : m ≤ 15 := by omega
  have hs31 : s ≤ 2147483647 := by omega
  have hi31 : i ≤ 2147483647 := by omega
  have hn31 : n ≤ 2147483647 := by omega
  clear hto hto2
  go_wp2_with fail
  refine (turnedK_c f a1 len1 cap1 z1 w2 HS2.out hf2).mono ?_
  rintro e w3 ⟨hb3, (⟨hmf, rfl⟩ | ⟨p, k, a', c', rfl, hk, hkf, hwp, hks, hrk, hne⟩)⟩
  · have HB3 := Lib.hid (HB2.out.trans ((hb3.alloc hb3.size (.cells #[.int .i64 0, .slice none 0 0] 27)).mono HB2.out.size))
    clear hb3
    unfold kval
    go_wp2_with fail
    refine (tworks_c _).mono ?_
    rintro e w9 ⟨rfl, hb9⟩
    have HB9 := Lib.hid (HB3.out.trans (hb9.mono HB3.out.size))
    clear hb9
    go_wp2_with fail
    go_ret
    exact ⟨rfl, HB9.out⟩
  have hal := (Below.refl w3.heap.size w3).alloc (Nat.le_refl _) (.cells #[.int .i64 (k.first : Int), .slice a' k.ms.length c'] 27)
  have hb4 := hb3.alloc hb3.size (.cells #[.int .i64 (k.first : Int), .slice a' k.ms.length c'] 27)
  obtain ⟨Q, hQ⟩ : ∃ Q, Q = w3.heap.size := ⟨_, rfl⟩
  have HQ := Lib.hid hQ
  have HW4 : Hid (Blk (w3.alloc (.cells #[.int .i64 (k.first : Int), .slice a' k.ms.length c'] 27)) Q 27 #[.int .i64 (k.first : Int), .slice a' k.ms.length c']) := Lib.hid (by rw [hQ]; exact Blk.new _ _ _)
  have HB4 := Lib.hid (HB2.out.trans (hb4.mono HB2.out.size))
  have HT4 := Lib.hid (HT2.out.below hb4 HT2.out.lt)
  have HK4 := Lib.hid (hks.below hal)
  have HR4 := Lib.hid (RK.below hrk hal)
  have hpos := hks.pos
  have hlen := hks.len
  have HMAY := Lib.hid hks.may
  clear hb3 hb4 hal hks hrk hk hQ hne HB2 HT2 HS2 hwp
  unfold kval
  have c0 : (w3.alloc (.cells #[.int .i64 (k.first : Int), .slice a' k.ms.length c'] 27)).cell? ⟨w.heap.size, 0, none⟩ = some (.int .i64 (m : Int)) := HT4.out.cell (i := 0) rfl
  have c1 : (w3.alloc (.cells #[.int .i64 (k.first : Int), .slice a' k.ms.length c'] 27)).cell? ⟨w.heap.size, 1, none⟩ = some (.int .i64 (s : Int)) := HT4.out.cell (i := 1) rfl
  have c2 : (w3.alloc (.cells #[.int .i64 (k.first : Int), .slice a' k.ms.length c'] 27)).cell? ⟨w.heap.size, 2, none⟩ = some (.int .i64 (i : Int)) := HT4.out.cell (i := 2) rfl
  go_wp2_with fail
  clear c0 c1 c2
  rw [← HQ.out]
  clear HQ
  generalize w3.alloc (.cells #[.int .i64 (k.first : Int), .slice a' k.ms.length c'] 27) = w4 at HW4 HB4 HT4 HK4 HR4 ⊢
  refine (rwith_c by_ n m s i w4 (by omega) hn31 hm15 hs31 hi31).mono ?_
  rintro e w5 ⟨v5, rfl, ho5, hb5⟩
  obtain ⟨B0, hB0⟩ : ∃ B0, B0 = taggedB by_ (laidN [(n : Int), (m : Int), (s : Int), (i : Int)]) := ⟨_, rfl⟩
  rw [← hB0] at ho5
  have hlB : B0.length ≤ 52 ∧ 16 ≤ B0.length := by
    rw [hB0, taggedB_len]
    have := laidN4_len n m s i hn31 hm15 hs31 hi31
    omega
  obtain ⟨g, c5, hv5, hc5⟩ := ho5.here (by
    intro e
    obtain ⟨_, _, e2, _, _⟩ := ho5.bys
    rw [e] at e2
    injection e2 with _ e2
    omega)
  obtain ⟨nb, hnb⟩ : ∃ nb, nb = B0.length := ⟨_, rfl⟩
  rw [← hnb] at hv5 hc5
  subst hv5
  have hnb52 : nb ≤ 52 := by omega
  have hnb16 : 16 ≤ nb := by omega
  have HNB := Lib.hid hnb
  have HO5 := Lib.hid ho5
  have HB5 := Lib.hid hb5
  have hg := ho5.base
  clear hlB hnb hB0 ho5 hb5
  go_upto_region 7 with fail
  go_cut [72] from 65 to 71 (fun v wx => (∃ b72 : Bool, v = .bool b72 ∧ (b72 = true ↔ (0 ≤ at_ ∧ at_ < (nb : Int)))) ∧ wx = w5)
  case first =>
    by_cases ha0 : at_ < 0
    · have q2 : ¬ 0 ≤ at_ := by omega
      go_wp2_with fail
      go_meet
      case rel => exact ⟨⟨false, rfl, fun h => (by cases h), fun h => by omega⟩, rfl⟩
    · have q1 : 0 ≤ at_ := by omega
      by_cases q2 : at_ < (nb : Int)
      · go_wp2_with fail
        go_meet
        case rel => exact ⟨⟨true, rfl, fun _ => ⟨q1, q2⟩, fun _ => rfl⟩, rfl⟩
      · go_wp2_with fail
        go_meet
        case rel => exact ⟨⟨false, rfl, fun h => (by cases h), fun h => by omega⟩, rfl⟩
  case rest =>
  obtain ⟨⟨b72, rfl, hb72⟩, rfl⟩ := hcut
  go_upto_if 72 with fail
  go_cut [20] from 73 to 81 (fun v wx => ∃ B : List By, v = .slice (some ⟨g, 0, none⟩) nb c5 ∧ B.length = nb ∧ OwnB wx w4.heap.size (.slice (some ⟨g, 0, none⟩) nb c5) B ∧ Only g wc wx)
  case first =>
    by_cases hbt : b72 = true
    · subst hbt
      have had := hb72.1 rfl
      obtain ⟨d, rfl⟩ : ∃ x : Nat, at_ = (x : Int) := ⟨at_.toNat, by omega⟩
      have hd : d < nb := by omega
      have q2 : (d : Int) < (nb : Int) := by omega
      have q3 : IntKind.i64.wrap (d : Int) = (d : Int) := IntWalk.i64_in _ (by omega)
      have q4 : ¬ ((nb : Int) ≤ (d : Int)) := by omega
      obtain ⟨x, hx⟩ : ∃ x, B0[d]? = some x := ⟨B0[d]'(by rw [← HNB.out]; exact hd), List.getElem?_eq_getElem _⟩
      have hat := HO5.out.at_ hx
      have e0 := hat.1
      have e1 := hat.2
      have e2 := run_u8_add x add
      clear hat hx had
      go_wp2_with fail
      try rw [e2]
      go_meet
      case rel => exact ⟨B0.set d (x + add), rfl, by rw [List.length_set]; exact HNB.out.symm, HO5.out.put d (x + add), (Only.refl _ _).setCell (.inl rfl) _⟩
    · obtain rfl : b72 = false := by simpa using hbt
      go_wp2_with fail
      go_meet
      case rel => exact ⟨B0, rfl, HNB.out.symm, HO5.out, Only.refl _ _⟩
  case rest =>
  obtain ⟨B1, rfl, hl1', ho6, hon6⟩ := hcut
  have HO6 := Lib.hid ho6
  have HB6 := Lib.hid (HB5.out.trans (hon6.below (B := w4.heap.size) HB5.out.size (by omega)))
  have HL6 := Lib.hid hl1'
  clear ho6 hon6 hl1' HO5 HB5 HNB
  rename_i w6
  go_upto_region 9 with fail
  go_cut [89] from 82 to 88 (fun v wx => (∃ b89 : Bool, v = .bool b89 ∧ (b89 = true ↔ (0 < fw ∧ fw ≤ (nb : Int)))) ∧ wx = wc)
  case first =>
    by_cases q1 : 0 < fw
    · by_cases q2 : fw ≤ (nb : Int)
      · go_wp2_with fail
        go_meet
        case rel => exact ⟨⟨true, rfl, fun _ => ⟨q1, q2⟩, fun _ => rfl⟩, rfl⟩
      · go_wp2_with fail
        go_meet
        case rel => exact ⟨⟨false, rfl, fun h => (by cases h), fun h => by omega⟩, rfl⟩
    · go_wp2_with fail
      go_meet
      case rel => exact ⟨⟨false, rfl, fun h => (by cases h), fun h => by omega⟩, rfl⟩
  case rest =>
  obtain ⟨⟨b89, rfl, hb89⟩, rfl⟩ := hcut
  go_upto_if 89 with fail
  go_cut [20] from 90 to 95 (fun v wx => ∃ (n2 : Nat) (B2 : List By), v = .slice (some ⟨g, 0, none⟩) n2 c5 ∧ B2.length = n2 ∧ n2 ≤ 52 ∧ OwnB wx w4.heap.size (.slice (some ⟨g, 0, none⟩) n2 c5) B2 ∧ wx = wc)
  case first =>
    by_cases hbt : b89 = true
    · subst hbt
      have had := hb89.1 rfl
      obtain ⟨d, rfl⟩ : ∃ x : Nat, fw = (x : Int) := ⟨fw.toNat, by omega⟩
      have q6 : (nb : Int) - (d : Int) = ((nb - d : Nat) : Int) := by omega
      have q7 : IntKind.i64.wrap ((nb : Int) - (d : Int)) = ((nb - d : Nat) : Int) := by rw [IntWalk.i64_in _ (by omega)]; omega
      have q8 : nb - d ≤ c5 := by omega
      have q9 : ((nb - d : Nat) : Int) ≤ (c5 : Int) := by omega
      have q10 : ¬ ((nb - d : Nat) : Int) < 0 := by omega
      have HLT := Lib.hid (by rw [List.length_take, HL6.out]; omega : (B1.take (nb - d)).length = nb - d)
      have HOT := Lib.hid (HO6.out.take HL6.out (nb - d) (by omega))
      obtain ⟨n2, hn2⟩ : ∃ n2, n2 = nb - d := ⟨_, rfl⟩
      rw [← hn2] at q6 q7 q8 q9 q10 HLT HOT
      have hn52 : n2 ≤ 52 := by omega
      clear hn2 had
      go_wp2_with fail
      go_meet
      case rel => exact ⟨n2, B1.take n2, rfl, HLT.out, hn52, HOT.out, rfl⟩
    · obtain rfl : b89 = false := by simpa using hbt
      go_wp2_with fail
      go_meet
      case rel => exact ⟨nb, B1, rfl, HL6.out, hnb52, HO6.out, rfl⟩
  case rest =>
  obtain ⟨n2, B2, rfl, hl2, hn52, ho7, rfl⟩ := hcut
  have HO7 := Lib.hid ho7
  have HL7 := Lib.hid hl2
  clear ho7 hl2 HO6 HL6
  go_upto_region 11 with fail
  go_cut [101] from 96 to 100 (fun v wx => (∃ b101 : Bool, v = .bool b101 ∧ (b101 = true ↔ (fw < 0 ∧ -20 < fw))) ∧ wx = wc)
  case first =>
    by_cases q1 : fw < 0
    · by_cases q2 : -20 < fw
      · go_wp2_with fail
        go_meet
        case rel => exact ⟨⟨true, rfl, fun _ => ⟨q1, q2⟩, fun _ => rfl⟩, rfl⟩
      · go_wp2_with fail
        go_meet
        case rel => exact ⟨⟨false, rfl, fun h => (by cases h), fun h => by omega⟩, rfl⟩
    · go_wp2_with fail
      go_meet
      case rel => exact ⟨⟨false, rfl, fun h => (by cases h), fun h => by omega⟩, rfl⟩
  case rest =>
  obtain ⟨⟨b101, rfl, hb101⟩, rfl⟩ := hcut
  go_upto_if 101 with fail
  go_cut [20] from 102 to 105 (fun v wx => ∃ (R : Option Addr) (n3 c3 : Nat) (B3 : List By), v = .slice R n3 c3 ∧ n3 ≤ 72 ∧ Bys wx R n3 B3 ∧ Below w4.heap.size w4 wx)
  case first =>
    by_cases hbt : b101 = true
    · subst hbt
      have had := hb101.1 rfl
      obtain ⟨d, hd⟩ : ∃ x : Nat, -fw = (x : Int) := ⟨(-fw).toNat, by omega⟩
      have hd20 : d < 20 := by omega
      have q7 : IntKind.i64.wrap (-fw) = (d : Int) := by rw [hd]; exact IntWalk.i64_in _ (by omega)
      clear had hd hb101
      have q8 : B2.length + d ≤ 1000000000 := by rw [HL7.out]; omega
      have q9 := HB6.out.size
      go_wp2_with (at_builtin; refine wpl_append_zeros rfl (.tmp 102) (.tmp 104) rfl w4.heap.size _ B2 rfl HO7.out d _ rfl ?d0 q8 q9 ?_)
      case d0 => rfl
      intro v7 w7 ho7 hg7
      have HB8 := Lib.hid (HB6.out.trans (own_grown HO7.out hg7 (Nat.le_refl _) HB6.out.size))
      obtain ⟨R, c3, hv7, -, hy7⟩ := ho7.bys
      have hl3 : (B2 ++ List.replicate d 0#8).length = n2 + d := by rw [List.length_append, List.length_replicate, HL7.out]
      rw [hl3] at hv7 hy7
      subst hv7
      have HY7 := Lib.hid hy7
      clear ho7 hg7 hy7 hl3
      go_wp2_with fail
      go_meet
      case rel => exact ⟨R, n2 + d, c3, _, rfl, by omega, HY7.out, HB8.out⟩
    · obtain rfl : b101 = false := by simpa using hbt
      obtain ⟨R, c3, hv7, -, hy7⟩ := HO7.out.bys
      rw [HL7.out] at hv7 hy7
      have HV := Lib.hid hv7
      have HY7 := Lib.hid hy7
      clear hv7 hy7
      go_wp2_with fail
      go_meet
      case rel => exact ⟨R, n2, c3, _, HV.out, by omega, HY7.out, HB6.out⟩
  case rest =>
  obtain ⟨R, nb3, cb, Bb, rfl, hn3, hy8, hb8⟩ := hcut
  obtain rfl : Bb.length = nb3 := hy8.1
  have HY8 := Lib.hid hy8
  have HK8 := Lib.hid (HK4.out.below hb8)
  have HW8 := Lib.hid (HW4.out.below hb8 HW4.out.lt)
  have HR8 := Lib.hid (RK.below HR4.out hb8)
  have HB8 := Lib.hid (HB4.out.trans (hb8.mono HB4.out.size))
  obtain ⟨X, hX⟩ : ∃ X, X = strOf (spellB Bb) := ⟨_, rfl⟩
  have HX := Lib.hid hX
  have hXs : X.size ≤ 10000 := by have := spellB_len Bb; rw [hX, strOf_size]; omega
  clear hy8 hb8 HK4 HW4 HR4 HB4 HT4 HO7 HL7 HB6 hX
  go_wp2_with fail
  refine (rspell_c R Bb.length cb Bb wc HY8.out (by omega)).mono ?_
  rintro e w' ⟨rfl, rfl⟩
  rw [← HX.out]
  go_wp2_with fail
  refine (open_v p k X wc HK8.out (by omega) (by omega)).mono ?_
  rintro r w9 ⟨⟨t, eu, hop, rfl⟩, hb9⟩
  have hb10 := hb9.alloc hb9.size (.cells #[.int .i64 t.m, .int .i64 t.s, .int .i64 t.i] 31)
  obtain ⟨V, hV⟩ : ∃ V, V = w9.heap.size := ⟨_, rfl⟩
  have HVS := Lib.hid hV
  have HF6 : Hid (FO w Q V R k a' c' t Bb (w9.alloc (.cells #[.int .i64 t.m, .int .i64 t.s, .int .i64 t.i] 31))) := Lib.hid ⟨HW8.out.below hb10 HW8.out.lt, RK.below HR8.out hb10, by rw [hV]; exact Blk.new _ _ _, HY8.out.below hb10, HB8.out.trans (hb10.mono HB8.out.size)⟩
  have HOP := Lib.hid hop
  clear hb9 hb10 hV hop HY8 HK8 HW8 HR8 HB8
  go_upto_region 14 with fail
  rw [← HVS.out]
  clear HVS
  generalize w9.alloc (.cells #[.int .i64 t.m, .int .i64 t.s, .int .i64 t.i] 31) = w6 at HF6 ⊢
  go_cut [23, 24] from 113 to 119 (fun v23 v24 wx => ∃ G : Nat, v23 = .pointer (some ⟨G, 0, none⟩) ∧ v24 = .int .i64 eu ∧ Blk wx G 31 #[.int .i64 t.m, .int .i64 t.s, .int .i64 t.i] ∧ FO w Q V R k a' c' t Bb wx)
  case first =>
    have hS0 : (FO w Q V R k a' c' t Bb) (World.drew w6) := HF6.out.below (Below.refl _ _).drew
    refine wp_region_held_drew (S := (FO w Q V R k a' c' t Bb)) (by kernel_rfl) hS0 ?_
    intro hS0'
    refine wpAnyH_take (i := 0) (v := .agg #[.int .i64 (k.first : Int), .slice a' k.ms.length c']) rfl (by kernel_rfl) (by kernel_rfl) (by kernel_rfl) (fun _ _ _ h => h) ?_ hS0' ?_
    · exact yieldsIf_load_blk (by kernel_rfl) 27 (.tmp 18) (by kernel_rfl) Q (by kernel_rfl) 27 #[.int .i64 (k.first : Int), .slice a' k.ms.length c'] _ (fun _ h => h.want) Tryz.underlying27 rfl infoKR
    try simp only [Act.put, List.getElem_toArray, List.getElem_cons_succ, List.getElem_cons_zero, List.setIfInBounds_toArray, List.set_cons_zero, List.set_cons_succ]
    refine wpAnyH_take (i := 1) (v := .slice R Bb.length cb) rfl (by kernel_rfl) (by kernel_rfl) (by kernel_rfl) (fun _ _ _ h => h) (Or.inl ⟨by kernel_rfl, fun w0 hSw => ?_⟩) hS0' ?_
    · go_simp
    try simp only [Act.put, List.getElem_toArray, List.getElem_cons_succ, List.getElem_cons_zero, List.setIfInBounds_toArray, List.set_cons_zero, List.set_cons_succ]
    refine wpAnyH_ready (rs := [2, 7]) (by kernel_rfl) (by simp) ?_
    refine AllReadyH.cons (by rfl) ?_ ?_
    · intro K hK
      go_simp
      refine (rspell_c R Bb.length cb Bb _ hS0'.by_ (by omega)).mono ?_
      rintro e w7 ⟨rfl, rfl⟩
      rw [← HX.out]
      refine hK.out _ _ hS0' (fun hS1 => ?_)
      clear hK K
      refine wpAnyH_ready (rs := [3, 7]) (by kernel_rfl) (by simp) ?_
      refine AllReadyH.cons (by rfl) ?_ ?_
      · intro K hK
        go_simp
        refine (ropen_c k a' k.ms.length c' X _ hS1.rk hpos hlen (by omega) HMAY.out hXs).mono ?_
        rintro e w8 ⟨rfl, hb8⟩
        rw [HOP.out]
        unfold Tok.val
        refine hK.out _ _ (hS1.below hb8) (fun hS2 => ?_)
        clear hK K
        refine wpAnyH_take (i := 4) (v := .tuple #[.agg #[.int .i64 t.m, .int .i64 t.s, .int .i64 t.i], .int .i64 eu]) rfl (by kernel_rfl) (by kernel_rfl) (by kernel_rfl) (fun _ _ _ h => h) (Or.inl ⟨by kernel_rfl, fun w0 hSw => ?_⟩) hS2 ?_
        · go_simp
        try simp only [Act.put, List.getElem_toArray, List.getElem_cons_succ, List.getElem_cons_zero, List.setIfInBounds_toArray, List.set_cons_zero, List.set_cons_succ]
        refine wpAnyH_take (i := 5) (v := .agg #[.int .i64 t.m, .int .i64 t.s, .int .i64 t.i]) rfl (by kernel_rfl) (by kernel_rfl) (by kernel_rfl) (fun _ _ _ h => h) (Or.inl ⟨by kernel_rfl, fun w0 hSw => ?_⟩) hS2 ?_
        · go_simp
        try simp only [Act.put, List.getElem_toArray, List.getElem_cons_succ, List.getElem_cons_zero, List.setIfInBounds_toArray, List.set_cons_zero, List.set_cons_succ]
        refine wpAnyH_take (i := 6) (v := .int .i64 eu) rfl (by kernel_rfl) (by kernel_rfl) (by kernel_rfl) (fun _ _ _ h => h) (Or.inl ⟨by kernel_rfl, fun w0 hSw => ?_⟩) hS2 ?_
        · go_simp
        try simp only [Act.put, List.getElem_toArray, List.getElem_cons_succ, List.getElem_cons_zero, List.setIfInBounds_toArray, List.set_cons_zero, List.set_cons_succ]
        refine wpAnyH_ready (rs := [7]) (by kernel_rfl) (by simp) ?_
        refine AllReadyH.cons (by rfl) ?_ AllReadyH.nil
        intro K hK
        go_simp
        have hal := (Below.refl w8.heap.size w8).alloc (Nat.le_refl _) (.cells #[.int .i64 0, .int .i64 0, .int .i64 0] 31)
        have hgz : Blk (w8.alloc (.cells #[.int .i64 0, .int .i64 0, .int .i64 0] 31)) w8.heap.size 31 #[.int .i64 0, .int .i64 0, .int .i64 0] := Blk.new _ _ _
        have hgw : FOG w Q V R a' Bb.length w8.heap.size := hS2.new hpos
        refine hK.out _ _ (hS2.below hal) (fun hS3 => ?_)
        clear hK K
        refine wpAnyH_ready (rs := [8]) (by kernel_rfl) (by simp) ?_
        refine all_readyH_yes (by rfl) (by kernel_rfl) ?_ AllReadyH.nil
        intro K hK
        with_reducible refine wp_store_blk 31 (.tmp 23) (.tmp 118) ?_ w8.heap.size 31 _ #[.int .i64 t.m, .int .i64 t.s, .int .i64 t.i] ?_ ?_ hgz ?_ ?_ (by kernel_rfl) ?_
        · kernel_rfl
        · kernel_rfl
        · kernel_rfl
        · rfl
        · exact info31
        intro w10 hB10 hO10 hz10
        try simp only [Act.put, List.getElem_toArray, List.getElem_cons_succ, List.getElem_cons_zero, List.setIfInBounds_toArray, List.set_cons_zero, List.set_cons_succ]
        refine hK.out _ _ (hS3.only hO10 hgw) (fun hS4 => ?_)
        clear hK K
        refine wpAnyH_take (i := 9) (v := .int .i64 eu) rfl (by kernel_rfl) (by kernel_rfl) (by kernel_rfl) (fun _ _ _ h => h) (Or.inl ⟨by kernel_rfl, fun w0 hSw => ?_⟩) hS4 ?_
        · go_simp
        try simp only [Act.put, List.getElem_toArray, List.getElem_cons_succ, List.getElem_cons_zero, List.setIfInBounds_toArray, List.set_cons_zero, List.set_cons_succ]
        refine wpAnyH_done (by kernel_rfl) ?_ _
        go_wp2_with fail
        go_meet
        case rel => exact ⟨_, rfl, rfl, hB10, hS4⟩
      refine AllReadyH.cons (by rfl) ?_ AllReadyH.nil
      intro K hK
      go_simp
      have hal := (Below.refl (World.drew w6).heap.size (World.drew w6)).alloc (Nat.le_refl _) (.cells #[.int .i64 0, .int .i64 0, .int .i64 0] 31)
      have hgz : Blk ((World.drew w6).alloc (.cells #[.int .i64 0, .int .i64 0, .int .i64 0] 31)) w6.heap.size 31 #[.int .i64 0, .int .i64 0, .int .i64 0] := Blk.new _ _ _
      have hgw : FOG w Q V R a' Bb.length w6.heap.size := hS1.new hpos
      refine hK.out _ _ (hS1.below hal) (fun hS5 => ?_)
      clear hK K
      refine wpAnyH_ready (rs := [3]) (by kernel_rfl) (by simp) ?_
      refine AllReadyH.cons (by rfl) ?_ AllReadyH.nil
      intro K hK
      go_simp
      refine (ropen_c k a' k.ms.length c' X _ hS5.rk hpos hlen (by omega) HMAY.out hXs).mono ?_
      rintro e w8 ⟨rfl, hb8⟩
      rw [HOP.out]
      unfold Tok.val
      have hgz := hgz.below hb8 hgz.lt
      refine hK.out _ _ (hS5.below hb8) (fun hS6 => ?_)
      clear hK K
      refine wpAnyH_take (i := 4) (v := .tuple #[.agg #[.int .i64 t.m, .int .i64 t.s, .int .i64 t.i], .int .i64 eu]) rfl (by kernel_rfl) (by kernel_rfl) (by kernel_rfl) (fun _ _ _ h => h) (Or.inl ⟨by kernel_rfl, fun w0 hSw => ?_⟩) hS6 ?_
      · go_simp
      try simp only [Act.put, List.getElem_toArray, List.getElem_cons_succ, List.getElem_cons_zero, List.setIfInBounds_toArray, List.set_cons_zero, List.set_cons_succ]
      refine wpAnyH_take (i := 5) (v := .agg #[.int .i64 t.m, .int .i64 t.s, .int .i64 t.i]) rfl (by kernel_rfl) (by kernel_rfl) (by kernel_rfl) (fun _ _ _ h => h) (Or.inl ⟨by kernel_rfl, fun w0 hSw => ?_⟩) hS6 ?_
      · go_simp
      try simp only [Act.put, List.getElem_toArray, List.getElem_cons_succ, List.getElem_cons_zero, List.setIfInBounds_toArray, List.set_cons_zero, List.set_cons_succ]
      refine wpAnyH_take (i := 6) (v := .int .i64 eu) rfl (by kernel_rfl) (by kernel_rfl) (by kernel_rfl) (fun _ _ _ h => h) (Or.inl ⟨by kernel_rfl, fun w0 hSw => ?_⟩) hS6 ?_
      · go_simp
      try simp only [Act.put, List.getElem_toArray, List.getElem_cons_succ, List.getElem_cons_zero, List.setIfInBounds_toArray, List.set_cons_zero, List.set_cons_succ]
      refine wpAnyH_ready (rs := [8]) (by kernel_rfl) (by simp) ?_
      refine all_readyH_yes (by rfl) (by kernel_rfl) ?_ AllReadyH.nil
      intro K hK
      with_reducible refine wp_store_blk 31 (.tmp 23) (.tmp 118) ?_ w6.heap.size 31 _ #[.int .i64 t.m, .int .i64 t.s, .int .i64 t.i] ?_ ?_ hgz ?_ ?_ (by kernel_rfl) ?_
      · kernel_rfl
      · kernel_rfl
      · kernel_rfl
      · rfl
      · exact info31
      intro w10 hB10 hO10 hz10
      try simp only [Act.put, List.getElem_toArray, List.getElem_cons_succ, List.getElem_cons_zero, List.setIfInBounds_toArray, List.set_cons_zero, List.set_cons_succ]
      refine hK.out _ _ (hS6.only hO10 hgw) (fun hS7 => ?_)
      clear hK K
      refine wpAnyH_take (i := 9) (v := .int .i64 eu) rfl (by kernel_rfl) (by kernel_rfl) (by kernel_rfl) (fun _ _ _ h => h) (Or.inl ⟨by kernel_rfl, fun w0 hSw => ?_⟩) hS7 ?_
      · go_simp
      try simp only [Act.put, List.getElem_toArray, List.getElem_cons_succ, List.getElem_cons_zero, List.setIfInBounds_toArray, List.set_cons_zero, List.set_cons_succ]
      refine wpAnyH_done (by kernel_rfl) ?_ _
      go_wp2_with fail
      go_meet
      case rel => exact ⟨_, rfl, rfl, hB10, hS7⟩
    refine AllReadyH.cons (by rfl) ?_ AllReadyH.nil
    intro K hK
    go_simp
    have hal := (Below.refl (World.drew w6).heap.size (World.drew w6)).alloc (Nat.le_refl _) (.cells #[.int .i64 0, .int .i64 0, .int .i64 0] 31)
    have hgz : Blk ((World.drew w6).alloc (.cells #[.int .i64 0, .int .i64 0, .int .i64 0] 31)) w6.heap.size 31 #[.int .i64 0, .int .i64 0, .int .i64 0] := Blk.new _ _ _
    have hgw : FOG w Q V R a' Bb.length w6.heap.size := hS0'.new hpos
    refine hK.out _ _ (hS0'.below hal) (fun hS8 => ?_)
    clear hK K
    refine wpAnyH_ready (rs := [2]) (by kernel_rfl) (by simp) ?_
    refine AllReadyH.cons (by rfl) ?_ AllReadyH.nil
    intro K hK
    go_simp
    refine (rspell_c R Bb.length cb Bb _ hS8.by_ (by omega)).mono ?_
    rintro e w7 ⟨rfl, rfl⟩
    rw [← HX.out]
    refine hK.out _ _ hS8 (fun hS9 => ?_)
    clear hK K
    refine wpAnyH_ready (rs := [3]) (by kernel_rfl) (by simp) ?_
    refine AllReadyH.cons (by rfl) ?_ AllReadyH.nil
    intro K hK
    go_simp
    refine (ropen_c k a' k.ms.length c' X _ hS9.rk hpos hlen (by omega) HMAY.out hXs).mono ?_
    rintro e w8 ⟨rfl, hb8⟩
    rw [HOP.out]
    unfold Tok.val
    have hgz := hgz.below hb8 hgz.lt
    refine hK.out _ _ (hS9.below hb8) (fun hS10 => ?_)
    clear hK K
    refine wpAnyH_take (i := 4) (v := .tuple #[.agg #[.int .i64 t.m, .int .i64 t.s, .int .i64 t.i], .int .i64 eu]) rfl (by kernel_rfl) (by kernel_rfl) (by kernel_rfl) (fun _ _ _ h => h) (Or.inl ⟨by kernel_rfl, fun w0 hSw => ?_⟩) hS10 ?_
    · go_simp
    try simp only [Act.put, List.getElem_toArray, List.getElem_cons_succ, List.getElem_cons_zero, List.setIfInBounds_toArray, List.set_cons_zero, List.set_cons_succ]
    refine wpAnyH_take (i := 5) (v := .agg #[.int .i64 t.m, .int .i64 t.s, .int .i64 t.i]) rfl (by kernel_rfl) (by kernel_rfl) (by kernel_rfl) (fun _ _ _ h => h) (Or.inl ⟨by kernel_rfl, fun w0 hSw => ?_⟩) hS10 ?_
    · go_simp
    try simp only [Act.put, List.getElem_toArray, List.getElem_cons_succ, List.getElem_cons_zero, List.setIfInBounds_toArray, List.set_cons_zero, List.set_cons_succ]
    refine wpAnyH_take (i := 6) (v := .int .i64 eu) rfl (by kernel_rfl) (by kernel_rfl) (by kernel_rfl) (fun _ _ _ h => h) (Or.inl ⟨by kernel_rfl, fun w0 hSw => ?_⟩) hS10 ?_
    · go_simp
    try simp only [Act.put, List.getElem_toArray, List.getElem_cons_succ, List.getElem_cons_zero, List.setIfInBounds_toArray, List.set_cons_zero, List.set_cons_succ]
    refine wpAnyH_ready (rs := [8]) (by kernel_rfl) (by simp) ?_
    refine all_readyH_yes (by rfl) (by kernel_rfl) ?_ AllReadyH.nil
    intro K hK
    with_reducible refine wp_store_blk 31 (.tmp 23) (.tmp 118) ?_ w6.heap.size 31 _ #[.int .i64 t.m, .int .i64 t.s, .int .i64 t.i] ?_ ?_ hgz ?_ ?_ (by kernel_rfl) ?_
    · kernel_rfl
    · kernel_rfl
    · kernel_rfl
    · rfl
    · exact info31
    intro w10 hB10 hO10 hz10
    try simp only [Act.put, List.getElem_toArray, List.getElem_cons_succ, List.getElem_cons_zero, List.setIfInBounds_toArray, List.set_cons_zero, List.set_cons_succ]
    refine hK.out _ _ (hS10.only hO10 hgw) (fun hS11 => ?_)
    clear hK K
    refine wpAnyH_take (i := 9) (v := .int .i64 eu) rfl (by kernel_rfl) (by kernel_rfl) (by kernel_rfl) (fun _ _ _ h => h) (Or.inl ⟨by kernel_rfl, fun w0 hSw => ?_⟩) hS11 ?_
    · go_simp
    try simp only [Act.put, List.getElem_toArray, List.getElem_cons_succ, List.getElem_cons_zero, List.setIfInBounds_toArray, List.set_cons_zero, List.set_cons_succ]
    refine wpAnyH_done (by kernel_rfl) ?_ _
    go_wp2_with fail
    go_meet
    case rel => exact ⟨_, rfl, rfl, hB10, hS11⟩
  case rest =>
  obtain ⟨G, rfl, rfl, hgb, hf⟩ := hcut
  have g0 : wc.cell? ⟨G, 0, none⟩ = some (.int .i64 t.m) := hgb.cell (i := 0) rfl
  have g1 : wc.cell? ⟨G, 1, none⟩ = some (.int .i64 t.s) := hgb.cell (i := 1) rfl
  have g2 : wc.cell? ⟨G, 2, none⟩ = some (.int .i64 t.i) := hgb.cell (i := 2) rfl
  have u0 : wc.cell? ⟨V, 0, none⟩ = some (.int .i64 t.m) := hf.tok.cell (i := 0) rfl
  have u1 : wc.cell? ⟨V, 1, none⟩ = some (.int .i64 t.s) := hf.tok.cell (i := 1) rfl
  have u2 : wc.cell? ⟨V, 2, none⟩ = some (.int .i64 t.i) := hf.tok.cell (i := 2) rfl
  have HBf := Lib.hid hf.bel
  clear hgb hf HF6
  go_wp2_with fail
  refine (num_c _ _).mono ?_
  rintro e w' ⟨rfl, rfl⟩
  clear g0 g1 g2 u0 u1 u2
  go_wp2_with fail
  refine (tworks_c _).mono ?_
  rintro e we ⟨rfl, hbe⟩
  have HBe := Lib.hid (HBf.out.trans (hbe.mono HBf.out.size))
  clear hbe
  go_wp2_with fail
  go_ret
  exact ⟨rfl, HBe.out⟩
end Go.Proofs.YtomnjhhpeglcnaaGreat
