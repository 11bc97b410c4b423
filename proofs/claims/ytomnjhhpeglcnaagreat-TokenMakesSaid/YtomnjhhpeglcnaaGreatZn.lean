/- Words of 32 bits: turns, mixing. Plain mathematics. Contracts: turns, Mix, the reference's Mix. Contracts: Mix, the reference's Mix. Contracts: word. Contracts: the closure of Press. Contracts: the first words, the orders. Contracts: the orders. Press, plain; copies into a block. Contracts: the reference's orders and places. -/
import Derived.Test.YtomnjhhpeglcnaaGreatZc
import Derived.Test.YtomnjhhpeglcnaaGreatZf
import Derived.Test.YtomnjhhpeglcnaaGreatZb
import Derived.Laws.CopyOwn
namespace Go.Proofs.YtomnjhhpeglcnaaGreat

/-- A word turned right by n, one after the other. -/
def rot (x : Wo) : Nat → Wo
  | 0 => x
  | n + 1 => (rot x n).rotateRight 1
theorem rot_bit (x : Wo) (n : Nat) : ∀ i, i < 32 → (rot x n).getLsbD i = x.getLsbD ((i + n) % 32) := by
  induction n with
  | zero => intro i hi; rw [rot, Nat.add_zero, Nat.mod_eq_of_lt hi]
  | succ n ih =>
    intro i hi
    rw [rot, BitVec.getLsbD_rotateRight]
    by_cases h : i < 31
    · have h1 : decide (i < 32 - 1 % 32) = true := by simpa using h
      rw [h1, cond_true, ih _ (by omega)]
      congr 1
      omega
    · obtain rfl : i = 31 := by omega
      have h1 : decide (31 < 32 - 1 % 32) = false := by decide
      rw [h1, cond_false, show (31 : Nat) - (32 - 1 % 32) = 0 by decide, ih 0 (by omega)]
      simp
      congr 1
      omega
theorem rot_left (x : Wo) (n : Nat) (h1 : 1 ≤ n) (h2 : n ≤ 31) : x.rotateLeft (32 - n) = rot x n := by
  apply BitVec.eq_of_getLsbD_eq
  intro i hi
  rw [rot_bit _ _ _ hi, BitVec.getLsbD_rotateLeft]
  have hm : (32 - n) % 32 = 32 - n := by omega
  rw [hm]
  by_cases h : i < 32 - n
  · rw [decide_eq_true h, cond_true]
    congr 1
    omega
  · rw [decide_eq_false h, cond_false, decide_eq_true hi, Bool.true_and]
    congr 1
    omega
/-- Four words, mixed with two. -/
structure Quad where
  a : Wo
  b : Wo
  c : Wo
  d : Wo
/-- Half a mixing. -/
def halfq (q : Quad) (z : Wo) (far near : Nat) : Quad :=
  let a := q.a + q.b + z
  let d := rot (q.d ^^^ a) far
  let c := q.c + d
  let b := rot (q.b ^^^ c) near
  ⟨a, b, c, d⟩
def mix (q : Quad) (x y : Wo) : Quad := halfq (halfq q x 16 12) y 8 7
end Go.Proofs.YtomnjhhpeglcnaaGreat

namespace Go.Proofs.YtomnjhhpeglcnaaGreat
open Go.RowKit

theorem lt32q (x : Wo) : x.toNat < 4294967296 := x.isLt
theorem bxq (x y : Wo) : bits .xor .u32 (x.toNat : Int) (y.toNat : Int) = ((x ^^^ y).toNat : Int) := by
  rw [u32_xor_nat _ _ (lt32q x) (lt32q y), BitVec.toNat_xor]
theorem add32 (x y : Wo) : ((x.toNat : Int) + (y.toNat : Int)) % 4294967296 = ((x + y).toNat : Int) := by
  rw [BitVec.toNat_add]; omega

theorem turn_one (x : Wo) : (x.toNat : Int) / 2 + 2147483648 * ((x.toNat : Int) % 2) = ((x.rotateRight 1).toNat : Int) := by
  have h := lt32q x
  have e : (x.rotateRight 1).toNat = x.toNat / 2 + 2147483648 * (x.toNat % 2) := by
    rw [BitVec.toNat_rotateRight, Nat.shiftRight_eq_div_pow, Nat.shiftLeft_eq]
    have h2 : x.toNat * 2 ^ (32 - 1 % 32) % 2 ^ 32 = 2147483648 * (x.toNat % 2) := by
      show x.toNat * 2147483648 % 4294967296 = _
      omega
    rw [h2]
    have h3 := Nat.shiftLeft_add_eq_or_of_lt (i := 31) (b := x.toNat / 2) (by show _ < 2147483648; omega) (x.toNat % 2)
    rw [Nat.shiftLeft_eq] at h3
    rw [Nat.or_comm, Nat.mul_comm 2147483648]
    show x.toNat % 2 * 2147483648 ||| x.toNat / 2 = _
    have h4 : (2 : Nat) ^ 31 = 2147483648 := by decide
    rw [h4] at h3
    rw [← h3]
    omega
  rw [e]
  omega
set_option maxHeartbeats 400000 in
theorem turned_c (x : Wo) (n : Nat) (w : World) (hn : n ≤ 1000) :
    Calls Tryz.prog 117 #[.int .u32 (x.toNat : Int), .int .i64 (n : Int)] w fun e w' => e = .returned (.int .u32 ((rot x n).toNat : Int)) ∧ w = w' := by
  go_enter Tryz.func117, Tryz.ntmps117
  go_wp2
  go_loop [0, 5] (fun v i => ∃ k : Nat, k ≤ n ∧ i = .int .i64 k ∧ v = .int .u32 ((rot x k).toNat : Int)) (fun _ i => n - (intOf i).toNat)
  case atStart => exact ⟨0, Nat.zero_le _, rfl, rfl⟩
  case round =>
    obtain ⟨k, hk, rfl, rfl⟩ := hrel
    have hb := lt32q (rot x k)
    by_cases hlt : k < n
    · have hlt' : (k : Int) < n := by omega
      have he : ((rot x k).toNat : Int) / 2 + 2147483648 * (((rot x k).toNat : Int) % 2) = ((rot x (k + 1)).toNat : Int) := turn_one _
      go_wp2
      go_round
      case rel => exact ⟨k + 1, by omega, by go_num, rfl⟩
      case measure => simp [intOf]; omega
    · obtain rfl : k = n := by omega
      go_wp2
      go_ret
      exact ⟨rfl, rfl⟩
theorem turn_or (x : Wo) (s : Nat) (h : s ≤ 31) : bits .or .u32 ((x.toNat : Int) * 2 ^ s % 4294967296) ((x.toNat : Int) / 2 ^ (32 - s)) = ((x.rotateLeft s).toNat : Int) := by
  have e1 : ((x.toNat : Int) * 2 ^ s % 4294967296) = ((x.toNat * 2 ^ s % 4294967296 : Nat) : Int) := by
    rw [Int.natCast_emod, Int.natCast_mul, Int.natCast_pow]; rfl
  have e2 : ((x.toNat : Int) / 2 ^ (32 - s)) = ((x.toNat / 2 ^ (32 - s) : Nat) : Int) := by
    rw [Int.natCast_ediv, Int.natCast_pow]; rfl
  have hx := lt32q x
  rw [e1, e2, u32_or_nat _ _ (Nat.mod_lt _ (by decide)) (Nat.lt_of_le_of_lt (Nat.div_le_self _ _) hx), BitVec.toNat_rotateLeft, Nat.shiftLeft_eq, Nat.shiftRight_eq_div_pow, Nat.mod_eq_of_lt (by omega : s < 32)]
theorem and31 : ∀ k : Nat, k < 32 → 1 ≤ k → bits .and .u64 (IntKind.u64.wrap (-(k : Int))) 31 = ((32 - k : Nat) : Int) := by decide +kernel
set_option maxHeartbeats 400000 in
theorem rotl_c (x : Wo) (k : Nat) (w : World) (h1 : 1 ≤ k) (h2 : k ≤ 31) :
    Calls Tryz.prog 119 #[.int .u32 (x.toNat : Int), .int .i64 (-(k : Int))] w fun e w' => e = .returned (.int .u32 ((rot x k).toNat : Int)) ∧ w = w' := by
  have ha := and31 k (by omega) h1
  obtain ⟨s, hs⟩ : ∃ s, s = 32 - k := ⟨_, rfl⟩
  rw [← hs] at ha
  have hs1 : 1 ≤ s := by omega
  have hs2 : s ≤ 31 := by omega
  have HS : Hid (x.rotateLeft s = rot x k) := Lib.hid (by rw [hs]; exact rot_left x k h1 h2)
  clear hs
  go_enter Tryz.func119, Tryz.ntmps119
  go_wp2
  rw [turn_or x s hs2, HS.out]
  go_ret
  exact ⟨rfl, rfl⟩

/-- A quad's cells. -/
def Quad.cells (q : Quad) : Array Value := #[.int .u32 (q.a.toNat : Int), .int .u32 (q.b.toNat : Int), .int .u32 (q.c.toNat : Int), .int .u32 (q.d.toNat : Int)]

set_option maxHeartbeats 1000000 in
theorem half_c (g : Nat) (q : Quad) (z : Wo) (far near : Nat) (w : World) (h : Blk w g 182 q.cells) (h1 : 1 ≤ far) (h2 : far ≤ 31) (h3 : 1 ≤ near) (h4 : near ≤ 31) :
    Calls Tryz.prog 118 #[.int .u32 (z.toNat : Int), .int .i64 (far : Int), .int .i64 (near : Int), .pointer (some ⟨g, 0, none⟩)] w fun e w' => e = .returned (.tuple #[]) ∧ Blk w' g 182 (halfq q z far near).cells ∧ Only g w w' := by
  obtain ⟨a, b, c, d⟩ := q
  have c0 : w.cell? ⟨g, 0, none⟩ = some (.int .u32 (a.toNat : Int)) := h.cell rfl
  have c1 : w.cell? ⟨g, 1, none⟩ = some (.int .u32 (b.toNat : Int)) := h.cell rfl
  have c2 : w.cell? ⟨g, 2, none⟩ = some (.int .u32 (c.toNat : Int)) := h.cell rfl
  have c3 : w.cell? ⟨g, 3, none⟩ = some (.int .u32 (d.toNat : Int)) := h.cell rfl
  have f0 := h.frozen 0
  have f1 := h.frozen 1
  have f2 := h.frozen 2
  have f3 := h.frozen 3
  have e1 := add32 b z
  have e2 := add32 a (b + z)
  obtain ⟨a', ha'⟩ : ∃ a', a' = a + (b + z) := ⟨_, rfl⟩
  rw [← ha'] at e2
  obtain ⟨bz, hbz⟩ : ∃ x, x = b + z := ⟨_, rfl⟩
  rw [← hbz] at e1 e2
  have x1 := bxq d a'
  obtain ⟨d1, hd1⟩ : ∃ x, x = d ^^^ a' := ⟨_, rfl⟩
  rw [← hd1] at x1
  have HA := Lib.hid ha'; have HBZ := Lib.hid hbz; have HD := Lib.hid hd1
  have HH := Lib.hid h
  clear h ha' hbz hd1
  go_enter Tryz.func118, Tryz.ntmps118
  go_wp2_with fail
  refine (rotl_c d1 far _ h1 h2).mono ?_
  rintro e w' ⟨rfl, rfl⟩
  obtain ⟨d', hd'⟩ : ∃ x, x = rot d1 far := ⟨_, rfl⟩
  rw [← hd']
  have e3 := add32 c d'
  obtain ⟨c', hc'⟩ : ∃ x, x = c + d' := ⟨_, rfl⟩
  rw [← hc'] at e3
  have x2 := bxq b c'
  obtain ⟨b1, hb1⟩ : ∃ x, x = b ^^^ c' := ⟨_, rfl⟩
  rw [← hb1] at x2
  have HD' := Lib.hid hd'; have HC' := Lib.hid hc'; have HB1 := Lib.hid hb1
  clear hd' hc' hb1
  go_wp2_with fail
  refine (rotl_c b1 near _ h3 h4).mono ?_
  rintro e w' ⟨rfl, rfl⟩
  go_wp2_with fail
  go_end0
  have hq : halfq ⟨a, b, c, d⟩ z far near = ⟨a', rot b1 near, c', d'⟩ := by
    have ea : a' = a + b + z := by rw [HA.out, BitVec.add_assoc]
    unfold halfq
    simp only [← ea, ← HD.out, ← HD'.out, ← HC'.out, ← HB1.out]
  rw [hq]
  have hB := (((HH.out.set 0 (.int .u32 (a'.toNat : Int))).set 3 (.int .u32 (d'.toNat : Int))).set 2 (.int .u32 (c'.toNat : Int))).set 1 (.int .u32 ((rot b1 near).toNat : Int))
  exact ⟨rfl, hB, ((((Only.refl g w).setCell (p := ⟨g, 0, none⟩) (.inl rfl) _).setCell (p := ⟨g, 3, none⟩) (.inl rfl) _).setCell (p := ⟨g, 2, none⟩) (.inl rfl) _).setCell (p := ⟨g, 1, none⟩) (.inl rfl) _⟩
end Go.Proofs.YtomnjhhpeglcnaaGreat

namespace Go.Proofs.YtomnjhhpeglcnaaGreat
open Go.RowKit

theorem info23 : (Tryz.prog.info? 182).map (·.size) = some 4 := by kernel_rfl
theorem Quad.one (q : Quad) : q.cells.all (·.oneCell') = true := by simp [Quad.cells, Value.oneCell']
theorem Quad.info (q : Quad) : (Tryz.prog.info? 182).map (·.size) = some q.cells.size := info23
theorem below2 (w : World) (o o' : Obj) : Below w.heap.size w ((w.alloc o).alloc o') := ((Below.refl _ _).alloc (Nat.le_refl _) _).alloc (by simp) _

set_option maxHeartbeats 1000000 in
theorem mix_c (q : Quad) (x y : Wo) (w : World) :
    Calls Tryz.prog 115 #[.agg q.cells, .int .u32 (x.toNat : Int), .int .u32 (y.toNat : Int)] w fun e w' => e = .returned (.agg (mix q x y).cells) ∧ Below w.heap.size w w' := by
  have hmf : ∀ (fn : Fn) (first cap : Array Value) (w : World), (Instr.makeFunc fn first cap).run Tryz.prog w = .ok (.func fn first cap) w := fun _ _ _ _ => rfl
  have hb1 := (Blk.new w 182 q.cells).alloc (.cells #[.int .u32 0, .int .u32 0, .int .u32 0, .int .u32 0] 182)
  have hb2 := Blk.new2 w (.cells q.cells 182) 182 #[.int .u32 0, .int .u32 0, .int .u32 0, .int .u32 0]
  have hbb := below2 w (.cells q.cells 182) (.cells #[.int .u32 0, .int .u32 0, .int .u32 0, .int .u32 0] 182)
  obtain ⟨cs, hcs⟩ : ∃ cs, cs = q.cells := ⟨_, rfl⟩
  rw [← hcs] at hb1 hb2 hbb ⊢
  have HCS := Lib.hid hcs; clear hcs
  go_enter Tryz.func115, Tryz.ntmps115
  go_wp2_with fail
  clear hmf
  generalize (World.alloc _ _) = w2 at hb1 hb2 hbb ⊢
  rw [HCS.out] at hb1
  have H1 := Lib.hid hb1; have H2 := Lib.hid hb2; have HB := Lib.hid hbb
  clear hb1 hb2 hbb
  refine (half_c w.heap.size q x 16 12 _ H1.out (by decide) (by decide) (by decide) (by decide)).mono ?_
  rintro e w3 ⟨rfl, hq, hO⟩
  have H3 := Lib.hid hq
  have H4 := Lib.hid (hO.blk H2.out (by omega))
  have HB3 := Lib.hid (HB.out.trans (hO.below HB.out.size (Nat.le_refl _)))
  clear hq hO
  go_wp2_with fail
  refine (half_c w.heap.size _ y 8 7 _ H3.out (by decide) (by decide) (by decide) (by decide)).mono ?_
  rintro e w5 ⟨rfl, hq, hO⟩
  have H5 : Hid (Blk w5 w.heap.size 182 (mix q x y).cells) := Lib.hid hq
  have H6 := Lib.hid (hO.blk H4.out (by omega))
  have HB5 := Lib.hid (HB3.out.trans (hO.below HB3.out.size (Nat.le_refl _)))
  clear hq hO
  go_wp2_with (first | (refine wpl_load_blk rfl 182 _ rfl w.heap.size rfl 182 _ _ H5.out Tryz.underlying182 rfl (Quad.info _) ?_) | (refine wpl_store_blk rfl 182 _ _ rfl (w.heap.size + 1) 182 _ _ rfl rfl H6.out rfl (Quad.info _) (Quad.one _) ?_; intro w6 hB6 hO6 hz6))
  exact bodyPost_ret (results_cell_row rfl _ _ (w.heap.size + 1) 182 _ (0, 0) _ rfl hB6 Tryz.underlying182 rfl (Quad.info _)) rfl ⟨rfl, HB5.out.trans (hO6.below HB5.out.size (by omega))⟩

set_option maxHeartbeats 2000000 in
theorem rmix_c (q : Quad) (x y : Wo) (w : World) :
    Calls Tryz.prog 112 #[.agg q.cells, .int .u32 (x.toNat : Int), .int .u32 (y.toNat : Int)] w fun e w' => e = .returned (.agg (mix q x y).cells) ∧ Below w.heap.size w w' := by
  obtain ⟨a, b, c, d⟩ := q
  have hbb := below2 w (.cells (Quad.cells ⟨a, b, c, d⟩) 182) (.cells #[.int .u32 0, .int .u32 0, .int .u32 0, .int .u32 0] 182)
  have hb2 := Blk.new2 w (.cells (Quad.cells ⟨a, b, c, d⟩) 182) 182 #[.int .u32 0, .int .u32 0, .int .u32 0, .int .u32 0]
  unfold Quad.cells at hbb hb2
  have HB := Lib.hid hbb; have H2 := Lib.hid hb2
  clear hbb hb2
  rw [show (Quad.cells ⟨a, b, c, d⟩) = #[.int .u32 (a.toNat : Int), .int .u32 (b.toNat : Int), .int .u32 (c.toNat : Int), .int .u32 (d.toNat : Int)] from rfl]
  go_enter Tryz.func112, Tryz.ntmps112
  have e11 := add32 a b
  obtain ⟨s1, hs1⟩ : ∃ v, v = a + b := ⟨_, rfl⟩
  rw [← hs1] at e11
  have e12 := add32 s1 x
  obtain ⟨a1, ha1⟩ : ∃ v, v = s1 + x := ⟨_, rfl⟩
  rw [← ha1] at e12
  have e13 := bxq d a1
  obtain ⟨p1, hp1⟩ : ∃ v, v = d ^^^ a1 := ⟨_, rfl⟩
  rw [← hp1] at e13
  have HS1 := Lib.hid hs1; have HA1 := Lib.hid ha1; have HP1 := Lib.hid hp1
  clear hs1 ha1 hp1
  go_wp2_with fail
  go_quiet (fail)
  go_wp2_with fail
  refine (turned_c p1 16 _ (by decide)).mono ?_
  rintro e w' ⟨rfl, rfl⟩
  obtain ⟨d1, hd1⟩ : ∃ v, v = rot p1 16 := ⟨_, rfl⟩
  rw [← hd1]
  have e14 := add32 c d1
  obtain ⟨c1, hc1⟩ : ∃ v, v = c + d1 := ⟨_, rfl⟩
  rw [← hc1] at e14
  have e15 := bxq b c1
  obtain ⟨r1, hr1⟩ : ∃ v, v = b ^^^ c1 := ⟨_, rfl⟩
  rw [← hr1] at e15
  have HD1 := Lib.hid hd1; have HC1 := Lib.hid hc1; have HR1 := Lib.hid hr1
  clear hd1 hc1 hr1
  go_wp2_with fail
  refine (turned_c r1 12 _ (by decide)).mono ?_
  rintro e w' ⟨rfl, rfl⟩
  obtain ⟨b1, hb1⟩ : ∃ v, v = rot r1 12 := ⟨_, rfl⟩
  rw [← hb1]
  have HB1 := Lib.hid hb1
  clear hb1
  have e21 := add32 a1 b1
  obtain ⟨s2, hs2⟩ : ∃ v, v = a1 + b1 := ⟨_, rfl⟩
  rw [← hs2] at e21
  have e22 := add32 s2 y
  obtain ⟨a2, ha2⟩ : ∃ v, v = s2 + y := ⟨_, rfl⟩
  rw [← ha2] at e22
  have e23 := bxq d1 a2
  obtain ⟨p2, hp2⟩ : ∃ v, v = d1 ^^^ a2 := ⟨_, rfl⟩
  rw [← hp2] at e23
  have HS2 := Lib.hid hs2; have HA2 := Lib.hid ha2; have HP2 := Lib.hid hp2
  clear hs2 ha2 hp2
  go_wp2_with fail
  refine (turned_c p2 8 _ (by decide)).mono ?_
  rintro e w' ⟨rfl, rfl⟩
  obtain ⟨d2, hd2⟩ : ∃ v, v = rot p2 8 := ⟨_, rfl⟩
  rw [← hd2]
  have e24 := add32 c1 d2
  obtain ⟨c2, hc2⟩ : ∃ v, v = c1 + d2 := ⟨_, rfl⟩
  rw [← hc2] at e24
  have e25 := bxq b1 c2
  obtain ⟨r2, hr2⟩ : ∃ v, v = b1 ^^^ c2 := ⟨_, rfl⟩
  rw [← hr2] at e25
  have HD2 := Lib.hid hd2; have HC2 := Lib.hid hc2; have HR2 := Lib.hid hr2
  clear hd2 hc2 hr2
  go_wp2_with fail
  refine (turned_c r2 7 _ (by decide)).mono ?_
  rintro e w' ⟨rfl, rfl⟩
  obtain ⟨b2, hb2⟩ : ∃ v, v = rot r2 7 := ⟨_, rfl⟩
  rw [← hb2]
  have HB2 := Lib.hid hb2
  clear hb2
  have hq1 : halfq ⟨a, b, c, d⟩ x 16 12 = ⟨a1, b1, c1, d1⟩ := by
    unfold halfq
    simp only [← HS1.out, ← HA1.out, ← HP1.out, ← HD1.out, ← HC1.out, ← HR1.out, ← HB1.out]
  have hq2 : halfq ⟨a1, b1, c1, d1⟩ y 8 7 = ⟨a2, b2, c2, d2⟩ := by
    unfold halfq
    simp only [← HS2.out, ← HA2.out, ← HP2.out, ← HD2.out, ← HC2.out, ← HR2.out, ← HB2.out]
  have HQ : Hid ((mix ⟨a, b, c, d⟩ x y).cells = #[.int .u32 (a2.toNat : Int), .int .u32 (b2.toNat : Int), .int .u32 (c2.toNat : Int), .int .u32 (d2.toNat : Int)]) := Lib.hid (by
    unfold mix; rw [hq1, hq2]; rfl)
  clear hq1 hq2
  have hbn := H2.out.below (below_drewN (Below.refl _ _) nq) H2.out.lt
  have HBN := Lib.hid (HB.out.trans (below_drewN (Below.refl _ _) nq |>.mono HB.out.size))
  have HBL := Lib.hid hbn
  clear hbn HB H2
  go_wp2_with (refine wpl_store_blk rfl 182 _ _ rfl (w.heap.size + 1) 182 _ _ rfl rfl HBL.out rfl (by kernel_rfl) (by simp [Value.oneCell']) ?_; intro w6 hB6 hO6 hz6)
  refine bodyPost_ret (results_cell_row rfl _ _ (w.heap.size + 1) 182 _ (0, 0) _ rfl hB6 Tryz.underlying182 rfl (by kernel_rfl)) rfl ⟨?_, HBN.out.trans (hO6.below HBN.out.size (by omega))⟩
  rw [HQ.out]
end Go.Proofs.YtomnjhhpeglcnaaGreat

namespace Go.Proofs.YtomnjhhpeglcnaaGreat
open Go.RowKit

/-- A word of four bytes, the lowest ahead. -/
def wordN (b0 b1 b2 b3 : By) : Nat := b0.toNat + 256 * b1.toNat + 65536 * b2.toNat + 16777216 * b3.toNat
theorem wordN_lt (b0 b1 b2 b3 : By) : wordN b0 b1 b2 b3 < 4294967296 := by
  have := b0.isLt; have := b1.isLt; have := b2.isLt; have := b3.isLt
  unfold wordN; omega
theorem or_step (a c k : Nat) (ha : a < 2 ^ k) (hc : c * 2 ^ k < 4294967296) (ha2 : a < 4294967296) : bits .or .u32 (a : Int) ((c * 2 ^ k : Nat) : Int) = ((a + c * 2 ^ k : Nat) : Int) := by
  rw [u32_or_nat _ _ ha2 hc]
  have h3 := Nat.shiftLeft_add_eq_or_of_lt (i := k) (b := a) ha c
  rw [Nat.shiftLeft_eq] at h3
  rw [Nat.or_comm, ← h3, Nat.add_comm]
theorem word_or (b0 b1 b2 b3 : By) : bits .or .u32 (bits .or .u32 (bits .or .u32 (bits .or .u32 0 (b0.toNat : Int)) ((b1.toNat : Int) * 256)) ((b2.toNat : Int) * 65536)) ((b3.toNat : Int) * 16777216) = (wordN b0 b1 b2 b3 : Nat) := by
  have l0 := b0.isLt; have l1 := b1.isLt; have l2 := b2.isLt; have l3 := b3.isLt
  have s0 := or_step 0 b0.toNat 0 (by decide) (by omega) (by decide)
  have s1 := or_step b0.toNat b1.toNat 8 (by omega) (by omega) (by omega)
  have s2 := or_step (b0.toNat + b1.toNat * 256) b2.toNat 16 (by omega) (by omega) (by omega)
  have s3 := or_step (b0.toNat + b1.toNat * 256 + b2.toNat * 65536) b3.toNat 24 (by omega) (by omega) (by omega)
  have e0 : bits .or .u32 0 (b0.toNat : Int) = (b0.toNat : Int) := by simpa using s0
  have e1 : bits .or .u32 (b0.toNat : Int) ((b1.toNat : Int) * 256) = ((b0.toNat + b1.toNat * 256 : Nat) : Int) := by
    rw [← s1]; congr 1
  have e2 : bits .or .u32 ((b0.toNat + b1.toNat * 256 : Nat) : Int) ((b2.toNat : Int) * 65536) = ((b0.toNat + b1.toNat * 256 + b2.toNat * 65536 : Nat) : Int) := by
    rw [← s2]; congr 1
  have e3 : bits .or .u32 ((b0.toNat + b1.toNat * 256 + b2.toNat * 65536 : Nat) : Int) ((b3.toNat : Int) * 16777216) = ((b0.toNat + b1.toNat * 256 + b2.toNat * 65536 + b3.toNat * 16777216 : Nat) : Int) := by
    rw [← s3]; congr 1
  rw [e0, e1, e2, e3]
  unfold wordN
  congr 1
  omega

set_option maxHeartbeats 1000000 in
theorem word_c (g off n cap : Nat) (b0 b1 b2 b3 : By) (w : World) (hn : 4 ≤ n) (hc : n ≤ cap) (hm : cap ≤ 1000000)
    (h0 : w.cell? ⟨g, off, none⟩ = some (.int .u8 (b0.toNat : Int))) (h1 : w.cell? ⟨g, off + 1, none⟩ = some (.int .u8 (b1.toNat : Int))) (h2 : w.cell? ⟨g, off + 2, none⟩ = some (.int .u8 (b2.toNat : Int))) (h3 : w.cell? ⟨g, off + 3, none⟩ = some (.int .u8 (b3.toNat : Int))) :
    Calls Tryz.prog 113 #[.slice (some ⟨g, off, none⟩) n cap] w fun e w' => e = .returned (.int .u32 (wordN b0 b1 b2 b3 : Nat)) ∧ w = w' := by
  have k1 : ¬ (cap : Int) < 4 := by omega
  have k2 : ¬ cap < 4 := by omega
  go_enter Tryz.func113, Tryz.ntmps113
  go_wp2_with fail
  refine wp_loop_rounds 5 ?_
  rw [rounds_succ]
  go_wp2_with fail
  rw [rounds_succ]
  go_wp2_with fail
  rw [rounds_succ]
  go_wp2_with fail
  rw [rounds_succ]
  go_wp2_with fail
  rw [rounds_succ]
  go_wp2_with fail
  rw [word_or]
  go_ret
  exact ⟨rfl, rfl⟩
end Go.Proofs.YtomnjhhpeglcnaaGreat

namespace Go.Proofs.YtomnjhhpeglcnaaGreat
open Go.RowKit
set_option linter.unusedSimpArgs false
set_option linter.unusedVariables false

/-- Words as cells. -/
def ws (l : List Wo) : Array Value := (l.map fun x => Value.int .u32 (x.toNat : Int)).toArray
theorem ws_size (l : List Wo) : (ws l).size = l.length := by simp [ws]
theorem ws_get {l : List Wo} {k : Nat} (h : k < l.length) : (ws l)[k]? = some (.int .u32 ((l.getD k 0#32).toNat : Int)) := by
  simp [ws, h]
theorem ws_set (l : List Wo) (k : Nat) (x : Wo) : (ws l).setIfInBounds k (.int .u32 (x.toNat : Int)) = ws (l.set k x) := by
  simp [ws, List.map_set]
theorem ws_one (l : List Wo) : (ws l).all (·.oneCell') = true := by
  simp [ws, Value.oneCell']
theorem blk_ws {w : World} {g : Nat} {t : TypeId} {l : List Wo} {k : Nat} (h : Blk w g t (ws l)) (hk : k < l.length) : w.cell? ⟨g, k, none⟩ = some (.int .u32 ((l.getD k 0#32).toNat : Int)) := h.cell (ws_get hk)
theorem blk_ws_set {w : World} {g : Nat} {t : TypeId} {l : List Wo} (h : Blk w g t (ws l)) (k : Nat) (x : Wo) : Blk (w.setCell ⟨g, k, none⟩ (.int .u32 (x.toNat : Int))) g t (ws (l.set k x)) := by
  rw [← ws_set]; exact h.set _ _
theorem Only.trans2 {a w w' : World} {b g : Nat} (h : Only b a w) (hO : Only g w w') (hg : a.heap.size ≤ g) : Only b a w' :=
  h.grown hO (fun k e => .inr (by injection e with e; omega))
section
variable {w0 W W' : World} {gv ga : Nat} {V : List Wo} {cs : Array Value}
theorem pbelow (hb : Below W.heap.size W W') (h : Blk W gv 177 (ws V) ∧ Blk W ga 3 cs) : Blk W' gv 177 (ws V) ∧ Blk W' ga 3 cs := ⟨h.1.below hb h.1.lt, h.2.below hb h.2.lt⟩
theorem psides {k : Nat} (h : Blk W gv 177 (ws V) ∧ Blk W ga 3 cs) (hO : Only k W W') (h1 : gv ≠ k) (h2 : ga ≠ k) : Blk W' gv 177 (ws V) ∧ Blk W' ga 3 cs := ⟨hO.blk h.1 h1, hO.blk h.2 h2⟩
theorem palloc {o : Array Value} {t : TypeId} (h : Blk W gv 177 (ws V) ∧ Blk W ga 3 cs) (hO : Only gv w0 W) : (Blk (W.alloc (.cells o t)) gv 177 (ws V) ∧ Blk (W.alloc (.cells o t)) ga 3 cs) ∧ Blk (W.alloc (.cells o t)) W.heap.size t o ∧ Only gv w0 (W.alloc (.cells o t)) ∧ gv ≠ W.heap.size ∧ ga ≠ W.heap.size ∧ w0.heap.size ≤ W.heap.size :=
  ⟨⟨h.1.alloc _, h.2.alloc _⟩, Blk.new _ _ _, hO.alloc _, Nat.ne_of_lt h.1.lt, Nat.ne_of_lt h.2.lt, hO.size⟩
end
/-- Four words of a state mixed with two. -/
def quadAt (V : List Wo) (p0 p1 p2 p3 : Nat) : Quad := ⟨V.getD p0 0#32, V.getD p1 0#32, V.getD p2 0#32, V.getD p3 0#32⟩
def mixAt (V : List Wo) (x y : Wo) (p0 p1 p2 p3 : Nat) : List Wo :=
  (((V.set p0 (mix (quadAt V p0 p1 p2 p3) x y).a).set p1 (mix (quadAt V p0 p1 p2 p3) x y).b).set p2 (mix (quadAt V p0 p1 p2 p3) x y).c).set p3 (mix (quadAt V p0 p1 p2 p3) x y).d

set_option maxRecDepth 100000 in
set_option maxHeartbeats 4000000 in
theorem pmix_c (gv ga : Nat) (V : List Wo) (x y : Wo) (p0 p1 p2 p3 : Nat) (w : World) (hv : V.length = 16) (h0 : p0 < 16) (h1 : p1 < 16) (h2 : p2 < 16) (h3 : p3 < 16) (hne : gv ≠ ga)
    (hV : Blk w gv 177 (ws V)) (hA : Blk w ga 3 #[.int .i64 (p0 : Int), .int .i64 (p1 : Int), .int .i64 (p2 : Int), .int .i64 (p3 : Int)]) :
    Calls Tryz.prog 114 #[.int .u32 (x.toNat : Int), .int .u32 (y.toNat : Int), .slice (some ⟨ga, 0, none⟩) 4 4, .pointer (some ⟨gv, 0, none⟩)] w fun e w' => e = .returned (.tuple #[]) ∧ Blk w' gv 177 (ws (mixAt V x y p0 p1 p2 p3)) ∧ Only gv w w' := by
  have l0 : (p0 : Int) < 16 := by omega
  have l1 : (p1 : Int) < 16 := by omega
  have l2 : (p2 : Int) < 16 := by omega
  have l3 : (p3 : Int) < 16 := by omega
  have m0 : (0 : Int) ≤ (p0 : Int) := by omega
  have m1 : (0 : Int) ≤ (p1 : Int) := by omega
  have m2 : (0 : Int) ≤ (p2 : Int) := by omega
  have m3 : (0 : Int) ≤ (p3 : Int) := by omega
  have HV := Lib.hid hV; have HA := Lib.hid hA
  clear hV hA
  have HBA := Lib.hid ((Only.refl gv w).drew)
  obtain ⟨a0, ha0⟩ : ∃ a, a = V.getD p0 0#32 := ⟨_, rfl⟩
  obtain ⟨a1, ha1⟩ : ∃ a, a = V.getD p1 0#32 := ⟨_, rfl⟩
  obtain ⟨a2, ha2⟩ : ∃ a, a = V.getD p2 0#32 := ⟨_, rfl⟩
  obtain ⟨a3, ha3⟩ : ∃ a, a = V.getD p3 0#32 := ⟨_, rfl⟩
  have HW0 := Lib.hid ha0; have HW1 := Lib.hid ha1; have HW2 := Lib.hid ha2; have HW3 := Lib.hid ha3
  obtain ⟨q, hq⟩ : ∃ q, q = quadAt V p0 p1 p2 p3 := ⟨_, rfl⟩
  have hqc : q.cells = #[.int .u32 (a0.toNat : Int), .int .u32 (a1.toNat : Int), .int .u32 (a2.toNat : Int), .int .u32 (a3.toNat : Int)] := by rw [hq, ha0, ha1, ha2, ha3]; rfl
  have HQC := Lib.hid hqc
  have HQQ := Lib.hid hq
  clear hqc hq ha0 ha1 ha2 ha3
  go_enter Tryz.func114, Tryz.ntmps114
  go_wp2_with fail
  have hS0 : Blk w.drew gv 177 (ws V) ∧ Blk w.drew ga 3 #[.int .i64 (p0 : Int), .int .i64 (p1 : Int), .int .i64 (p2 : Int), .int .i64 (p3 : Int)] := ⟨HV.out.drew, HA.out.drew⟩
  refine wp_region_held_drew (S := (fun W => Blk W gv 177 (ws V) ∧ Blk W ga 3 #[.int .i64 (p0 : Int), .int .i64 (p1 : Int), .int .i64 (p2 : Int), .int .i64 (p3 : Int)])) (by kernel_rfl) hS0 ?_
  intro hS0'
  generalize w.drew = wA at hS0' HBA ⊢
  clear hS0
  refine wpAnyH_take (i := 0) (v := .slice (some ⟨ga, 0, none⟩) 4 4) rfl (by kernel_rfl) (by kernel_rfl) (by kernel_rfl) (fun _ _ _ h => h) (Or.inl ⟨by kernel_rfl, fun w hSw => ?_⟩) hS0' ?_
  · go_simp
  try simp only [Act.put, List.getElem_toArray, List.getElem_cons_succ, List.getElem_cons_zero, List.setIfInBounds_toArray, List.set_cons_zero, List.set_cons_succ]
  refine wpAnyH_take (i := 1) (v := .pointer (some ⟨ga, 0, none⟩)) rfl (by kernel_rfl) (by kernel_rfl) (by kernel_rfl) (fun _ _ _ h => h) (Or.inl ⟨by kernel_rfl, fun w hSw => ?_⟩) hS0' ?_
  · go_simp
  try simp only [Act.put, List.getElem_toArray, List.getElem_cons_succ, List.getElem_cons_zero, List.setIfInBounds_toArray, List.set_cons_zero, List.set_cons_succ]
  refine wpAnyH_take (i := 2) (v := .int .i64 (p0 : Int)) rfl (by kernel_rfl) (by kernel_rfl) (by kernel_rfl) (fun _ _ _ h => h) (Or.inl ⟨by kernel_rfl, fun w hSw => ?_⟩) hS0' ?_
  · have hc : w.cell? ⟨ga, 0, none⟩ = some (.int .i64 (p0 : Int)) := hSw.2.cell rfl
    clear hSw
    go_simp
  try simp only [Act.put, List.getElem_toArray, List.getElem_cons_succ, List.getElem_cons_zero, List.setIfInBounds_toArray, List.set_cons_zero, List.set_cons_succ]
  refine wpAnyH_take (i := 3) (v := .pointer (some ⟨gv, p0, none⟩)) rfl (by kernel_rfl) (by kernel_rfl) (by kernel_rfl) (fun _ _ _ h => h) (Or.inl ⟨by kernel_rfl, fun w hSw => ?_⟩) hS0' ?_
  · go_simp
  try simp only [Act.put, List.getElem_toArray, List.getElem_cons_succ, List.getElem_cons_zero, List.setIfInBounds_toArray, List.set_cons_zero, List.set_cons_succ]
  refine wpAnyH_take (i := 4) (v := .int .u32 (a0.toNat : Int)) rfl (by kernel_rfl) (by kernel_rfl) (by kernel_rfl) (fun _ _ _ h => h) (Or.inl ⟨by kernel_rfl, fun w hSw => ?_⟩) hS0' ?_
  · have hc : w.cell? ⟨gv, p0, none⟩ = some (.int .u32 (a0.toNat : Int)) := by rw [HW0.out]; exact blk_ws hSw.1 (k := p0) (by omega)
    clear hSw
    go_simp
  try simp only [Act.put, List.getElem_toArray, List.getElem_cons_succ, List.getElem_cons_zero, List.setIfInBounds_toArray, List.set_cons_zero, List.set_cons_succ]
  refine wpAnyH_take (i := 5) (v := .slice (some ⟨ga, 0, none⟩) 4 4) rfl (by kernel_rfl) (by kernel_rfl) (by kernel_rfl) (fun _ _ _ h => h) (Or.inl ⟨by kernel_rfl, fun w hSw => ?_⟩) hS0' ?_
  · go_simp
  try simp only [Act.put, List.getElem_toArray, List.getElem_cons_succ, List.getElem_cons_zero, List.setIfInBounds_toArray, List.set_cons_zero, List.set_cons_succ]
  refine wpAnyH_take (i := 6) (v := .pointer (some ⟨ga, 1, none⟩)) rfl (by kernel_rfl) (by kernel_rfl) (by kernel_rfl) (fun _ _ _ h => h) (Or.inl ⟨by kernel_rfl, fun w hSw => ?_⟩) hS0' ?_
  · go_simp
  try simp only [Act.put, List.getElem_toArray, List.getElem_cons_succ, List.getElem_cons_zero, List.setIfInBounds_toArray, List.set_cons_zero, List.set_cons_succ]
  refine wpAnyH_take (i := 7) (v := .int .i64 (p1 : Int)) rfl (by kernel_rfl) (by kernel_rfl) (by kernel_rfl) (fun _ _ _ h => h) (Or.inl ⟨by kernel_rfl, fun w hSw => ?_⟩) hS0' ?_
  · have hc : w.cell? ⟨ga, 1, none⟩ = some (.int .i64 (p1 : Int)) := hSw.2.cell rfl
    clear hSw
    go_simp
  try simp only [Act.put, List.getElem_toArray, List.getElem_cons_succ, List.getElem_cons_zero, List.setIfInBounds_toArray, List.set_cons_zero, List.set_cons_succ]
  refine wpAnyH_take (i := 8) (v := .pointer (some ⟨gv, p1, none⟩)) rfl (by kernel_rfl) (by kernel_rfl) (by kernel_rfl) (fun _ _ _ h => h) (Or.inl ⟨by kernel_rfl, fun w hSw => ?_⟩) hS0' ?_
  · go_simp
  try simp only [Act.put, List.getElem_toArray, List.getElem_cons_succ, List.getElem_cons_zero, List.setIfInBounds_toArray, List.set_cons_zero, List.set_cons_succ]
  refine wpAnyH_take (i := 9) (v := .int .u32 (a1.toNat : Int)) rfl (by kernel_rfl) (by kernel_rfl) (by kernel_rfl) (fun _ _ _ h => h) (Or.inl ⟨by kernel_rfl, fun w hSw => ?_⟩) hS0' ?_
  · have hc : w.cell? ⟨gv, p1, none⟩ = some (.int .u32 (a1.toNat : Int)) := by rw [HW1.out]; exact blk_ws hSw.1 (k := p1) (by omega)
    clear hSw
    go_simp
  try simp only [Act.put, List.getElem_toArray, List.getElem_cons_succ, List.getElem_cons_zero, List.setIfInBounds_toArray, List.set_cons_zero, List.set_cons_succ]
  refine wpAnyH_take (i := 10) (v := .slice (some ⟨ga, 0, none⟩) 4 4) rfl (by kernel_rfl) (by kernel_rfl) (by kernel_rfl) (fun _ _ _ h => h) (Or.inl ⟨by kernel_rfl, fun w hSw => ?_⟩) hS0' ?_
  · go_simp
  try simp only [Act.put, List.getElem_toArray, List.getElem_cons_succ, List.getElem_cons_zero, List.setIfInBounds_toArray, List.set_cons_zero, List.set_cons_succ]
  refine wpAnyH_take (i := 11) (v := .pointer (some ⟨ga, 2, none⟩)) rfl (by kernel_rfl) (by kernel_rfl) (by kernel_rfl) (fun _ _ _ h => h) (Or.inl ⟨by kernel_rfl, fun w hSw => ?_⟩) hS0' ?_
  · go_simp
  try simp only [Act.put, List.getElem_toArray, List.getElem_cons_succ, List.getElem_cons_zero, List.setIfInBounds_toArray, List.set_cons_zero, List.set_cons_succ]
  refine wpAnyH_take (i := 12) (v := .int .i64 (p2 : Int)) rfl (by kernel_rfl) (by kernel_rfl) (by kernel_rfl) (fun _ _ _ h => h) (Or.inl ⟨by kernel_rfl, fun w hSw => ?_⟩) hS0' ?_
  · have hc : w.cell? ⟨ga, 2, none⟩ = some (.int .i64 (p2 : Int)) := hSw.2.cell rfl
    clear hSw
    go_simp
  try simp only [Act.put, List.getElem_toArray, List.getElem_cons_succ, List.getElem_cons_zero, List.setIfInBounds_toArray, List.set_cons_zero, List.set_cons_succ]
  refine wpAnyH_take (i := 13) (v := .pointer (some ⟨gv, p2, none⟩)) rfl (by kernel_rfl) (by kernel_rfl) (by kernel_rfl) (fun _ _ _ h => h) (Or.inl ⟨by kernel_rfl, fun w hSw => ?_⟩) hS0' ?_
  · go_simp
  try simp only [Act.put, List.getElem_toArray, List.getElem_cons_succ, List.getElem_cons_zero, List.setIfInBounds_toArray, List.set_cons_zero, List.set_cons_succ]
  refine wpAnyH_take (i := 14) (v := .int .u32 (a2.toNat : Int)) rfl (by kernel_rfl) (by kernel_rfl) (by kernel_rfl) (fun _ _ _ h => h) (Or.inl ⟨by kernel_rfl, fun w hSw => ?_⟩) hS0' ?_
  · have hc : w.cell? ⟨gv, p2, none⟩ = some (.int .u32 (a2.toNat : Int)) := by rw [HW2.out]; exact blk_ws hSw.1 (k := p2) (by omega)
    clear hSw
    go_simp
  try simp only [Act.put, List.getElem_toArray, List.getElem_cons_succ, List.getElem_cons_zero, List.setIfInBounds_toArray, List.set_cons_zero, List.set_cons_succ]
  refine wpAnyH_take (i := 15) (v := .slice (some ⟨ga, 0, none⟩) 4 4) rfl (by kernel_rfl) (by kernel_rfl) (by kernel_rfl) (fun _ _ _ h => h) (Or.inl ⟨by kernel_rfl, fun w hSw => ?_⟩) hS0' ?_
  · go_simp
  try simp only [Act.put, List.getElem_toArray, List.getElem_cons_succ, List.getElem_cons_zero, List.setIfInBounds_toArray, List.set_cons_zero, List.set_cons_succ]
  refine wpAnyH_take (i := 16) (v := .pointer (some ⟨ga, 3, none⟩)) rfl (by kernel_rfl) (by kernel_rfl) (by kernel_rfl) (fun _ _ _ h => h) (Or.inl ⟨by kernel_rfl, fun w hSw => ?_⟩) hS0' ?_
  · go_simp
  try simp only [Act.put, List.getElem_toArray, List.getElem_cons_succ, List.getElem_cons_zero, List.setIfInBounds_toArray, List.set_cons_zero, List.set_cons_succ]
  refine wpAnyH_take (i := 17) (v := .int .i64 (p3 : Int)) rfl (by kernel_rfl) (by kernel_rfl) (by kernel_rfl) (fun _ _ _ h => h) (Or.inl ⟨by kernel_rfl, fun w hSw => ?_⟩) hS0' ?_
  · have hc : w.cell? ⟨ga, 3, none⟩ = some (.int .i64 (p3 : Int)) := hSw.2.cell rfl
    clear hSw
    go_simp
  try simp only [Act.put, List.getElem_toArray, List.getElem_cons_succ, List.getElem_cons_zero, List.setIfInBounds_toArray, List.set_cons_zero, List.set_cons_succ]
  refine wpAnyH_take (i := 18) (v := .pointer (some ⟨gv, p3, none⟩)) rfl (by kernel_rfl) (by kernel_rfl) (by kernel_rfl) (fun _ _ _ h => h) (Or.inl ⟨by kernel_rfl, fun w hSw => ?_⟩) hS0' ?_
  · go_simp
  try simp only [Act.put, List.getElem_toArray, List.getElem_cons_succ, List.getElem_cons_zero, List.setIfInBounds_toArray, List.set_cons_zero, List.set_cons_succ]
  refine wpAnyH_take (i := 19) (v := .int .u32 (a3.toNat : Int)) rfl (by kernel_rfl) (by kernel_rfl) (by kernel_rfl) (fun _ _ _ h => h) (Or.inl ⟨by kernel_rfl, fun w hSw => ?_⟩) hS0' ?_
  · have hc : w.cell? ⟨gv, p3, none⟩ = some (.int .u32 (a3.toNat : Int)) := by rw [HW3.out]; exact blk_ws hSw.1 (k := p3) (by omega)
    clear hSw
    go_simp
  try simp only [Act.put, List.getElem_toArray, List.getElem_cons_succ, List.getElem_cons_zero, List.setIfInBounds_toArray, List.set_cons_zero, List.set_cons_succ]
  refine wpAnyH_take (i := 20) (v := .agg #[.int .u32 (a0.toNat : Int), .int .u32 (a1.toNat : Int), .int .u32 (a2.toNat : Int), .int .u32 (a3.toNat : Int)]) rfl (by kernel_rfl) (by kernel_rfl) (by kernel_rfl) (fun _ _ _ h => h) (Or.inl ⟨by kernel_rfl, fun w hSw => ?_⟩) hS0' ?_
  · go_simp
  try simp only [Act.put, List.getElem_toArray, List.getElem_cons_succ, List.getElem_cons_zero, List.setIfInBounds_toArray, List.set_cons_zero, List.set_cons_succ]
  refine wpAnyH_take (i := 21) (v := .int .u32 (x.toNat : Int)) rfl (by kernel_rfl) (by kernel_rfl) (by kernel_rfl) (fun _ _ _ h => h) (Or.inl ⟨by kernel_rfl, fun w hSw => ?_⟩) hS0' ?_
  · go_simp
  try simp only [Act.put, List.getElem_toArray, List.getElem_cons_succ, List.getElem_cons_zero, List.setIfInBounds_toArray, List.set_cons_zero, List.set_cons_succ]
  refine wpAnyH_take (i := 22) (v := .int .u32 (y.toNat : Int)) rfl (by kernel_rfl) (by kernel_rfl) (by kernel_rfl) (fun _ _ _ h => h) (Or.inl ⟨by kernel_rfl, fun w hSw => ?_⟩) hS0' ?_
  · go_simp
  try simp only [Act.put, List.getElem_toArray, List.getElem_cons_succ, List.getElem_cons_zero, List.setIfInBounds_toArray, List.set_cons_zero, List.set_cons_succ]
  refine wpAnyH_ready (rs := [23, 24]) (by kernel_rfl) (by simp) ?_
  refine AllReadyH.cons (by rfl) ?_ ?_
  · intro K hK
    go_simp
    rw [← HQC.out]
    refine (mix_c q x y _).mono ?_
    rintro e wB ⟨rfl, hb⟩
    refine hK.out _ _ (pbelow hb hS0') (fun hS1 => ?_)
    clear hK K
    have HBB := Lib.hid (HBA.out.trans (Only.of_below hb gv))
    refine wpAnyH_ready (rs := [24]) (by kernel_rfl) (by simp) ?_
    refine AllReadyH.cons (by rfl) ?_ AllReadyH.nil
    intro K hK
    go_simp
    have hal := palloc (o := #[.int .u32 0, .int .u32 0, .int .u32 0, .int .u32 0]) (t := 182) hS1 HBB.out
    generalize wB.heap.size = g7 at hal ⊢
    generalize (World.alloc _ _) = wn at hal ⊢
    obtain ⟨hSB, hz, hb2, hv7, ha7, h07⟩ := hal
    have HZ := Lib.hid hz
    have HBB := Lib.hid hb2
    refine hK.out _ _ hSB (fun hS2 => ?_)
    clear hK K
    refine wpAnyH_ready (rs := [25]) (by kernel_rfl) (by simp) ?_
    refine all_readyH_yes (by rfl) (by kernel_rfl) ?_ AllReadyH.nil
    intro K hK
    with_reducible refine wp_store_blk 182 (.tmp 7) (.tmp 33) ?_ g7 182 _ (mix q x y).cells ?_ ?_ HZ.out ?_ (Quad.info _) (Quad.one _) ?_
    · kernel_rfl
    · kernel_rfl
    · kernel_rfl
    · rfl
    intro w6 hB6 hO6 hz6
    try simp only [Act.put, List.getElem_toArray, List.getElem_cons_succ, List.getElem_cons_zero, List.setIfInBounds_toArray, List.set_cons_zero, List.set_cons_succ]
    have hS6 := psides hSB hO6 hv7 ha7
    have HBF := Lib.hid (HBB.out.trans2 hO6 h07)
    have HQ := Lib.hid hB6
    clear hO6 hz6 hB6
    refine hK.out _ _ hS6 (fun hS7 => ?_)
    clear hK K
    refine wpAnyH_done (by kernel_rfl) ?_ _
    go_wp2_with fail
    obtain ⟨r, hr⟩ : ∃ r, r = mix q x y := ⟨_, rfl⟩
    rw [← hr] at HQ
    have HRR := Lib.hid hr
    clear hr
    have HX := Lib.hid hS7.1
    have HA6 := Lib.hid hS7.2
    have hl0 : V.length = 16 := hv
    have HVL := Lib.hid hv
    clear hS0' hS1 hSB hS2 hS6 hS7 hl0
    refine wp_loop_rounds 5 ?_
    rw [rounds_succ]
    have t0 := (HA6.out.cell (i := 0) (v := .int .i64 (p0 : Int)) rfl)
    have u0 := (HQ.out.cell (i := 0) (v := .int .u32 (r.a.toNat : Int)) rfl)
    have v0 := blk_ws HX.out (k := p0) (by simp [HVL.out]; omega)
    have f0 := HX.out.frozen p0
    have HX := Lib.hid (blk_ws_set HX.out p0 r.a)
    have HBF := Lib.hid (HBF.out.setCell (p := ⟨gv, p0, none⟩) (.inl rfl) (.int .u32 (r.a.toNat : Int)))
    have HA6 := Lib.hid (HA6.out.far (p := ⟨gv, p0, none⟩) hne.symm (.int .u32 (r.a.toNat : Int)))
    have HQ := Lib.hid (HQ.out.far (p := ⟨gv, p0, none⟩) hv7.symm (.int .u32 (r.a.toNat : Int)))
    go_wp2_with fail
    generalize (World.setCell _ _ _) = wx at HX HBF HA6 HQ ⊢
    clear t0 u0 v0 f0
    rw [rounds_succ]
    have t1 := (HA6.out.cell (i := 1) (v := .int .i64 (p1 : Int)) rfl)
    have u1 := (HQ.out.cell (i := 1) (v := .int .u32 (r.b.toNat : Int)) rfl)
    have v1 := blk_ws HX.out (k := p1) (by simp [HVL.out]; omega)
    have f1 := HX.out.frozen p1
    have HX := Lib.hid (blk_ws_set HX.out p1 r.b)
    have HBF := Lib.hid (HBF.out.setCell (p := ⟨gv, p1, none⟩) (.inl rfl) (.int .u32 (r.b.toNat : Int)))
    have HA6 := Lib.hid (HA6.out.far (p := ⟨gv, p1, none⟩) hne.symm (.int .u32 (r.b.toNat : Int)))
    have HQ := Lib.hid (HQ.out.far (p := ⟨gv, p1, none⟩) hv7.symm (.int .u32 (r.b.toNat : Int)))
    go_wp2_with fail
    generalize (World.setCell _ _ _) = wx at HX HBF HA6 HQ ⊢
    clear t1 u1 v1 f1
    rw [rounds_succ]
    have t2 := (HA6.out.cell (i := 2) (v := .int .i64 (p2 : Int)) rfl)
    have u2 := (HQ.out.cell (i := 2) (v := .int .u32 (r.c.toNat : Int)) rfl)
    have v2 := blk_ws HX.out (k := p2) (by simp [HVL.out]; omega)
    have f2 := HX.out.frozen p2
    have HX := Lib.hid (blk_ws_set HX.out p2 r.c)
    have HBF := Lib.hid (HBF.out.setCell (p := ⟨gv, p2, none⟩) (.inl rfl) (.int .u32 (r.c.toNat : Int)))
    have HA6 := Lib.hid (HA6.out.far (p := ⟨gv, p2, none⟩) hne.symm (.int .u32 (r.c.toNat : Int)))
    have HQ := Lib.hid (HQ.out.far (p := ⟨gv, p2, none⟩) hv7.symm (.int .u32 (r.c.toNat : Int)))
    go_wp2_with fail
    generalize (World.setCell _ _ _) = wx at HX HBF HA6 HQ ⊢
    clear t2 u2 v2 f2
    rw [rounds_succ]
    have t3 := (HA6.out.cell (i := 3) (v := .int .i64 (p3 : Int)) rfl)
    have u3 := (HQ.out.cell (i := 3) (v := .int .u32 (r.d.toNat : Int)) rfl)
    have v3 := blk_ws HX.out (k := p3) (by simp [HVL.out]; omega)
    have f3 := HX.out.frozen p3
    have HX := Lib.hid (blk_ws_set HX.out p3 r.d)
    have HBF := Lib.hid (HBF.out.setCell (p := ⟨gv, p3, none⟩) (.inl rfl) (.int .u32 (r.d.toNat : Int)))
    have HA6 := Lib.hid (HA6.out.far (p := ⟨gv, p3, none⟩) hne.symm (.int .u32 (r.d.toNat : Int)))
    have HQ := Lib.hid (HQ.out.far (p := ⟨gv, p3, none⟩) hv7.symm (.int .u32 (r.d.toNat : Int)))
    go_wp2_with fail
    generalize (World.setCell _ _ _) = wx at HX HBF HA6 HQ ⊢
    clear t3 u3 v3 f3
    rw [rounds_succ]
    go_wp2_with fail
    go_end0
    refine ⟨rfl, ?_, HBF.out⟩
    unfold mixAt
    rw [← HQQ.out, ← HRR.out]
    exact HX.out
  refine AllReadyH.cons (by rfl) ?_ AllReadyH.nil
  intro K hK
  go_simp
  have hal := palloc (o := #[.int .u32 0, .int .u32 0, .int .u32 0, .int .u32 0]) (t := 182) hS0' HBA.out
  generalize wA.heap.size = g7 at hal ⊢
  generalize (World.alloc _ _) = wn at hal ⊢
  obtain ⟨hS1, hz, hb2, hv7, ha7, h07⟩ := hal
  have HZ0 := Lib.hid hz
  have HBN := Lib.hid hb2
  refine hK.out _ _ hS1 (fun hS1' => ?_)
  clear hK K
  refine wpAnyH_ready (rs := [23]) (by kernel_rfl) (by simp) ?_
  refine AllReadyH.cons (by rfl) ?_ AllReadyH.nil
  intro K hK
  go_simp
  rw [← HQC.out]
  refine (mix_c q x y _).mono ?_
  rintro e wB ⟨rfl, hb⟩
  have hSB := pbelow hb hS1
  have HZ := Lib.hid (HZ0.out.below hb HZ0.out.lt)
  have HBB := Lib.hid (HBN.out.trans (Only.of_below hb gv))
  refine hK.out _ _ hSB (fun hS2 => ?_)
  clear hK K
  refine wpAnyH_ready (rs := [25]) (by kernel_rfl) (by simp) ?_
  refine all_readyH_yes (by rfl) (by kernel_rfl) ?_ AllReadyH.nil
  intro K hK
  with_reducible refine wp_store_blk 182 (.tmp 7) (.tmp 33) ?_ g7 182 _ (mix q x y).cells ?_ ?_ HZ.out ?_ (Quad.info _) (Quad.one _) ?_
  · kernel_rfl
  · kernel_rfl
  · kernel_rfl
  · rfl
  intro w6 hB6 hO6 hz6
  try simp only [Act.put, List.getElem_toArray, List.getElem_cons_succ, List.getElem_cons_zero, List.setIfInBounds_toArray, List.set_cons_zero, List.set_cons_succ]
  have hS6 := psides hSB hO6 hv7 ha7
  have HBF := Lib.hid (HBB.out.trans2 hO6 h07)
  have HQ := Lib.hid hB6
  clear hO6 hz6 hB6
  refine hK.out _ _ hS6 (fun hS7 => ?_)
  clear hK K
  refine wpAnyH_done (by kernel_rfl) ?_ _
  go_wp2_with fail
  obtain ⟨r, hr⟩ : ∃ r, r = mix q x y := ⟨_, rfl⟩
  rw [← hr] at HQ
  have HRR := Lib.hid hr
  clear hr
  have HX := Lib.hid hS7.1
  have HA6 := Lib.hid hS7.2
  have hl0 : V.length = 16 := hv
  have HVL := Lib.hid hv
  clear hS0' hS1 hSB hS2 hS6 hS7 hl0
  refine wp_loop_rounds 5 ?_
  rw [rounds_succ]
  have t0 := (HA6.out.cell (i := 0) (v := .int .i64 (p0 : Int)) rfl)
  have u0 := (HQ.out.cell (i := 0) (v := .int .u32 (r.a.toNat : Int)) rfl)
  have v0 := blk_ws HX.out (k := p0) (by simp [HVL.out]; omega)
  have f0 := HX.out.frozen p0
  have HX := Lib.hid (blk_ws_set HX.out p0 r.a)
  have HBF := Lib.hid (HBF.out.setCell (p := ⟨gv, p0, none⟩) (.inl rfl) (.int .u32 (r.a.toNat : Int)))
  have HA6 := Lib.hid (HA6.out.far (p := ⟨gv, p0, none⟩) hne.symm (.int .u32 (r.a.toNat : Int)))
  have HQ := Lib.hid (HQ.out.far (p := ⟨gv, p0, none⟩) hv7.symm (.int .u32 (r.a.toNat : Int)))
  go_wp2_with fail
  generalize (World.setCell _ _ _) = wx at HX HBF HA6 HQ ⊢
  clear t0 u0 v0 f0
  rw [rounds_succ]
  have t1 := (HA6.out.cell (i := 1) (v := .int .i64 (p1 : Int)) rfl)
  have u1 := (HQ.out.cell (i := 1) (v := .int .u32 (r.b.toNat : Int)) rfl)
  have v1 := blk_ws HX.out (k := p1) (by simp [HVL.out]; omega)
  have f1 := HX.out.frozen p1
  have HX := Lib.hid (blk_ws_set HX.out p1 r.b)
  have HBF := Lib.hid (HBF.out.setCell (p := ⟨gv, p1, none⟩) (.inl rfl) (.int .u32 (r.b.toNat : Int)))
  have HA6 := Lib.hid (HA6.out.far (p := ⟨gv, p1, none⟩) hne.symm (.int .u32 (r.b.toNat : Int)))
  have HQ := Lib.hid (HQ.out.far (p := ⟨gv, p1, none⟩) hv7.symm (.int .u32 (r.b.toNat : Int)))
  go_wp2_with fail
  generalize (World.setCell _ _ _) = wx at HX HBF HA6 HQ ⊢
  clear t1 u1 v1 f1
  rw [rounds_succ]
  have t2 := (HA6.out.cell (i := 2) (v := .int .i64 (p2 : Int)) rfl)
  have u2 := (HQ.out.cell (i := 2) (v := .int .u32 (r.c.toNat : Int)) rfl)
  have v2 := blk_ws HX.out (k := p2) (by simp [HVL.out]; omega)
  have f2 := HX.out.frozen p2
  have HX := Lib.hid (blk_ws_set HX.out p2 r.c)
  have HBF := Lib.hid (HBF.out.setCell (p := ⟨gv, p2, none⟩) (.inl rfl) (.int .u32 (r.c.toNat : Int)))
  have HA6 := Lib.hid (HA6.out.far (p := ⟨gv, p2, none⟩) hne.symm (.int .u32 (r.c.toNat : Int)))
  have HQ := Lib.hid (HQ.out.far (p := ⟨gv, p2, none⟩) hv7.symm (.int .u32 (r.c.toNat : Int)))
  go_wp2_with fail
  generalize (World.setCell _ _ _) = wx at HX HBF HA6 HQ ⊢
  clear t2 u2 v2 f2
  rw [rounds_succ]
  have t3 := (HA6.out.cell (i := 3) (v := .int .i64 (p3 : Int)) rfl)
  have u3 := (HQ.out.cell (i := 3) (v := .int .u32 (r.d.toNat : Int)) rfl)
  have v3 := blk_ws HX.out (k := p3) (by simp [HVL.out]; omega)
  have f3 := HX.out.frozen p3
  have HX := Lib.hid (blk_ws_set HX.out p3 r.d)
  have HBF := Lib.hid (HBF.out.setCell (p := ⟨gv, p3, none⟩) (.inl rfl) (.int .u32 (r.d.toNat : Int)))
  have HA6 := Lib.hid (HA6.out.far (p := ⟨gv, p3, none⟩) hne.symm (.int .u32 (r.d.toNat : Int)))
  have HQ := Lib.hid (HQ.out.far (p := ⟨gv, p3, none⟩) hv7.symm (.int .u32 (r.d.toNat : Int)))
  go_wp2_with fail
  generalize (World.setCell _ _ _) = wx at HX HBF HA6 HQ ⊢
  clear t3 u3 v3 f3
  rw [rounds_succ]
  go_wp2_with fail
  go_end0
  refine ⟨rfl, ?_, HBF.out⟩
  unfold mixAt
  rw [← HQQ.out, ← HRR.out]
  exact HX.out
end Go.Proofs.YtomnjhhpeglcnaaGreat

namespace Go.Proofs.YtomnjhhpeglcnaaGreat
open Go.RowKit

def iv : List Wo := [0x6a09e667#32, 0xbb67ae85#32, 0x3c6ef372#32, 0xa54ff53a#32, 0x510e527f#32, 0x9b05688c#32, 0x1f83d9ab#32, 0x5be0cd19#32]
theorem info27 : (Tryz.prog.info? 161).map (·.size) = some 8 := by kernel_rfl
theorem iv_cells : ws iv = #[.int .u32 1779033703, .int .u32 3144134277, .int .u32 1013904242, .int .u32 2773480762, .int .u32 1359893119, .int .u32 2600822924, .int .u32 528734635, .int .u32 1541459225] := by kernel_rfl
set_option maxHeartbeats 800000 in
theorem first_c (w : World) : Calls Tryz.prog 98 #[] w fun e w' => e = .returned (.agg (ws iv)) ∧ Below w.heap.size w w' := by
  go_enter Tryz.func98, Tryz.ntmps98
  go_wp2_with (refine wpl_store_blk rfl 161 _ _ rfl w.heap.size 161 _ _ rfl rfl (Blk.new w 161 _) rfl (by kernel_rfl) (by kernel_rfl) ?_; intro w6 hB6 hO6 hz6)
  refine bodyPost_ret (results_cell_row rfl _ _ w.heap.size 161 _ (0, 0) _ rfl hB6 Tryz.underlying161 rfl (by kernel_rfl)) rfl ⟨?_, ((Below.refl w.heap.size w).alloc (Nat.le_refl _) _).trans (hO6.below (B := w.heap.size) (by simp) (Nat.le_refl _))⟩
  rw [iv_cells]
set_option maxHeartbeats 800000 in
theorem rfirst_c (w : World) : Calls Tryz.prog 105 #[] w fun e w' => e = .returned (.agg (ws iv)) ∧ Below w.heap.size w w' := by
  go_enter Tryz.func105, Tryz.ntmps105
  go_wp2_with (refine wpl_store_blk rfl 161 _ _ rfl w.heap.size 161 _ _ rfl rfl (Blk.new w 161 _) rfl (by kernel_rfl) (by kernel_rfl) ?_; intro w6 hB6 hO6 hz6)
  refine bodyPost_ret (results_cell_row rfl _ _ w.heap.size 161 _ (0, 0) _ rfl hB6 Tryz.underlying161 rfl (by kernel_rfl)) rfl ⟨?_, ((Below.refl w.heap.size w).alloc (Nat.le_refl _) _).trans (hO6.below (B := w.heap.size) (by simp) (Nat.le_refl _))⟩
  rw [iv_cells]
end Go.Proofs.YtomnjhhpeglcnaaGreat

namespace Go.Proofs.YtomnjhhpeglcnaaGreat
open Go.RowKit

def ordN : List (List Nat) := [
  [0, 1, 2, 3, 4, 5, 6, 7, 8, 9, 10, 11, 12, 13, 14, 15],
  [14, 10, 4, 8, 9, 15, 13, 6, 1, 12, 0, 2, 11, 7, 5, 3],
  [11, 8, 12, 0, 5, 2, 15, 13, 10, 14, 3, 6, 7, 1, 9, 4],
  [7, 9, 3, 1, 13, 12, 11, 14, 2, 6, 5, 10, 4, 0, 15, 8],
  [9, 0, 5, 7, 2, 4, 10, 15, 14, 1, 11, 12, 6, 8, 3, 13],
  [2, 12, 6, 10, 0, 11, 8, 3, 4, 13, 7, 5, 15, 14, 1, 9],
  [12, 5, 1, 15, 14, 13, 4, 10, 0, 7, 6, 3, 9, 2, 8, 11],
  [13, 11, 7, 14, 12, 1, 3, 9, 5, 0, 15, 4, 8, 6, 2, 10],
  [6, 15, 14, 9, 11, 3, 0, 8, 12, 2, 13, 7, 1, 4, 10, 5],
  [10, 2, 8, 4, 7, 6, 1, 5, 15, 11, 9, 14, 3, 12, 13, 0]]
/-- Numbers as cells. -/
def ints (l : List Nat) : Array Value := (l.map fun x : Nat => Value.int .i64 (x : Int)).toArray
theorem zero69 (w : World) : (zeroValue 188).run Tryz.prog w = .ok (.agg (ints (List.replicate 160 0))) w := by kernel_rfl
/-- An operation that yields, whatever it is. -/
theorem wpl_yields {P : Program} {ops : Array Oper} {rest : List Oper} {o : Oper} {a : Act} {w : World} {Q : Exit → Act → World → Prop} {v : Value} (xs : Array (Nat × Operand)) (_hop : o.op = .build 188 xs) (hgd : o.guard = none)
    (hr : (execOp a.eval o).run P w = .ok (.value v) w) (h : wpList P ops Q rest (a.put o.dst v) w) : wpList P ops Q (o :: rest) a w :=
  wpList_plain hgd fun K hK => by unfold Oper.wp; rw [hr]; exact hK _ _ h
set_option maxRecDepth 100000 in
set_option maxHeartbeats 1000000 in
theorem orders_c (w : World) : Calls Tryz.prog 116 #[] w fun e w' => e = .returned (.agg (ints ordN.flatten)) ∧ Below w.heap.size w w' := by
  have hz := zero69
  obtain ⟨Z, hZ⟩ : ∃ Z, Z = ints (List.replicate 160 0) := ⟨_, rfl⟩
  rw [← hZ] at hz
  have HZ : Hid (Z.size = 160) := Lib.hid (by rw [hZ]; kernel_rfl)
  clear hZ
  go_enter Tryz.func116, Tryz.ntmps116
  go_wp2_with (first | (refine wpl_yields (v := .agg (ints ordN.flatten)) _ rfl rfl (by kernel_rfl) ?_) | refine wpl_store_blk rfl 188 _ _ rfl w.heap.size 188 Z _ rfl rfl (Blk.new w 188 Z) ?c1 ?c2 ?c3 ?c4)
  case c1 => rw [HZ.out]; kernel_rfl
  case c2 => kernel_rfl
  case c3 => kernel_rfl
  case c4 =>
    intro w6 hB6 hO6 hz6
    go_wp2_with fail
    refine bodyPost_ret (results_cell_row rfl _ _ w.heap.size 188 _ (0, 0) _ rfl hB6 Tryz.underlying188 rfl (by kernel_rfl)) rfl ⟨?_, ((Below.refl w.heap.size w).alloc (Nat.le_refl _) _).trans (hO6.below (B := w.heap.size) (by simp) (Nat.le_refl _))⟩
    kernel_rfl
end Go.Proofs.YtomnjhhpeglcnaaGreat

namespace Go.Proofs.YtomnjhhpeglcnaaGreat
open Go.RowKit

/-- Press, plain. -/
def msgW (b : List By) (i : Nat) : Wo := BitVec.ofNat 32 (wordN (b.getD (4 * i) 0#8) (b.getD (4 * i + 1) 0#8) (b.getD (4 * i + 2) 0#8) (b.getD (4 * i + 3) 0#8))
theorem msgW_toNat (b : List By) (i : Nat) : (msgW b i).toNat = wordN (b.getD (4 * i) 0#8) (b.getD (4 * i + 1) 0#8) (b.getD (4 * i + 2) 0#8) (b.getD (4 * i + 3) 0#8) := by
  unfold msgW; rw [BitVec.toNat_ofNat, Nat.mod_eq_of_lt (wordN_lt _ _ _ _)]
def mfill (b : List By) : Nat → List Wo
  | 0 => List.replicate 16 0#32
  | k + 1 => (mfill b k).set k (msgW b k)
theorem mfill_len (b : List By) (k : Nat) : (mfill b k).length = 16 := by
  induction k with
  | zero => simp [mfill]
  | succ k ih => rw [mfill, List.length_set, ih]
def vnot (V : List Wo) (last : Bool) : List Wo := if last then V.set 14 (~~~ V.getD 14 0#32) else V
def vx (V : List Wo) (k : Nat) (x : Wo) : List Wo := V.set k (V.getD k 0#32 ^^^ x)
def v0 (h : List Wo) (n : Nat) (last : Bool) : List Wo := vnot (vx (vx (h ++ iv) 12 (BitVec.ofNat 32 n)) 13 (BitVec.ofNat 32 (n / 4294967296))) last
def roundAt (M : List Wo) (o : List Nat) (V : List Wo) (k : Nat) : List Wo :=
  mixAt V (M.getD (o.getD (2 * k) 0) 0#32) (M.getD (o.getD (2 * k + 1) 0) 0#32) (k % 4) (4 + (k % 4 + k / 4) % 4) (8 + (k % 4 + 2 * (k / 4)) % 4) (12 + (k % 4 + 3 * (k / 4)) % 4)
def turnK (M : List Wo) (o : List Nat) (V : List Wo) : Nat → List Wo
  | 0 => V
  | k + 1 => roundAt M o (turnK M o V k) k
def turns (M : List Wo) (V : List Wo) : Nat → List Wo
  | 0 => V
  | n + 1 => turnK M (ordN.getD n []) (turns M V n) 8
def fin (h V : List Wo) : Nat → List Wo
  | 0 => h
  | k + 1 => (fin h V k).set k ((fin h V k).getD k 0#32 ^^^ (V.getD k 0#32 ^^^ V.getD (k + 8) 0#32))
/-- What is pressed out of a state, a block, a count, and whether it is the last one. -/
def press (h : List Wo) (b : List By) (n : Nat) (last : Bool) : List Wo := fin h (turns (mfill b 16) (v0 h n last) 10) 8
theorem mixAt_len (V : List Wo) (x y : Wo) (p0 p1 p2 p3 : Nat) : (mixAt V x y p0 p1 p2 p3).length = V.length := by simp [mixAt]
theorem turnK_len (M : List Wo) (o : List Nat) (V : List Wo) (k : Nat) : (turnK M o V k).length = V.length := by
  induction k with
  | zero => rfl
  | succ k ih => rw [turnK, roundAt, mixAt_len, ih]
theorem turns_len (M V : List Wo) (n : Nat) : (turns M V n).length = V.length := by
  induction n with
  | zero => rfl
  | succ n ih => rw [turns, turnK_len, ih]
theorem vx_len (V : List Wo) (k : Nat) (x : Wo) : (vx V k x).length = V.length := by simp [vx]
theorem vnot_len (V : List Wo) (l : Bool) : (vnot V l).length = V.length := by cases l <;> simp [vnot]
theorem v0_len (h : List Wo) (n : Nat) (l : Bool) (hh : h.length = 8) : (v0 h n l).length = 16 := by
  rw [v0, vnot_len, vx_len, vx_len, List.length_append, hh]; rfl
theorem fin_len (h V : List Wo) (k : Nat) : (fin h V k).length = h.length := by
  induction k with
  | zero => rfl
  | succ k ih => rw [fin, List.length_set, ih]
theorem press_len (h : List Wo) (b : List By) (n : Nat) (l : Bool) : (press h b n l).length = h.length := fin_len _ _ _

/-- Bytes as cells. -/
def bya (l : List By) : Array Value := (l.map fun x => Value.int .u8 (x.toNat : Int)).toArray
theorem bya_size (l : List By) : (bya l).size = l.length := by simp [bya]
theorem bya_get {l : List By} {k : Nat} (h : k < l.length) : (bya l)[k]? = some (.int .u8 ((l.getD k 0#8).toNat : Int)) := by
  simp [bya, h]
theorem bya_one (l : List By) : (bya l).all (·.oneCell') = true := by
  simp [bya, Value.oneCell']
theorem blk_bya {w : World} {g : Nat} {t : TypeId} {l : List By} {k : Nat} (h : Blk w g t (bya l)) (hk : k < l.length) : w.cell? ⟨g, k, none⟩ = some (.int .u8 ((l.getD k 0#8).toNat : Int)) := h.cell (bya_get hk)

/-- Cells out of which are copied into a block: the block is known whole behind it. -/
theorem setRow_blk {w : World} {g : Nat} {t : TypeId} {cur : Array Value} (h : Blk w g t cur) (cs : Array Value) : Blk (w.setRow g cs) g t cs := setRow_heap w g _ _ t _ h
theorem setRow_only (w : World) (g : Nat) (cs : Array Value) : Only g w (w.setRow g cs) :=
  ⟨rfl, rfl, rfl, by simp [World.setRow], fun i _ hn => setRow_other w g i cs (fun e => hn (by rw [e]))⟩
theorem setRow_size (w : World) (g : Nat) (cs : Array Value) : (w.setRow g cs).heap.size = w.heap.size := by simp [World.setRow]
theorem wpl_copy_blk {P : Program} {w : World} {ops : Array Oper} {rest : List Oper} {o : Oper} {a : Act} {Q : Exit → Act → World → Prop} (hgd : o.guard = none) (d s : Operand) (dT sT : TypeId)
    (ho : o.op = .call { callee := .builtin .copy, args := #[d, s], argTypes := #[dT, sT] }) (elem : TypeId) (hu : P.underlying dT = some (.slice elem)) (hsz : (P.info? elem).map (·.size) = some 1)
    (g off dLen dCap : Nat) (ad : Addr) (sLen sCap : Nat) (hd : a.eval d = .slice (some ⟨g, off, none⟩) dLen dCap) (hs : a.eval s = .slice (some ad) sLen sCap)
    (cur : List Value) (t : TypeId) (hg : Blk w g t cur.toArray) (cs : List Value) (hn : cs.length = Nat.min sLen dLen)
    (hsrc : ∀ j v, cs[j]? = some v → w.cell? (ad.add j) = some v) (hfit : off + cs.length ≤ cur.length) (h1 : ∀ v ∈ cs, v.oneCell' = true)
    (h : ∀ w', Blk w' g t (cur.take off ++ (cs ++ cur.drop (off + cs.length))).toArray → Only g w w' → w'.heap.size = w.heap.size → wpList P ops Q rest (a.put o.dst (goInt cs.length)) w') : wpList P ops Q (o :: rest) a w := by
  refine wpList_copy_own hgd d s dT sT ho elem hu hsz g off dLen dCap ad sLen sCap hd hs cur.toArray t hg cs hn hsrc (by simpa using hfit) h1 ?_
  exact h _ (setRow_blk hg _) (setRow_only _ _ _) (setRow_size _ _ _)
theorem index69 (n : Nat) (h : n < 10) (w : World) : (Instr.index 188 (.agg (ints ordN.flatten)) (.int .i64 (n : Int))).run Tryz.prog w = .ok (.agg (ints (ordN.getD n []))) w := by
  match n, h with
  | 0, _ => (show _ = _; kernel_rfl)
  | 1, _ => (show _ = _; kernel_rfl)
  | 2, _ => (show _ = _; kernel_rfl)
  | 3, _ => (show _ = _; kernel_rfl)
  | 4, _ => (show _ = _; kernel_rfl)
  | 5, _ => (show _ = _; kernel_rfl)
  | 6, _ => (show _ = _; kernel_rfl)
  | 7, _ => (show _ = _; kernel_rfl)
  | 8, _ => (show _ = _; kernel_rfl)
  | 9, _ => (show _ = _; kernel_rfl)
theorem ordN_len (n : Nat) (h : n < 10) : (ordN.getD n []).length = 16 := by
  match n, h with
  | 0, _ => rfl
  | 1, _ => rfl
  | 2, _ => rfl
  | 3, _ => rfl
  | 4, _ => rfl
  | 5, _ => rfl
  | 6, _ => rfl
  | 7, _ => rfl
  | 8, _ => rfl
  | 9, _ => rfl
theorem ordN_lt (n k : Nat) : (ordN.getD n []).getD k 0 < 16 := by
  have h : ∀ l ∈ ordN, ∀ x ∈ l, x < 16 := by decide
  rw [List.getD_eq_getElem?_getD, List.getD_eq_getElem?_getD]
  cases hn : ordN[n]? with
  | none => simp
  | some l =>
    cases hk : l[k]? with
    | none => simp [hk]
    | some x => simpa [hk] using h l (List.mem_of_getElem? hn) x (List.mem_of_getElem? hk)
theorem ints_get {l : List Nat} {k : Nat} (h : k < l.length) : (ints l)[k]? = some (.int .i64 ((l.getD k 0 : Nat) : Int)) := by
  simp [ints, h]
theorem blk_ints {w : World} {g : Nat} {t : TypeId} {l : List Nat} {k : Nat} (h : Blk w g t (ints l)) (hk : k < l.length) : w.cell? ⟨g, k, none⟩ = some (.int .i64 ((l.getD k 0 : Nat) : Int)) := h.cell (ints_get hk)
theorem ints_one (l : List Nat) : (ints l).all (·.oneCell') = true := by simp [ints, Value.oneCell']
theorem ints_size (l : List Nat) : (ints l).size = l.length := by simp [ints]
end Go.Proofs.YtomnjhhpeglcnaaGreat

namespace Go.Proofs.YtomnjhhpeglcnaaGreat
open Go.RowKit
set_option linter.unusedSimpArgs false
set_option linter.unusedVariables false

theorem info68 : (Tryz.prog.info? 178).map (·.size) = some 16 := by kernel_rfl
set_option maxHeartbeats 4000000 in
theorem order_c (n : Nat) (w : World) (hn : n < 10) :
    Calls Tryz.prog 110 #[.int .i64 (n : Int)] w fun e w' => e = .returned (.agg (ints (ordN.getD n []))) ∧ Below w.heap.size w w' := by
  have h10 : n = 0 ∨ n = 1 ∨ n = 2 ∨ n = 3 ∨ n = 4 ∨ n = 5 ∨ n = 6 ∨ n = 7 ∨ n = 8 ∨ n = 9 := by omega
  clear hn
  rcases h10 with rfl | rfl | rfl | rfl | rfl | rfl | rfl | rfl | rfl | rfl
  all_goals
    go_enter Tryz.func110, Tryz.ntmps110
    go_wp2_with (refine wpl_store_blk rfl 178 _ _ rfl w.heap.size 178 _ _ rfl rfl (Blk.new w 178 _) rfl (by kernel_rfl) (by kernel_rfl) ?_; intro w6 hB6 hO6 hz6)
    refine bodyPost_ret (results_cell_row rfl _ _ w.heap.size 178 _ (0, 0) _ rfl hB6 Tryz.underlying178 rfl (by kernel_rfl)) rfl ⟨?_, ((Below.refl w.heap.size w).alloc (Nat.le_refl _) _).trans (hO6.below (B := w.heap.size) (by simp) (Nat.le_refl _))⟩
    kernel_rfl
/-- The places of a mixing, as the reference has them. -/
def placesN (k : Nat) : List Nat := [k % 4, 4 + (k % 4 + k / 4) % 4, 8 + (k % 4 + 2 * (k / 4)) % 4, 12 + (k % 4 + 3 * (k / 4)) % 4]
set_option maxHeartbeats 4000000 in
theorem places_c (n : Nat) (w : World) (hn : n < 8) :
    Calls Tryz.prog 111 #[.int .i64 (n : Int)] w fun e w' => e = .returned (.agg (ints (placesN n))) ∧ Below w.heap.size w w' := by
  have h10 : n = 0 ∨ n = 1 ∨ n = 2 ∨ n = 3 ∨ n = 4 ∨ n = 5 ∨ n = 6 ∨ n = 7 := by omega
  clear hn
  rcases h10 with rfl | rfl | rfl | rfl | rfl | rfl | rfl | rfl
  all_goals
    go_enter Tryz.func111, Tryz.ntmps111
    go_wp2_with (refine wpl_store_blk rfl 180 _ _ rfl w.heap.size 180 _ _ rfl rfl (Blk.new w 180 _) rfl (by kernel_rfl) (by kernel_rfl) ?_; intro w6 hB6 hO6 hz6)
    refine bodyPost_ret (results_cell_row rfl _ _ w.heap.size 180 _ (0, 0) _ rfl hB6 Tryz.underlying180 rfl (by kernel_rfl)) rfl ⟨?_, ((Below.refl w.heap.size w).alloc (Nat.le_refl _) _).trans (hO6.below (B := w.heap.size) (by simp) (Nat.le_refl _))⟩
    kernel_rfl
end Go.Proofs.YtomnjhhpeglcnaaGreat
