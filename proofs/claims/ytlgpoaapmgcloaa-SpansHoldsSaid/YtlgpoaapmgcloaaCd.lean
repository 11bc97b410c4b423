/- Contracts: Read. -/
import Derived.Test.YtlgpoaapmgcloaaCc
namespace Go.Proofs.Ytlgpoaapmgcloaa
open Go.RowKit
set_option linter.unusedSimpArgs false
set_option linter.unusedVariables false
set_option maxRecDepth 100000

set_option maxHeartbeats 8000000 in
theorem sread_c (a : Option Addr) (n c : Nat) (l : List By) (w : World) (h : Bys w a n l) (hn : n ≤ 1000000) :
    Calls Try.prog 5 #[.slice a n c] w fun e w' => Below w.heap.size w w' ∧
      ((∃ L q a' c', readL l = some L ∧ e = .returned (.tuple #[.pointer (some ⟨q, 0, none⟩), .int .i64 0]) ∧ w.heap.size ≤ q ∧ IsSet w' q L a' c') ∨ (readL l = none ∧ e = .returned (.tuple #[.pointer none, .int .i64 270]))) := by
  have hmf : ∀ (fn : Fn) (first cap : Array Value) (w : World), (Instr.makeFunc fn first cap).run Try.prog w = .ok (.func fn first cap) w := fun _ _ _ _ => rfl
  have HEN := Lib.hid (enters_f Try.func20 (by kernel_rfl) rfl)
  have hln := h.1
  have hb0 := ((Below.refl w.heap.size w).alloc (Nat.le_refl _) (.cells #[.pointer none] 25)).alloc (by simp) (.cells #[.int .i64 0] 26)
  have HO0 : Hid (Blk ((w.alloc (.cells #[.pointer none] 25)).alloc (.cells #[.int .i64 0] 26)) w.heap.size 25 #[.pointer none] ∧ Blk ((w.alloc (.cells #[.pointer none] 25)).alloc (.cells #[.int .i64 0] 26)) (w.heap.size + 1) 26 #[.int .i64 0] ∧ Below w.heap.size w ((w.alloc (.cells #[.pointer none] 25)).alloc (.cells #[.int .i64 0] 26)) ∧ Bys ((w.alloc (.cells #[.pointer none] 25)).alloc (.cells #[.int .i64 0] 26)) a n l ∧ ((w.alloc (.cells #[.pointer none] 25)).alloc (.cells #[.int .i64 0] 26)).heap.size = w.heap.size + 2) := Lib.hid ⟨(Blk.new _ _ _).alloc _, Blk.new2 _ _ _ _, hb0, h.below hb0, by simp⟩
  clear h hb0
  go_enter_defers Try.func5, Try.ntmps5
  go_wp2_with fail
  change Calls Try.prog 19 _ ((w.alloc (.cells #[.pointer none] 25)).alloc (.cells #[.int .i64 0] 26)) _
  generalize ((w.alloc (.cells #[.pointer none] 25)).alloc (.cells #[.int .i64 0] 26)) = w1 at HO0 ⊢
  obtain ⟨h1, h2, h3, h4, h5⟩ := HO0.out
  refine (read_c a n c l w1 h4 (by omega)).mono ?_
  rintro e w2 ⟨rp, rfl, hrp, hi2, hb2⟩
  have hz2 := hb2.size
  have hl2 := hi2.lt
  have g1 := h1.below hb2 h1.lt
  have g2 := h2.below hb2 h2.lt
  have g3 := h3.trans (hb2.mono h3.size)
  clear h1 h2 h3 h4 HO0
  have hb3 := (Below.refl w2.heap.size w2).alloc (Nat.le_refl _) (.cells #[.pointer (some ⟨rp, 0, none⟩)] 44)
  have hb4 := hb3.alloc hb3.size (.cells #[.slice none 0 0, .bool true] 51)
  have hx3 := (Blk.new w2 44 #[.pointer (some ⟨rp, 0, none⟩)]).alloc (.cells #[.slice none 0 0, .bool true] 51)
  have hx4 := Blk.new2 w2 (.cells #[.pointer (some ⟨rp, 0, none⟩)] 44) 51 #[.slice none 0 0, .bool true]
  have q1 := g1.below hb4 g1.lt
  have q2 := g2.below hb4 g2.lt
  have f1 := q1.frozen 0
  have c1 := q1.cell (i := 0) rfl
  have hS0 : RdSt w rp w2.heap.size (w2.heap.size + 1) ⟨l, 0⟩ (.slice none 0 0) [] (((w2.alloc (.cells #[.pointer (some ⟨rp, 0, none⟩)] 44)).alloc (.cells #[.slice none 0 0, .bool true] 51)).setCell ⟨w.heap.size, 0, none⟩ (.pointer (some ⟨w2.heap.size + 1, 0, none⟩))) :=
    ⟨q1.set 0 _, q2.far (p := ⟨w.heap.size, 0, none⟩) (by simp) _, (hi2.below hb4).away ((Tch.refl (fun i => i = w.heap.size) _).setCell (p := ⟨w.heap.size, 0, none⟩) (.inl rfl) _) (by omega) (fun i e => .inr ⟨25, .pointer none, by rw [e]; exact q1, fun y e => by cases e⟩), hx3.far (p := ⟨w.heap.size, 0, none⟩) (by simp; omega) _, hx4.far (p := ⟨w.heap.size, 0, none⟩) (by simp; omega) _, OwnR.nil _ _, (g3.trans (hb4.mono (by omega))).setCell (Nat.le_refl _) _, by omega, by omega, by omega⟩
  have HS0 := Lib.hid hS0
  clear g1 g2 g3 hi2 hb2 hb3 hb4 hx3 hx4 q1 q2 hS0
  go_wp2_with fail
  generalize ((w2.alloc (.cells #[.pointer (some ⟨rp, 0, none⟩)] 44)).alloc (.cells #[.slice none 0 0, .bool true] 51)).setCell ⟨w.heap.size, 0, none⟩ (.pointer (some ⟨w2.heap.size + 1, 0, none⟩)) = w4 at HS0 ⊢
  obtain ⟨X, hX⟩ : ∃ X, X = w2.heap.size := ⟨_, rfl⟩
  obtain ⟨q, hq⟩ : ∃ q, q = w2.heap.size + 1 := ⟨_, rfl⟩
  rw [← hq] at HS0 ⊢
  rw [← hX] at HS0 ⊢
  clear hX hq hz2 hl2 hrp h5 f1 c1
  refine (numS_c X rp ⟨l, 0⟩ w4 HS0.out.rd (by simp only; omega) (HS0.out.bx.cell (i := 0) rfl)).mono ?_
  rintro e w5 ⟨⟨hi, ho⟩, hcase⟩
  obtain ⟨r0, hr0⟩ : ∃ r0, r0 = rnum ⟨l, 0⟩ 4096 := ⟨_, rfl⟩
  rw [← hr0] at hi hcase
  have HS1 := Lib.hid (HS0.out.num hi ho)
  have HRD : Hid (readL l = if r0.2.2 ≠ 0 then none else match readGo r0.2.1 r0.1 0 [] with | none => none | some (s, _, l) => if (rend s).2 = 0 then some l else none) := Lib.hid (by rw [hr0]; rfl)
  have hN : (r0.2.1 : Int) ≤ 4096 := by rw [hr0]; exact rnum_top _ _ (by decide)
  have hl0 : r0.1.l.length ≤ 1000000 := by have := rnum_len ⟨l, 0⟩ 4096; rw [← hr0] at this; simp only at this; omega
  clear hi ho HS0 hr0
  rcases hcase with ⟨hz, rfl⟩ | ⟨hz, rfl⟩
  rotate_left
  · refine leaves_cons (f := 18) (args := #[.pointer (some ⟨w.heap.size, 0, none⟩), .pointer (some ⟨w.heap.size + 1, 0, none⟩)]) (by simp) (by simp [go_sem]) ?_
    refine (readGone_c w (HS1.out)).mono ?_
    rintro e u' wz ⟨rfl, rfl, k0, k1, hlz⟩
    have HNO : readL l = none := by
      rw [HRD.out, if_pos hz]
    exact ⟨.tuple #[.pointer none, .int .i64 270], results5_at rfl rfl rfl k0 k1, hlz, .inr ⟨HNO, rfl⟩⟩
  have HRN : Hid (∀ x, readGo r0.2.1 r0.1 0 [] = x → readL l = match x with | none => none | some (s, _, l) => if (rend s).2 = 0 then some l else none) := Lib.hid (fun x hx => by rw [HRD.out, if_neg (fun h => h hz), hx])
  clear HRD hz
  obtain ⟨N, hNN⟩ : ∃ N, N = r0.2.1 := ⟨_, rfl⟩
  obtain ⟨s0, hs0⟩ : ∃ s0, s0 = r0.1 := ⟨_, rfl⟩
  rw [← hNN] at hN HRN ⊢
  rw [← hs0] at HS1 HRN hl0
  clear hNN hs0 r0
  have hN2 : N ≤ 4096 := by omega
  go_wp2_with fail
  go_loopw [17, 6] (fun iv lv wr => ∃ (k : Nat) (s : RS) (v : Value) (acc : List Sp) (last : Int), k ≤ N ∧ iv = .int .i64 (k : Int) ∧ lv = .int .i64 last ∧ 0 ≤ last ∧ last ≤ 4096 ∧ acc.length = k ∧ s.l.length ≤ 1000000 ∧ readGo N s0 0 [] = readGo (N - k) s last acc ∧ RdSt w rp X q s v acc wr) (fun iv _ _ => N - (intOf iv).toNat)
  case atStart => exact ⟨0, s0, .slice none 0 0, [], 0, Nat.zero_le _, rfl, rfl, by omega, by omega, rfl, hl0, rfl, HS1.out⟩
  case round =>
  clear HS1 hl0
  obtain ⟨k, s, v, acc, last, hk, rfl, rfl, hla, hlb, hac, hsl, hgo, hst⟩ := hrel
  have HST := Lib.hid hst; have HGO := Lib.hid hgo
  clear hst hgo
  by_cases hlt : k < N
  rotate_left
  · obtain rfl : k = N := by omega
    have HEND : Hid (readL l = if (rend s).2 = 0 then some acc else none) := Lib.hid (by rw [HRN.out _ HGO.out, Nat.sub_self]; rfl)
    clear HGO HRN
    have cx : wr.cell? ⟨X, 0, none⟩ = some (.pointer (some ⟨rp, 0, none⟩)) := HST.out.bx.cell (i := 0) rfl
    go_wp2_with fail
    refine (rd_end rp s wr HST.out.rd).mono ?_
    rintro e v1 ⟨rfl, hi, ho⟩
    have HA1 := Lib.hid (HST.out.num hi ho)
    have hqw : w.heap.size ≤ q := by have := HST.out.lo; have := HST.out.hX; have := HST.out.hq; omega
    clear hi ho HST cx
    by_cases hz : (rend s).2 = 0
    · have q1 : ((rend s).2 == 0) = true := by rw [beq_iff_eq]; exact hz
      go_wp2_with fail
      refine (mustS_yes _).mono ?_
      rintro e w' ⟨rfl, rfl⟩
      have cs := HA1.out.bs.cell (i := 0) rfl
      have fs := HA1.out.bs.frozen 0
      have ht1 := (Tch.refl (fun i => i = w.heap.size ∨ i = w.heap.size + 1) v1).setCell (p := ⟨w.heap.size, 0, none⟩) (.inl (.inl rfl)) (.pointer (some ⟨q, 0, none⟩))
      have hb1 : Blk (v1.setCell ⟨w.heap.size, 0, none⟩ (.pointer (some ⟨q, 0, none⟩))) (w.heap.size + 1) 26 #[.int .i64 0] := HA1.out.be.far (p := ⟨w.heap.size, 0, none⟩) (by simp) _
      have ce := hb1.cell (i := 0) rfl
      have fe := hb1.frozen 0
      have ht2 := ht1.setCell (p := ⟨w.heap.size + 1, 0, none⟩) (.inl (.inr rfl)) (.int .i64 0)
      have hk0 : Blk ((v1.setCell ⟨w.heap.size, 0, none⟩ (.pointer (some ⟨q, 0, none⟩))).setCell ⟨w.heap.size + 1, 0, none⟩ (.int .i64 0)) w.heap.size 25 #[.pointer (some ⟨q, 0, none⟩)] := (HA1.out.bs.set 0 _).far (p := ⟨w.heap.size + 1, 0, none⟩) (by simp) _
      have hk1 : Blk ((v1.setCell ⟨w.heap.size, 0, none⟩ (.pointer (some ⟨q, 0, none⟩))).setCell ⟨w.heap.size + 1, 0, none⟩ (.int .i64 0)) (w.heap.size + 1) 26 #[.int .i64 0] := hb1.set 0 _
      have g1 := HA1.out.lo; have g2 := HA1.out.hX; have g3 := HA1.out.hq
      have hq1 := ht2.blk HA1.out.bq (by omega)
      have ho1 := ht2.ownR HA1.out.own (fun i hi _ e => by omega)
      have hl1 := HA1.out.bel.trans (ht2.below HA1.out.bel.size (fun i e => by omega))
      have K0 := Lib.hid hk0; have K1 := Lib.hid hk1; have QB := Lib.hid hq1; have QO := Lib.hid ho1; have QL := Lib.hid hl1
      clear ht1 hb1 ht2 hk0 hk1 hq1 ho1 hl1 g1 g2 q1
      go_wp2_with fail
      generalize (v1.setCell ⟨w.heap.size, 0, none⟩ (.pointer (some ⟨q, 0, none⟩))).setCell ⟨w.heap.size + 1, 0, none⟩ (.int .i64 0) = v2 at K0 K1 QB QO QL ⊢
      refine leaves_cons (f := 18) (args := #[.pointer (some ⟨w.heap.size, 0, none⟩), .pointer (some ⟨w.heap.size + 1, 0, none⟩)]) (by simp) (by simp [go_sem]) ?_
      refine (caughtS_idle _ _ _).mono ?_
      rintro e u' w5 ⟨rfl, rfl, rfl⟩
      have k0 := K0.out.cell (i := 0) rfl
      have k1 := K1.out.cell (i := 0) rfl
      obtain ⟨a9, c9, hv9, hc9, hs9, -⟩ := QO.out.sps
      have hq9 := QB.out
      rw [hv9] at hq9
      exact ⟨.tuple #[.pointer (some ⟨q, 0, none⟩), .int .i64 0], results5_at rfl rfl rfl k0 k1, QL.out, .inl ⟨acc, q, a9, c9, by rw [HEND.out, if_pos hz], rfl, by omega, ⟨hq9, hs9, hc9⟩⟩⟩
    · have q1 : ((rend s).2 == 0) = false := by rw [beq_eq_false_iff_ne]; exact hz
      go_wp2_with fail
      refine (mustS_no _).mono ?_
      rintro e w' ⟨rfl, rfl⟩
      refine leaves_cons (f := 18) (args := #[.pointer (some ⟨w.heap.size, 0, none⟩), .pointer (some ⟨w.heap.size + 1, 0, none⟩)]) (by simp) (by simp [go_sem]) ?_
      refine (readGone_c w (HA1.out)).mono ?_
      rintro e u' wz ⟨rfl, rfl, k0, k1, hlz⟩
      have HNO : readL l = none := by
        rw [HEND.out, if_neg hz]
      exact ⟨.tuple #[.pointer none, .int .i64 270], results5_at rfl rfl rfl k0 k1, hlz, .inr ⟨HNO, rfl⟩⟩
  obtain ⟨j, hj⟩ : ∃ j, N - k = j + 1 := ⟨N - k - 1, by omega⟩
  obtain ⟨r1, hr1⟩ : ∃ r1, r1 = rnum s 4096 := ⟨_, rfl⟩
  obtain ⟨r2, hr2⟩ : ∃ r2, r2 = rnum r1.1 4096 := ⟨_, rfl⟩
  have HG1 : Hid (readGo N s0 0 [] = if r1.2.2 ≠ 0 then none else if ¬ (acc = [] ∨ last < last + (r1.2.1 : Int)) then none else if r2.2.2 ≠ 0 then none else if ¬ (last + (r1.2.1 : Int) + (r2.2.1 : Int) ≤ 4096 ∧ 0 < r2.2.1) then none else readGo j r2.1 (last + (r1.2.1 : Int) + (r2.2.1 : Int)) (acc ++ [⟨last + (r1.2.1 : Int), last + (r1.2.1 : Int) + (r2.2.1 : Int)⟩])) := Lib.hid (by rw [HGO.out, hj, hr2, hr1]; rfl)
  have ht1 : (r1.2.1 : Int) ≤ 4096 := by rw [hr1]; exact rnum_top _ _ (by decide)
  have ht2 : (r2.2.1 : Int) ≤ 4096 := by rw [hr2]; exact rnum_top _ _ (by decide)
  have hl1 : r1.1.l.length ≤ 1000000 := by have := rnum_len s 4096; rw [← hr1] at this; omega
  have hl2 : r2.1.l.length ≤ 1000000 := by have := rnum_len r1.1 4096; rw [← hr2] at this; omega
  have HR1 := Lib.hid hr1; have HR2 := Lib.hid hr2
  have hlo0 := HST.out.lo; have hX0 := HST.out.hX; have hq0 := HST.out.hq
  clear hr1 hr2 HGO
  go_wp2_with fail
  refine (numS_c X rp s wr HST.out.rd (by omega) (HST.out.bx.cell (i := 0) rfl)).mono ?_
  rintro e v1 ⟨⟨hi, ho⟩, hcase⟩
  rw [← HR1.out] at hi hcase
  have HA1 := Lib.hid (HST.out.num hi ho)
  clear hi ho
  rcases hcase with ⟨hz, rfl⟩ | ⟨hz, rfl⟩
  rotate_left
  · refine leaves_cons (f := 18) (args := #[.pointer (some ⟨w.heap.size, 0, none⟩), .pointer (some ⟨w.heap.size + 1, 0, none⟩)]) (by simp) (by simp [go_sem]) ?_
    refine (readGone_c w (HA1.out)).mono ?_
    rintro e u' wz ⟨rfl, rfl, k0, k1, hlz⟩
    have HNO : readL l = none := by
      rw [HRN.out _ (by rw [HG1.out, if_pos hz])]
    exact ⟨.tuple #[.pointer none, .int .i64 270], results5_at rfl rfl rfl k0 k1, hlz, .inr ⟨HNO, rfl⟩⟩
  have HZ1 : Hid (r1.2.2 = 0) := Lib.hid hz
  obtain ⟨x1, hx1⟩ : ∃ x1, x1 = r1.2.1 := ⟨_, rfl⟩
  obtain ⟨x2, hx2⟩ : ∃ x2, x2 = r2.2.1 := ⟨_, rfl⟩
  have HG2 : Hid (readGo N s0 0 [] = if ¬ (acc = [] ∨ last < last + (x1 : Int)) then none else if r2.2.2 ≠ 0 then none else if ¬ (last + (x1 : Int) + (x2 : Int) ≤ 4096 ∧ 0 < x2) then none else readGo j r2.1 (last + (x1 : Int) + (x2 : Int)) (acc ++ [⟨last + (x1 : Int), last + (x1 : Int) + (x2 : Int)⟩])) := Lib.hid (by rw [HG1.out, if_neg (fun h => h hz), hx1, hx2])
  rw [← hx1] at ht1 ⊢
  rw [← hx2] at ht2
  have HX2 := Lib.hid hx2
  clear hz HST HG1 hx1 hx2
  obtain ⟨f, hf⟩ : ∃ f, f = last + (x1 : Int) := ⟨_, rfl⟩
  have ew : wrap64 (last + (x1 : Int)) = f := by rw [hf]; exact IntWalk.wrap64_in _ (by omega)
  have hal := (Below.refl v1.heap.size v1).alloc (Nat.le_refl _) (.cells #[.int .i64 f, .int .i64 0] 33)
  have HA2 := Lib.hid (HA1.out.below hal)
  have HBX := Lib.hid (Blk.new v1 33 #[.int .i64 f, .int .i64 0])
  have hvB : ∀ k, v.ownBlock = some k → k < v1.heap.size := fun k e => (World.ownsRow.lt HA1.out.own k e).2
  have hB0 := HA1.out.bq.lt
  have hz2 : (v1.alloc (.cells #[.int .i64 f, .int .i64 0] 33)).heap.size = v1.heap.size + 1 := by simp
  clear hal HA1
  have hf0 : 0 ≤ f := by omega
  have hf1 : f ≤ 8192 := by omega
  by_cases hk0 : k = 0
  · subst hk0
    have q1 : (((0 : Nat) : Int) == 0) = true := rfl
    have HOK : acc = [] ∨ last < last + (x1 : Int) := .inl (List.eq_nil_of_length_eq_zero (by omega))
    go_wp2_with fail
    refine (mustS_yes _).mono ?_
    rintro e w' ⟨rfl, rfl⟩
    rw [← hf]
    have HG3 : Hid (readGo N s0 0 [] = if r2.2.2 ≠ 0 then none else if ¬ (f + (x2 : Int) ≤ 4096 ∧ 0 < x2) then none else readGo j r2.1 (f + (x2 : Int)) (acc ++ [⟨f, f + (x2 : Int)⟩])) := Lib.hid (by rw [HG2.out, if_neg (fun h => h HOK), hf])
    obtain ⟨B, hB⟩ : ∃ B, B = v1.heap.size := ⟨_, rfl⟩
    rw [← hB] at HBX hvB hB0 hz2 ⊢
    generalize v1.alloc (.cells #[.int .i64 f, .int .i64 0] 33) = v2 at HA2 HBX hz2 ⊢
    clear HG2 hf q1 hB ew
    go_wp2_with fail
    refine wp_mono (Q := PanQ [{ target := .fn (.func 18) #[.pointer (some ⟨w.heap.size, 0, none⟩), .pointer (some ⟨w.heap.size + 1, 0, none⟩)], args := #[] }] (.pointer (some ⟨w.heap.size, 0, none⟩)) (.pointer (some ⟨w.heap.size + 1, 0, none⟩)) (fun c W => c = gaveS ∧ (∃ s v acc, RdSt w rp X q s v acc W) ∧ readL l = none) _) ?_ (PanQ.to ?pan)
    case pan =>
      rintro c tm wy h2 h3 ⟨rfl, ⟨s_, v_, acc_, hob⟩, hres⟩
      refine leaves_cons (f := 18) (args := #[.pointer (some ⟨w.heap.size, 0, none⟩), .pointer (some ⟨w.heap.size + 1, 0, none⟩)]) (by simp) (by simp [go_sem]) ?_
      refine (readGone_c w (hob)).mono ?_
      rintro e u' wz ⟨rfl, rfl, k0, k1, hlz⟩
      have HNO : readL l = none := by
        exact hres
      exact ⟨.tuple #[.pointer none, .int .i64 270], results5_at rfl h2 h3 k0 k1, hlz, .inr ⟨HNO, rfl⟩⟩
    have HA3 := Lib.hid (HA2.out.below (Below.refl v2.heap.size v2).drew)
    have HBX3 := Lib.hid (HBX.out.drew)
    have hS0 : (fun W => ∃ u, Blk W B 33 #[.int .i64 f, u]) v2.drew := ⟨_, HBX3.out⟩
    obtain ⟨t, ht⟩ : ∃ t, t = f + (x2 : Int) := ⟨_, rfl⟩
    have HT := Lib.hid ht
    clear ht
    refine wp_region_held_drew (S := (fun W => ∃ u, Blk W B 33 #[.int .i64 f, u])) (by kernel_rfl) hS0 ?_
    intro hS0'
    refine wpAnyH_take (i := 0) (v := .pointer (some ⟨B, 0, none⟩)) rfl (by kernel_rfl) (by kernel_rfl) (by kernel_rfl) (fun _ _ _ h => PanQ.put (by decide) (by decide) h) (Or.inl ⟨by kernel_rfl, fun w hSw => ?_⟩) hS0' ?_
    · go_simp
    try simp only [Act.put, List.getElem_toArray, List.getElem_cons_succ, List.getElem_cons_zero, List.setIfInBounds_toArray, List.set_cons_zero, List.set_cons_succ]
    refine wpAnyH_take (i := 1) (v := .int .i64 f) rfl (by kernel_rfl) (by kernel_rfl) (by kernel_rfl) (fun _ _ _ h => PanQ.put (by decide) (by decide) h) (Or.inl ⟨by kernel_rfl, fun w hSw => ?_⟩) hS0' ?_
    · obtain ⟨u, hu⟩ := hSw
      have cS := hu.cell (i := 0) rfl
      go_simp
    try simp only [Act.put, List.getElem_toArray, List.getElem_cons_succ, List.getElem_cons_zero, List.setIfInBounds_toArray, List.set_cons_zero, List.set_cons_succ]
    refine wpAnyH_take (i := 2) (v := .func (.func 20) #[] #[.pointer (some ⟨X, 0, none⟩)]) rfl (by kernel_rfl) (by kernel_rfl) (by kernel_rfl) (fun _ _ _ h => PanQ.put (by decide) (by decide) h) (Or.inl ⟨by kernel_rfl, fun w hSw => ?_⟩) hS0' ?_
    · go_simp
    try simp only [Act.put, List.getElem_toArray, List.getElem_cons_succ, List.getElem_cons_zero, List.setIfInBounds_toArray, List.set_cons_zero, List.set_cons_succ]
    refine wpAnyH_ready (rs := [3]) (by kernel_rfl) (by simp) ?_
    refine AllReadyH.cons (by rfl) ?_ AllReadyH.nil
    intro K hK
    go_simp
    refine (numS_c X rp r1.1 _ HA3.out.rd (by omega) (HA3.out.bx.cell (i := 0) rfl)).mono ?_
    rintro e v4 ⟨⟨hi4, ho4⟩, hcase⟩
    rw [← HR2.out] at hi4 hcase
    have HA4 := Lib.hid (HA3.out.num hi4 ho4)
    have HX4 := Lib.hid (ho4.blk HBX3.out (by omega))
    have hz4 := ho4.size
    clear hi4 ho4
    rcases hcase with ⟨hz, rfl⟩ | ⟨hz, rfl⟩
    rotate_left
    · exact ⟨rfl, rfl, rfl, rfl, ⟨_, _, _, HA4.out⟩, by rw [HRN.out _ (by rw [HG3.out, if_pos hz])]⟩
    rw [← HX2.out]
    have HZ2 : Hid (r2.2.2 = 0) := Lib.hid hz
    clear hz
    have xc1 : v4.cell? ⟨B, 1, none⟩ = some (.int .i64 0) := HX4.out.cell (i := 1) rfl
    have xf1 := HX4.out.frozen 1
    refine hK.out _ _ ⟨_, HX4.out⟩ (fun hS1 => ?_)
    clear hK K
    refine wpAnyH_take (i := 4) (v := .int .i64 t) rfl (by kernel_rfl) (by kernel_rfl) (by kernel_rfl) (fun _ _ _ h => PanQ.put (by decide) (by decide) h) ?_ hS1 ?_
    · refine Or.inl ⟨by kernel_rfl, fun w hSw => ?_⟩
      rw [HT.out]
      go_simp
      exact IntWalk.i64_in _ (by omega)
    try simp only [Act.put, List.getElem_toArray, List.getElem_cons_succ, List.getElem_cons_zero, List.setIfInBounds_toArray, List.set_cons_zero, List.set_cons_succ]
    refine wpAnyH_take (i := 5) (v := .pointer (some ⟨B, 1, none⟩)) rfl (by kernel_rfl) (by kernel_rfl) (by kernel_rfl) (fun _ _ _ h => PanQ.put (by decide) (by decide) h) (Or.inl ⟨by kernel_rfl, fun w hSw => ?_⟩) hS1 ?_
    · go_simp
    try simp only [Act.put, List.getElem_toArray, List.getElem_cons_succ, List.getElem_cons_zero, List.setIfInBounds_toArray, List.set_cons_zero, List.set_cons_succ]
    refine wpAnyH_ready (rs := [6]) (by kernel_rfl) (by simp) ?_
    refine AllReadyH.cons (by rfl) ?_ AllReadyH.nil
    intro K hK
    go_simp
    refine hK.out _ _ ⟨.int .i64 t, by have hh := HX4.out.set 1 (.int .i64 t); exact hh⟩ (fun hS2 => ?_)
    clear hK K
    refine wpAnyH_done (by kernel_rfl) ?_ _
    clear xc1 xf1
    refine PanQ.norm ?_
    have hT5 := (Tch.refl (fun i => i = B) v4).setCell (p := ⟨B, 1, none⟩) (.inl rfl) (.int .i64 t)
    have HX5 : Hid (Blk (v4.setCell ⟨B, 1, none⟩ (.int .i64 t)) B 33 #[.int .i64 f, .int .i64 t]) := Lib.hid (by have hh := HX4.out.set 1 (.int .i64 t); exact hh)
    have HA5 : Hid (RdSt w rp X q r2.1 v acc (v4.setCell ⟨B, 1, none⟩ (.int .i64 t))) := Lib.hid (HA4.out.up hT5 (fun i e => by omega) (hT5.blk HA4.out.bq (by omega)) (hT5.ownR HA4.out.own (fun i hi e h => by have := hvB i e; omega)))
    have hz5 : (v4.setCell ⟨B, 1, none⟩ (.int .i64 t)).heap.size = v4.heap.size := by simp
    clear hT5
    generalize v4.setCell ⟨B, 1, none⟩ (.int .i64 t) = v5 at HX5 HA5 hz5 ⊢
    have c0 : v5.cell? ⟨B, 0, none⟩ = some (.int .i64 f) := HX5.out.cell (i := 0) rfl
    have c1 : v5.cell? ⟨B, 1, none⟩ = some (.int .i64 t) := HX5.out.cell (i := 1) rfl
    clear HX4 HA4 HA3 HBX3 HA2 HBX
    go_wp2_with fail
    change Calls Try.prog 23 #[Sp.val ⟨f, t⟩] _ _
    refine (right_c ⟨f, t⟩ v5).mono ?_
    rintro e v6 ⟨rfl, hb6⟩
    have HA6 := Lib.hid (HA5.out.below hb6)
    have HX6 := Lib.hid (HX5.out.below hb6 HX5.out.lt)
    have hz6 := hb6.size
    clear hb6 c0 c1 HA5 HX5
    have htv : t = f + (x2 : Int) := HT.out
    by_cases hrt : (⟨f, t⟩ : Sp).right = true
    rotate_left
    · have hrf : (⟨f, t⟩ : Sp).right = false := by simpa using hrt
      have HRT := Lib.hid hrt
      rw [hrf]
      clear hrt hrf htv
      go_wp2_with fail
      refine (mustS_no _).mono ?_
      rintro e w' ⟨rfl, rfl⟩
      refine leaves_cons (f := 18) (args := #[.pointer (some ⟨w.heap.size, 0, none⟩), .pointer (some ⟨w.heap.size + 1, 0, none⟩)]) (by simp) (by simp [go_sem]) ?_
      refine (readGone_c w (HA6.out)).mono ?_
      rintro e u' wz ⟨rfl, rfl, k0, k1, hlz⟩
      have HNO : readL l = none := by
        rw [HRN.out _ (by rw [HG3.out, if_neg (fun h => h HZ2.out), if_pos (fun h => HRT.out (by unfold Sp.right; rw [decide_eq_true_eq]; have := HT.out; simp only; omega))])]
      exact ⟨.tuple #[.pointer none, .int .i64 270], results5_at rfl rfl rfl k0 k1, hlz, .inr ⟨HNO, rfl⟩⟩
    have hsm := Sp.right_small hrt
    have HRT : Hid (t ≤ 4096) := Lib.hid (hsm.2.2)
    have HSM := Lib.hid hsm
    rw [hrt]
    clear hrt hsm htv
    have c0 : v6.cell? ⟨B, 0, none⟩ = some (.int .i64 f) := HX6.out.cell (i := 0) rfl
    have c1 : v6.cell? ⟨B, 1, none⟩ = some (.int .i64 t) := HX6.out.cell (i := 1) rfl
    go_wp2_with fail
    change Calls Try.prog 24 #[Sp.val ⟨f, t⟩] _ _
    refine (long_c ⟨f, t⟩ v6 HSM.out).mono ?_
    rintro e v7 ⟨rfl, hb7⟩
    have HA7 := Lib.hid (HA6.out.below hb7)
    have HX7 := Lib.hid (HX6.out.below hb7 HX6.out.lt)
    have hz7 := hb7.size
    clear hb7 c0 c1 HA6 HX6
    have HLE : Hid ((⟨f, t⟩ : Sp).len = (x2 : Int)) := Lib.hid (by unfold Sp.len; have := HT.out; simp only; omega)
    rw [HLE.out]
    by_cases hx20 : 0 < x2
    rotate_left
    · go_wp2_with fail
      refine (mustS_no _).mono ?_
      rintro e w' ⟨rfl, rfl⟩
      refine leaves_cons (f := 18) (args := #[.pointer (some ⟨w.heap.size, 0, none⟩), .pointer (some ⟨w.heap.size + 1, 0, none⟩)]) (by simp) (by simp [go_sem]) ?_
      refine (readGone_c w (HA7.out)).mono ?_
      rintro e u' wz ⟨rfl, rfl, k0, k1, hlz⟩
      have HNO : readL l = none := by
        rw [HRN.out _ (by rw [HG3.out, if_neg (fun h => h HZ2.out), if_pos (fun h => hx20 h.2)])]
      exact ⟨.tuple #[.pointer none, .int .i64 270], results5_at rfl rfl rfl k0 k1, hlz, .inr ⟨HNO, rfl⟩⟩
    go_wp2_with fail
    refine (mustS_yes _).mono ?_
    rintro e w' ⟨rfl, rfl⟩
    go_wp2_with fail
    refine wp_mono (Q := PanQ [{ target := .fn (.func 18) #[.pointer (some ⟨w.heap.size, 0, none⟩), .pointer (some ⟨w.heap.size + 1, 0, none⟩)], args := #[] }] (.pointer (some ⟨w.heap.size, 0, none⟩)) (.pointer (some ⟨w.heap.size + 1, 0, none⟩)) (fun c W => False) _) ?_ (PanQ.to ?pan)
    case pan => exact fun _ _ _ _ _ h => h.elim
    obtain ⟨av, cv, hvv, -, -, -⟩ := HA7.out.own.sps
    obtain ⟨m, hm⟩ : ∃ m, m = acc.length := ⟨_, rfl⟩
    rw [← hm] at hvv
    subst hvv
    have HM := Lib.hid hm
    clear hm
    have HA8 := Lib.hid (HA7.out.below (Below.refl v7.heap.size v7).drew)
    have HX8 := Lib.hid HX7.out.drew
    have hS0 : (fun W => Blk W w.heap.size 25 #[.pointer (some ⟨q, 0, none⟩)] ∧ Blk W B 33 #[.int .i64 f, .int .i64 t]) v7.drew := ⟨HA8.out.bs, HX8.out⟩
    clear HA7 HX7
    refine wp_region_held_drew (S := (fun W => Blk W w.heap.size 25 #[.pointer (some ⟨q, 0, none⟩)] ∧ Blk W B 33 #[.int .i64 f, .int .i64 t])) (by kernel_rfl) hS0 ?_
    intro hS0'
    generalize v7.drew = v8 at hS0' HA8 ⊢
    clear HX8 hS0
    have hal8 := (Below.refl v8.heap.size v8).alloc (Nat.le_refl _) (.cells #[.int .i64 f, .int .i64 t] 33)
    have HAa := Lib.hid (HA8.out.below hal8)
    have HOa := Lib.hid HAa.out.own
    have HQa := Lib.hid HAa.out.bq
    have HYa : Hid (Sps (v8.alloc (.cells #[.int .i64 f, .int .i64 t] 33)) (some ⟨v8.heap.size, 0, none⟩) 1 [⟨f, t⟩]) := Lib.hid (Sps.lit 33 rfl rfl)
    have cq1 : v8.cell? ⟨q, 0, none⟩ = some (.slice av m cv) := HA8.out.bq.cell (i := 0) rfl
    have cq2 : (v8.alloc (.cells #[.int .i64 f, .int .i64 t] 33)).cell? ⟨q, 0, none⟩ = some (.slice av m cv) := HQa.out.cell (i := 0) rfl
    clear hal8 HA8
    refine wpAnyH_take (i := 0) (v := .pointer (some ⟨q, 0, none⟩)) rfl (by kernel_rfl) (by kernel_rfl) (by kernel_rfl) (fun _ _ _ h => PanQ.put (by decide) (by decide) h) (Or.inl ⟨by kernel_rfl, fun w hSw => ?_⟩) hS0' ?_
    · have cS := hSw.1.cell (i := 0) rfl
      go_simp
    try simp only [Act.put, List.getElem_toArray, List.getElem_cons_succ, List.getElem_cons_zero, List.setIfInBounds_toArray, List.set_cons_zero, List.set_cons_succ]
    refine wpAnyH_take (i := 1) (v := .pointer (some ⟨q, 0, none⟩)) rfl (by kernel_rfl) (by kernel_rfl) (by kernel_rfl) (fun _ _ _ h => PanQ.put (by decide) (by decide) h) (Or.inl ⟨by kernel_rfl, fun w hSw => ?_⟩) hS0' ?_
    · have cS := hSw.1.cell (i := 0) rfl
      go_simp
    try simp only [Act.put, List.getElem_toArray, List.getElem_cons_succ, List.getElem_cons_zero, List.setIfInBounds_toArray, List.set_cons_zero, List.set_cons_succ]
    refine wpAnyH_take (i := 2) (v := .pointer (some ⟨q, 0, none⟩)) rfl (by kernel_rfl) (by kernel_rfl) (by kernel_rfl) (fun _ _ _ h => PanQ.put (by decide) (by decide) h) (Or.inl ⟨by kernel_rfl, fun w hSw => ?_⟩) hS0' ?_
    · go_simp
    try simp only [Act.put, List.getElem_toArray, List.getElem_cons_succ, List.getElem_cons_zero, List.setIfInBounds_toArray, List.set_cons_zero, List.set_cons_succ]
    refine wpAnyH_take (i := 3) (v := .pointer (some ⟨q, 0, none⟩)) rfl (by kernel_rfl) (by kernel_rfl) (by kernel_rfl) (fun _ _ _ h => PanQ.put (by decide) (by decide) h) (Or.inl ⟨by kernel_rfl, fun w hSw => ?_⟩) hS0' ?_
    · go_simp
    try simp only [Act.put, List.getElem_toArray, List.getElem_cons_succ, List.getElem_cons_zero, List.setIfInBounds_toArray, List.set_cons_zero, List.set_cons_succ]
    refine wpAnyH_take (i := 5) (v := .agg #[.int .i64 f, .int .i64 t]) rfl (by kernel_rfl) (by kernel_rfl) (by kernel_rfl) (fun _ _ _ h => PanQ.put (by decide) (by decide) h) ?_ hS0' ?_
    · exact yieldsIf_load_blk (by kernel_rfl) 33 (.tmp 8) (by kernel_rfl) B (by kernel_rfl) 33 #[.int .i64 f, .int .i64 t] _ (fun _ h => h.2) Try.underlying33 rfl info33
    try simp only [Act.put, List.getElem_toArray, List.getElem_cons_succ, List.getElem_cons_zero, List.setIfInBounds_toArray, List.set_cons_zero, List.set_cons_succ]
    refine wpAnyH_take (i := 8) (v := .pointer (some ⟨B, 1, none⟩)) rfl (by kernel_rfl) (by kernel_rfl) (by kernel_rfl) (fun _ _ _ h => PanQ.put (by decide) (by decide) h) (Or.inl ⟨by kernel_rfl, fun w hSw => ?_⟩) hS0' ?_
    · go_simp
    try simp only [Act.put, List.getElem_toArray, List.getElem_cons_succ, List.getElem_cons_zero, List.setIfInBounds_toArray, List.set_cons_zero, List.set_cons_succ]
    refine wpAnyH_take (i := 9) (v := .int .i64 t) rfl (by kernel_rfl) (by kernel_rfl) (by kernel_rfl) (fun _ _ _ h => PanQ.put (by decide) (by decide) h) (Or.inl ⟨by kernel_rfl, fun w hSw => ?_⟩) hS0' ?_
    · have cS := hSw.2.cell (i := 1) rfl
      go_simp
    try simp only [Act.put, List.getElem_toArray, List.getElem_cons_succ, List.getElem_cons_zero, List.setIfInBounds_toArray, List.set_cons_zero, List.set_cons_succ]
    refine wpAnyH_ready (rs := [4, 6]) (by kernel_rfl) (by simp) ?_
    refine AllReadyH.cons (by rfl) ?_ ?_
    · intro K hK
      go_simp
      refine hK.out _ _ hS0' (fun hS1 => ?_)
      clear hK K
      refine wpAnyH_ready (rs := [6]) (by kernel_rfl) (by simp) ?_
      refine AllReadyH.cons (by rfl) ?_ AllReadyH.nil
      intro K hK
      go_simp
      refine hK.out _ _ ⟨hS1.1.alloc _, hS1.2.alloc _⟩ (fun hS2 => ?_)
      clear hK K
      refine wpAnyH_ready (rs := [7]) (by kernel_rfl) (by simp) ?_
      refine all_readyH_yes (by rfl) (by kernel_rfl) ?_ AllReadyH.nil
      intro K hK
      refine wp_append_sps (.tmp 52) (.tmp 54) 49 49 33 rfl Try.underlying49 Try.underlying49 (q + 1) (.slice av m cv) acc rfl HOa.out (some ⟨v8.heap.size, 0, none⟩) 1 1 [⟨f, t⟩] rfl HYa.out (by omega) (by have := HAa.out.bq.lt; omega) ?_
      intro v9 W9 ho9 hg9
      have hb9 : Blk W9 q 51 #[.slice av m cv, .bool true] := HQa.out.grown hg9 (fun e => by have := hvB _ e.symm; have := (World.ownsRow.lt HOa.out _ e.symm).1; omega)
      have d0 : W9.cell? ⟨q, 0, none⟩ = some (.slice av m cv) := hb9.cell (i := 0) rfl
      have f0 := hb9.frozen 0
      obtain ⟨a9, c9, hv9, -, -, -⟩ := ho9.sps
      obtain ⟨n9, hn9⟩ : ∃ n9, v9 = .slice a9 n9 c9 := ⟨_, hv9⟩
      clear hv9
      subst hn9
      have hT9 : Tch (fun i => q ≤ i) (v8.alloc (.cells #[.int .i64 f, .int .i64 t] 33)) (W9.setCell ⟨q, 0, none⟩ (.slice a9 n9 c9)) := ((Tch.of_grown hg9).mono (S' := fun i => q ≤ i) (fun i _ e => by have := (World.ownsRow.lt HOa.out _ e).1; omega)).setCell (p := ⟨q, 0, none⟩) (.inl (Nat.le_refl _)) _
      have hTo := (Tch.refl (fun i => i = q) W9).setCell (p := ⟨q, 0, none⟩) (.inl rfl) (.slice a9 n9 c9)
      have HA9 : Hid (RdSt w rp X q r2.1 (.slice a9 n9 c9) (acc ++ [⟨f, t⟩]) (W9.setCell ⟨q, 0, none⟩ (.slice a9 n9 c9))) := Lib.hid (HAa.out.up hT9 (fun i e => e) (hb9.set 0 _) (hTo.ownR ho9 (fun i hi _ e => by omega)))
      have HS9 : Hid (Blk W9 w.heap.size 25 #[.pointer (some ⟨q, 0, none⟩)] ∧ Blk W9 B 33 #[.int .i64 f, .int .i64 t]) := Lib.hid ⟨hS2.1.grown hg9 (fun e => by have := (World.ownsRow.lt HOa.out _ e.symm).1; omega), hS2.2.grown hg9 (fun e => by have := hvB _ e.symm; omega)⟩
      clear hb9 ho9 hg9 hT9 hTo
      try simp only [Act.put, List.getElem_toArray, List.getElem_cons_succ, List.getElem_cons_zero, List.setIfInBounds_toArray, List.set_cons_zero, List.set_cons_succ]
      refine hK.out _ _ HS9.out (fun hS3 => ?_)
      clear hK K
      refine wpAnyH_take (i := 10) (v := .pointer (some ⟨q, 0, none⟩)) rfl (by kernel_rfl) (by kernel_rfl) (by kernel_rfl) (fun _ _ _ h => PanQ.put (by decide) (by decide) h) (Or.inl ⟨by kernel_rfl, fun w hSw => ?_⟩) hS3 ?_
      · go_simp
      try simp only [Act.put, List.getElem_toArray, List.getElem_cons_succ, List.getElem_cons_zero, List.setIfInBounds_toArray, List.set_cons_zero, List.set_cons_succ]
      refine wpAnyH_take (i := 11) (v := .pointer (some ⟨q, 0, none⟩)) rfl (by kernel_rfl) (by kernel_rfl) (by kernel_rfl) (fun _ _ _ h => PanQ.put (by decide) (by decide) h) (Or.inl ⟨by kernel_rfl, fun w hSw => ?_⟩) hS3 ?_
      · go_simp
      try simp only [Act.put, List.getElem_toArray, List.getElem_cons_succ, List.getElem_cons_zero, List.setIfInBounds_toArray, List.set_cons_zero, List.set_cons_succ]
      refine wpAnyH_ready (rs := [12]) (by kernel_rfl) (by simp) ?_
      refine AllReadyH.cons (by rfl) ?_ AllReadyH.nil
      intro K hK
      go_simp
      refine hK.out _ _ ⟨hS3.1.far (p := ⟨q, 0, none⟩) (by simp; omega) _, hS3.2.far (p := ⟨q, 0, none⟩) (by simp; omega) _⟩ (fun hS4 => ?_)
      clear hK K
      refine wpAnyH_take (i := 13) (v := .int .i64 t) rfl (by kernel_rfl) (by kernel_rfl) (by kernel_rfl) (fun _ _ _ h => PanQ.put (by decide) (by decide) h) (Or.inl ⟨by kernel_rfl, fun w hSw => ?_⟩) hS4 ?_
      · go_simp
      try simp only [Act.put, List.getElem_toArray, List.getElem_cons_succ, List.getElem_cons_zero, List.setIfInBounds_toArray, List.set_cons_zero, List.set_cons_succ]
      refine wpAnyH_done (by kernel_rfl) ?_ _
      refine PanQ.norm ?_
      clear d0 f0
      go_wp2_with fail
      generalize W9.setCell ⟨q, 0, none⟩ (.slice a9 n9 c9) = wz at HA9 ⊢
      go_roundw
      case rel => exact ⟨0 + 1, r2.1, .slice a9 n9 c9, acc ++ [⟨f, t⟩], t, by omega, by go_num, rfl, by have := HT.out; omega, HRT.out, by rw [List.length_append, hac]; rfl, hl2, by rw [HG3.out, if_neg (fun h => h HZ2.out), if_neg (fun h => h ⟨by have := HT.out; have := HRT.out; omega, hx20⟩), ← HT.out, show N - (0 + 1) = j by omega], HA9.out⟩
      case measure => simp [intOf]; omega
    refine AllReadyH.cons (by rfl) ?_ AllReadyH.nil
    intro K hK
    go_simp
    refine hK.out _ _ ⟨hS0'.1.alloc _, hS0'.2.alloc _⟩ (fun hS5 => ?_)
    clear hK K
    refine wpAnyH_ready (rs := [4]) (by kernel_rfl) (by simp) ?_
    refine AllReadyH.cons (by rfl) ?_ AllReadyH.nil
    intro K hK
    go_simp
    refine hK.out _ _ hS5 (fun hS6 => ?_)
    clear hK K
    refine wpAnyH_ready (rs := [7]) (by kernel_rfl) (by simp) ?_
    refine all_readyH_yes (by rfl) (by kernel_rfl) ?_ AllReadyH.nil
    intro K hK
    refine wp_append_sps (.tmp 52) (.tmp 54) 49 49 33 rfl Try.underlying49 Try.underlying49 (q + 1) (.slice av m cv) acc rfl HOa.out (some ⟨v8.heap.size, 0, none⟩) 1 1 [⟨f, t⟩] rfl HYa.out (by omega) (by have := HAa.out.bq.lt; omega) ?_
    intro v9 W9 ho9 hg9
    have hb9 : Blk W9 q 51 #[.slice av m cv, .bool true] := HQa.out.grown hg9 (fun e => by have := hvB _ e.symm; have := (World.ownsRow.lt HOa.out _ e.symm).1; omega)
    have d0 : W9.cell? ⟨q, 0, none⟩ = some (.slice av m cv) := hb9.cell (i := 0) rfl
    have f0 := hb9.frozen 0
    obtain ⟨a9, c9, hv9, -, -, -⟩ := ho9.sps
    obtain ⟨n9, hn9⟩ : ∃ n9, v9 = .slice a9 n9 c9 := ⟨_, hv9⟩
    clear hv9
    subst hn9
    have hT9 : Tch (fun i => q ≤ i) (v8.alloc (.cells #[.int .i64 f, .int .i64 t] 33)) (W9.setCell ⟨q, 0, none⟩ (.slice a9 n9 c9)) := ((Tch.of_grown hg9).mono (S' := fun i => q ≤ i) (fun i _ e => by have := (World.ownsRow.lt HOa.out _ e).1; omega)).setCell (p := ⟨q, 0, none⟩) (.inl (Nat.le_refl _)) _
    have hTo := (Tch.refl (fun i => i = q) W9).setCell (p := ⟨q, 0, none⟩) (.inl rfl) (.slice a9 n9 c9)
    have HA9 : Hid (RdSt w rp X q r2.1 (.slice a9 n9 c9) (acc ++ [⟨f, t⟩]) (W9.setCell ⟨q, 0, none⟩ (.slice a9 n9 c9))) := Lib.hid (HAa.out.up hT9 (fun i e => e) (hb9.set 0 _) (hTo.ownR ho9 (fun i hi _ e => by omega)))
    have HS9 : Hid (Blk W9 w.heap.size 25 #[.pointer (some ⟨q, 0, none⟩)] ∧ Blk W9 B 33 #[.int .i64 f, .int .i64 t]) := Lib.hid ⟨hS6.1.grown hg9 (fun e => by have := (World.ownsRow.lt HOa.out _ e.symm).1; omega), hS6.2.grown hg9 (fun e => by have := hvB _ e.symm; omega)⟩
    clear hb9 ho9 hg9 hT9 hTo
    try simp only [Act.put, List.getElem_toArray, List.getElem_cons_succ, List.getElem_cons_zero, List.setIfInBounds_toArray, List.set_cons_zero, List.set_cons_succ]
    refine hK.out _ _ HS9.out (fun hS7 => ?_)
    clear hK K
    refine wpAnyH_take (i := 10) (v := .pointer (some ⟨q, 0, none⟩)) rfl (by kernel_rfl) (by kernel_rfl) (by kernel_rfl) (fun _ _ _ h => PanQ.put (by decide) (by decide) h) (Or.inl ⟨by kernel_rfl, fun w hSw => ?_⟩) hS7 ?_
    · go_simp
    try simp only [Act.put, List.getElem_toArray, List.getElem_cons_succ, List.getElem_cons_zero, List.setIfInBounds_toArray, List.set_cons_zero, List.set_cons_succ]
    refine wpAnyH_take (i := 11) (v := .pointer (some ⟨q, 0, none⟩)) rfl (by kernel_rfl) (by kernel_rfl) (by kernel_rfl) (fun _ _ _ h => PanQ.put (by decide) (by decide) h) (Or.inl ⟨by kernel_rfl, fun w hSw => ?_⟩) hS7 ?_
    · go_simp
    try simp only [Act.put, List.getElem_toArray, List.getElem_cons_succ, List.getElem_cons_zero, List.setIfInBounds_toArray, List.set_cons_zero, List.set_cons_succ]
    refine wpAnyH_ready (rs := [12]) (by kernel_rfl) (by simp) ?_
    refine AllReadyH.cons (by rfl) ?_ AllReadyH.nil
    intro K hK
    go_simp
    refine hK.out _ _ ⟨hS7.1.far (p := ⟨q, 0, none⟩) (by simp; omega) _, hS7.2.far (p := ⟨q, 0, none⟩) (by simp; omega) _⟩ (fun hS8 => ?_)
    clear hK K
    refine wpAnyH_take (i := 13) (v := .int .i64 t) rfl (by kernel_rfl) (by kernel_rfl) (by kernel_rfl) (fun _ _ _ h => PanQ.put (by decide) (by decide) h) (Or.inl ⟨by kernel_rfl, fun w hSw => ?_⟩) hS8 ?_
    · go_simp
    try simp only [Act.put, List.getElem_toArray, List.getElem_cons_succ, List.getElem_cons_zero, List.setIfInBounds_toArray, List.set_cons_zero, List.set_cons_succ]
    refine wpAnyH_done (by kernel_rfl) ?_ _
    refine PanQ.norm ?_
    clear d0 f0
    go_wp2_with fail
    generalize W9.setCell ⟨q, 0, none⟩ (.slice a9 n9 c9) = wz at HA9 ⊢
    go_roundw
    case rel => exact ⟨0 + 1, r2.1, .slice a9 n9 c9, acc ++ [⟨f, t⟩], t, by omega, by go_num, rfl, by have := HT.out; omega, HRT.out, by rw [List.length_append, hac]; rfl, hl2, by rw [HG3.out, if_neg (fun h => h HZ2.out), if_neg (fun h => h ⟨by have := HT.out; have := HRT.out; omega, hx20⟩), ← HT.out, show N - (0 + 1) = j by omega], HA9.out⟩
    case measure => simp [intOf]; omega
  · have q1 : ((k : Int) == 0) = false := by rw [beq_eq_false_iff_ne]; omega
    by_cases hx : 0 < x1
    rotate_left
    · go_wp2_with fail
      rw [decide_eq_false (by omega : ¬ last < last + (x1 : Int))]
      refine (mustS_no _).mono ?_
      rintro e w' ⟨rfl, rfl⟩
      rw [← hf]
      refine leaves_cons (f := 18) (args := #[.pointer (some ⟨w.heap.size, 0, none⟩), .pointer (some ⟨w.heap.size + 1, 0, none⟩)]) (by simp) (by simp [go_sem]) ?_
      refine (readGone_c w (HA2.out)).mono ?_
      rintro e u' wz ⟨rfl, rfl, k0, k1, hlz⟩
      have HNO : readL l = none := by
        rw [HRN.out _ (by rw [HG2.out, if_pos (fun h => by rcases h with h | h; exact hk0 (by rw [← hac, h]; rfl); omega)])]
      exact ⟨.tuple #[.pointer none, .int .i64 270], results5_at rfl rfl rfl k0 k1, hlz, .inr ⟨HNO, rfl⟩⟩
    have HOK : acc = [] ∨ last < last + (x1 : Int) := .inr (by omega)
    go_wp2_with fail
    rw [decide_eq_true (by omega : last < last + (x1 : Int))]
    refine (mustS_yes _).mono ?_
    rintro e w' ⟨rfl, rfl⟩
    rw [← hf]
    have HG3 : Hid (readGo N s0 0 [] = if r2.2.2 ≠ 0 then none else if ¬ (f + (x2 : Int) ≤ 4096 ∧ 0 < x2) then none else readGo j r2.1 (f + (x2 : Int)) (acc ++ [⟨f, f + (x2 : Int)⟩])) := Lib.hid (by rw [HG2.out, if_neg (fun h => h HOK), hf])
    obtain ⟨B, hB⟩ : ∃ B, B = v1.heap.size := ⟨_, rfl⟩
    rw [← hB] at HBX hvB hB0 hz2 ⊢
    generalize v1.alloc (.cells #[.int .i64 f, .int .i64 0] 33) = v2 at HA2 HBX hz2 ⊢
    clear HG2 hf q1 hB ew
    go_wp2_with fail
    refine wp_mono (Q := PanQ [{ target := .fn (.func 18) #[.pointer (some ⟨w.heap.size, 0, none⟩), .pointer (some ⟨w.heap.size + 1, 0, none⟩)], args := #[] }] (.pointer (some ⟨w.heap.size, 0, none⟩)) (.pointer (some ⟨w.heap.size + 1, 0, none⟩)) (fun c W => c = gaveS ∧ (∃ s v acc, RdSt w rp X q s v acc W) ∧ readL l = none) _) ?_ (PanQ.to ?pan)
    case pan =>
      rintro c tm wy h2 h3 ⟨rfl, ⟨s_, v_, acc_, hob⟩, hres⟩
      refine leaves_cons (f := 18) (args := #[.pointer (some ⟨w.heap.size, 0, none⟩), .pointer (some ⟨w.heap.size + 1, 0, none⟩)]) (by simp) (by simp [go_sem]) ?_
      refine (readGone_c w (hob)).mono ?_
      rintro e u' wz ⟨rfl, rfl, k0, k1, hlz⟩
      have HNO : readL l = none := by
        exact hres
      exact ⟨.tuple #[.pointer none, .int .i64 270], results5_at rfl h2 h3 k0 k1, hlz, .inr ⟨HNO, rfl⟩⟩
    have HA3 := Lib.hid (HA2.out.below (Below.refl v2.heap.size v2).drew)
    have HBX3 := Lib.hid (HBX.out.drew)
    have hS0 : (fun W => ∃ u, Blk W B 33 #[.int .i64 f, u]) v2.drew := ⟨_, HBX3.out⟩
    obtain ⟨t, ht⟩ : ∃ t, t = f + (x2 : Int) := ⟨_, rfl⟩
    have HT := Lib.hid ht
    clear ht
    refine wp_region_held_drew (S := (fun W => ∃ u, Blk W B 33 #[.int .i64 f, u])) (by kernel_rfl) hS0 ?_
    intro hS0'
    refine wpAnyH_take (i := 0) (v := .pointer (some ⟨B, 0, none⟩)) rfl (by kernel_rfl) (by kernel_rfl) (by kernel_rfl) (fun _ _ _ h => PanQ.put (by decide) (by decide) h) (Or.inl ⟨by kernel_rfl, fun w hSw => ?_⟩) hS0' ?_
    · go_simp
    try simp only [Act.put, List.getElem_toArray, List.getElem_cons_succ, List.getElem_cons_zero, List.setIfInBounds_toArray, List.set_cons_zero, List.set_cons_succ]
    refine wpAnyH_take (i := 1) (v := .int .i64 f) rfl (by kernel_rfl) (by kernel_rfl) (by kernel_rfl) (fun _ _ _ h => PanQ.put (by decide) (by decide) h) (Or.inl ⟨by kernel_rfl, fun w hSw => ?_⟩) hS0' ?_
    · obtain ⟨u, hu⟩ := hSw
      have cS := hu.cell (i := 0) rfl
      go_simp
    try simp only [Act.put, List.getElem_toArray, List.getElem_cons_succ, List.getElem_cons_zero, List.setIfInBounds_toArray, List.set_cons_zero, List.set_cons_succ]
    refine wpAnyH_take (i := 2) (v := .func (.func 20) #[] #[.pointer (some ⟨X, 0, none⟩)]) rfl (by kernel_rfl) (by kernel_rfl) (by kernel_rfl) (fun _ _ _ h => PanQ.put (by decide) (by decide) h) (Or.inl ⟨by kernel_rfl, fun w hSw => ?_⟩) hS0' ?_
    · go_simp
    try simp only [Act.put, List.getElem_toArray, List.getElem_cons_succ, List.getElem_cons_zero, List.setIfInBounds_toArray, List.set_cons_zero, List.set_cons_succ]
    refine wpAnyH_ready (rs := [3]) (by kernel_rfl) (by simp) ?_
    refine AllReadyH.cons (by rfl) ?_ AllReadyH.nil
    intro K hK
    go_simp
    refine (numS_c X rp r1.1 _ HA3.out.rd (by omega) (HA3.out.bx.cell (i := 0) rfl)).mono ?_
    rintro e v4 ⟨⟨hi4, ho4⟩, hcase⟩
    rw [← HR2.out] at hi4 hcase
    have HA4 := Lib.hid (HA3.out.num hi4 ho4)
    have HX4 := Lib.hid (ho4.blk HBX3.out (by omega))
    have hz4 := ho4.size
    clear hi4 ho4
    rcases hcase with ⟨hz, rfl⟩ | ⟨hz, rfl⟩
    rotate_left
    · exact ⟨rfl, rfl, rfl, rfl, ⟨_, _, _, HA4.out⟩, by rw [HRN.out _ (by rw [HG3.out, if_pos hz])]⟩
    rw [← HX2.out]
    have HZ2 : Hid (r2.2.2 = 0) := Lib.hid hz
    clear hz
    have xc1 : v4.cell? ⟨B, 1, none⟩ = some (.int .i64 0) := HX4.out.cell (i := 1) rfl
    have xf1 := HX4.out.frozen 1
    refine hK.out _ _ ⟨_, HX4.out⟩ (fun hS1 => ?_)
    clear hK K
    refine wpAnyH_take (i := 4) (v := .int .i64 t) rfl (by kernel_rfl) (by kernel_rfl) (by kernel_rfl) (fun _ _ _ h => PanQ.put (by decide) (by decide) h) ?_ hS1 ?_
    · refine Or.inl ⟨by kernel_rfl, fun w hSw => ?_⟩
      rw [HT.out]
      go_simp
      exact IntWalk.i64_in _ (by omega)
    try simp only [Act.put, List.getElem_toArray, List.getElem_cons_succ, List.getElem_cons_zero, List.setIfInBounds_toArray, List.set_cons_zero, List.set_cons_succ]
    refine wpAnyH_take (i := 5) (v := .pointer (some ⟨B, 1, none⟩)) rfl (by kernel_rfl) (by kernel_rfl) (by kernel_rfl) (fun _ _ _ h => PanQ.put (by decide) (by decide) h) (Or.inl ⟨by kernel_rfl, fun w hSw => ?_⟩) hS1 ?_
    · go_simp
    try simp only [Act.put, List.getElem_toArray, List.getElem_cons_succ, List.getElem_cons_zero, List.setIfInBounds_toArray, List.set_cons_zero, List.set_cons_succ]
    refine wpAnyH_ready (rs := [6]) (by kernel_rfl) (by simp) ?_
    refine AllReadyH.cons (by rfl) ?_ AllReadyH.nil
    intro K hK
    go_simp
    refine hK.out _ _ ⟨.int .i64 t, by have hh := HX4.out.set 1 (.int .i64 t); exact hh⟩ (fun hS2 => ?_)
    clear hK K
    refine wpAnyH_done (by kernel_rfl) ?_ _
    clear xc1 xf1
    refine PanQ.norm ?_
    have hT5 := (Tch.refl (fun i => i = B) v4).setCell (p := ⟨B, 1, none⟩) (.inl rfl) (.int .i64 t)
    have HX5 : Hid (Blk (v4.setCell ⟨B, 1, none⟩ (.int .i64 t)) B 33 #[.int .i64 f, .int .i64 t]) := Lib.hid (by have hh := HX4.out.set 1 (.int .i64 t); exact hh)
    have HA5 : Hid (RdSt w rp X q r2.1 v acc (v4.setCell ⟨B, 1, none⟩ (.int .i64 t))) := Lib.hid (HA4.out.up hT5 (fun i e => by omega) (hT5.blk HA4.out.bq (by omega)) (hT5.ownR HA4.out.own (fun i hi e h => by have := hvB i e; omega)))
    have hz5 : (v4.setCell ⟨B, 1, none⟩ (.int .i64 t)).heap.size = v4.heap.size := by simp
    clear hT5
    generalize v4.setCell ⟨B, 1, none⟩ (.int .i64 t) = v5 at HX5 HA5 hz5 ⊢
    have c0 : v5.cell? ⟨B, 0, none⟩ = some (.int .i64 f) := HX5.out.cell (i := 0) rfl
    have c1 : v5.cell? ⟨B, 1, none⟩ = some (.int .i64 t) := HX5.out.cell (i := 1) rfl
    clear HX4 HA4 HA3 HBX3 HA2 HBX
    go_wp2_with fail
    change Calls Try.prog 23 #[Sp.val ⟨f, t⟩] _ _
    refine (right_c ⟨f, t⟩ v5).mono ?_
    rintro e v6 ⟨rfl, hb6⟩
    have HA6 := Lib.hid (HA5.out.below hb6)
    have HX6 := Lib.hid (HX5.out.below hb6 HX5.out.lt)
    have hz6 := hb6.size
    clear hb6 c0 c1 HA5 HX5
    have htv : t = f + (x2 : Int) := HT.out
    by_cases hrt : (⟨f, t⟩ : Sp).right = true
    rotate_left
    · have hrf : (⟨f, t⟩ : Sp).right = false := by simpa using hrt
      have HRT := Lib.hid hrt
      rw [hrf]
      clear hrt hrf htv
      go_wp2_with fail
      refine (mustS_no _).mono ?_
      rintro e w' ⟨rfl, rfl⟩
      refine leaves_cons (f := 18) (args := #[.pointer (some ⟨w.heap.size, 0, none⟩), .pointer (some ⟨w.heap.size + 1, 0, none⟩)]) (by simp) (by simp [go_sem]) ?_
      refine (readGone_c w (HA6.out)).mono ?_
      rintro e u' wz ⟨rfl, rfl, k0, k1, hlz⟩
      have HNO : readL l = none := by
        rw [HRN.out _ (by rw [HG3.out, if_neg (fun h => h HZ2.out), if_pos (fun h => HRT.out (by unfold Sp.right; rw [decide_eq_true_eq]; have := HT.out; simp only; omega))])]
      exact ⟨.tuple #[.pointer none, .int .i64 270], results5_at rfl rfl rfl k0 k1, hlz, .inr ⟨HNO, rfl⟩⟩
    have hsm := Sp.right_small hrt
    have HRT : Hid (t ≤ 4096) := Lib.hid (hsm.2.2)
    have HSM := Lib.hid hsm
    rw [hrt]
    clear hrt hsm htv
    have c0 : v6.cell? ⟨B, 0, none⟩ = some (.int .i64 f) := HX6.out.cell (i := 0) rfl
    have c1 : v6.cell? ⟨B, 1, none⟩ = some (.int .i64 t) := HX6.out.cell (i := 1) rfl
    go_wp2_with fail
    change Calls Try.prog 24 #[Sp.val ⟨f, t⟩] _ _
    refine (long_c ⟨f, t⟩ v6 HSM.out).mono ?_
    rintro e v7 ⟨rfl, hb7⟩
    have HA7 := Lib.hid (HA6.out.below hb7)
    have HX7 := Lib.hid (HX6.out.below hb7 HX6.out.lt)
    have hz7 := hb7.size
    clear hb7 c0 c1 HA6 HX6
    have HLE : Hid ((⟨f, t⟩ : Sp).len = (x2 : Int)) := Lib.hid (by unfold Sp.len; have := HT.out; simp only; omega)
    rw [HLE.out]
    by_cases hx20 : 0 < x2
    rotate_left
    · go_wp2_with fail
      refine (mustS_no _).mono ?_
      rintro e w' ⟨rfl, rfl⟩
      refine leaves_cons (f := 18) (args := #[.pointer (some ⟨w.heap.size, 0, none⟩), .pointer (some ⟨w.heap.size + 1, 0, none⟩)]) (by simp) (by simp [go_sem]) ?_
      refine (readGone_c w (HA7.out)).mono ?_
      rintro e u' wz ⟨rfl, rfl, k0, k1, hlz⟩
      have HNO : readL l = none := by
        rw [HRN.out _ (by rw [HG3.out, if_neg (fun h => h HZ2.out), if_pos (fun h => hx20 h.2)])]
      exact ⟨.tuple #[.pointer none, .int .i64 270], results5_at rfl rfl rfl k0 k1, hlz, .inr ⟨HNO, rfl⟩⟩
    go_wp2_with fail
    refine (mustS_yes _).mono ?_
    rintro e w' ⟨rfl, rfl⟩
    go_wp2_with fail
    refine wp_mono (Q := PanQ [{ target := .fn (.func 18) #[.pointer (some ⟨w.heap.size, 0, none⟩), .pointer (some ⟨w.heap.size + 1, 0, none⟩)], args := #[] }] (.pointer (some ⟨w.heap.size, 0, none⟩)) (.pointer (some ⟨w.heap.size + 1, 0, none⟩)) (fun c W => False) _) ?_ (PanQ.to ?pan)
    case pan => exact fun _ _ _ _ _ h => h.elim
    obtain ⟨av, cv, hvv, -, -, -⟩ := HA7.out.own.sps
    obtain ⟨m, hm⟩ : ∃ m, m = acc.length := ⟨_, rfl⟩
    rw [← hm] at hvv
    subst hvv
    have HM := Lib.hid hm
    clear hm
    have HA8 := Lib.hid (HA7.out.below (Below.refl v7.heap.size v7).drew)
    have HX8 := Lib.hid HX7.out.drew
    have hS0 : (fun W => Blk W w.heap.size 25 #[.pointer (some ⟨q, 0, none⟩)] ∧ Blk W B 33 #[.int .i64 f, .int .i64 t]) v7.drew := ⟨HA8.out.bs, HX8.out⟩
    clear HA7 HX7
    refine wp_region_held_drew (S := (fun W => Blk W w.heap.size 25 #[.pointer (some ⟨q, 0, none⟩)] ∧ Blk W B 33 #[.int .i64 f, .int .i64 t])) (by kernel_rfl) hS0 ?_
    intro hS0'
    generalize v7.drew = v8 at hS0' HA8 ⊢
    clear HX8 hS0
    have hal8 := (Below.refl v8.heap.size v8).alloc (Nat.le_refl _) (.cells #[.int .i64 f, .int .i64 t] 33)
    have HAa := Lib.hid (HA8.out.below hal8)
    have HOa := Lib.hid HAa.out.own
    have HQa := Lib.hid HAa.out.bq
    have HYa : Hid (Sps (v8.alloc (.cells #[.int .i64 f, .int .i64 t] 33)) (some ⟨v8.heap.size, 0, none⟩) 1 [⟨f, t⟩]) := Lib.hid (Sps.lit 33 rfl rfl)
    have cq1 : v8.cell? ⟨q, 0, none⟩ = some (.slice av m cv) := HA8.out.bq.cell (i := 0) rfl
    have cq2 : (v8.alloc (.cells #[.int .i64 f, .int .i64 t] 33)).cell? ⟨q, 0, none⟩ = some (.slice av m cv) := HQa.out.cell (i := 0) rfl
    clear hal8 HA8
    refine wpAnyH_take (i := 0) (v := .pointer (some ⟨q, 0, none⟩)) rfl (by kernel_rfl) (by kernel_rfl) (by kernel_rfl) (fun _ _ _ h => PanQ.put (by decide) (by decide) h) (Or.inl ⟨by kernel_rfl, fun w hSw => ?_⟩) hS0' ?_
    · have cS := hSw.1.cell (i := 0) rfl
      go_simp
    try simp only [Act.put, List.getElem_toArray, List.getElem_cons_succ, List.getElem_cons_zero, List.setIfInBounds_toArray, List.set_cons_zero, List.set_cons_succ]
    refine wpAnyH_take (i := 1) (v := .pointer (some ⟨q, 0, none⟩)) rfl (by kernel_rfl) (by kernel_rfl) (by kernel_rfl) (fun _ _ _ h => PanQ.put (by decide) (by decide) h) (Or.inl ⟨by kernel_rfl, fun w hSw => ?_⟩) hS0' ?_
    · have cS := hSw.1.cell (i := 0) rfl
      go_simp
    try simp only [Act.put, List.getElem_toArray, List.getElem_cons_succ, List.getElem_cons_zero, List.setIfInBounds_toArray, List.set_cons_zero, List.set_cons_succ]
    refine wpAnyH_take (i := 2) (v := .pointer (some ⟨q, 0, none⟩)) rfl (by kernel_rfl) (by kernel_rfl) (by kernel_rfl) (fun _ _ _ h => PanQ.put (by decide) (by decide) h) (Or.inl ⟨by kernel_rfl, fun w hSw => ?_⟩) hS0' ?_
    · go_simp
    try simp only [Act.put, List.getElem_toArray, List.getElem_cons_succ, List.getElem_cons_zero, List.setIfInBounds_toArray, List.set_cons_zero, List.set_cons_succ]
    refine wpAnyH_take (i := 3) (v := .pointer (some ⟨q, 0, none⟩)) rfl (by kernel_rfl) (by kernel_rfl) (by kernel_rfl) (fun _ _ _ h => PanQ.put (by decide) (by decide) h) (Or.inl ⟨by kernel_rfl, fun w hSw => ?_⟩) hS0' ?_
    · go_simp
    try simp only [Act.put, List.getElem_toArray, List.getElem_cons_succ, List.getElem_cons_zero, List.setIfInBounds_toArray, List.set_cons_zero, List.set_cons_succ]
    refine wpAnyH_take (i := 5) (v := .agg #[.int .i64 f, .int .i64 t]) rfl (by kernel_rfl) (by kernel_rfl) (by kernel_rfl) (fun _ _ _ h => PanQ.put (by decide) (by decide) h) ?_ hS0' ?_
    · exact yieldsIf_load_blk (by kernel_rfl) 33 (.tmp 8) (by kernel_rfl) B (by kernel_rfl) 33 #[.int .i64 f, .int .i64 t] _ (fun _ h => h.2) Try.underlying33 rfl info33
    try simp only [Act.put, List.getElem_toArray, List.getElem_cons_succ, List.getElem_cons_zero, List.setIfInBounds_toArray, List.set_cons_zero, List.set_cons_succ]
    refine wpAnyH_take (i := 8) (v := .pointer (some ⟨B, 1, none⟩)) rfl (by kernel_rfl) (by kernel_rfl) (by kernel_rfl) (fun _ _ _ h => PanQ.put (by decide) (by decide) h) (Or.inl ⟨by kernel_rfl, fun w hSw => ?_⟩) hS0' ?_
    · go_simp
    try simp only [Act.put, List.getElem_toArray, List.getElem_cons_succ, List.getElem_cons_zero, List.setIfInBounds_toArray, List.set_cons_zero, List.set_cons_succ]
    refine wpAnyH_take (i := 9) (v := .int .i64 t) rfl (by kernel_rfl) (by kernel_rfl) (by kernel_rfl) (fun _ _ _ h => PanQ.put (by decide) (by decide) h) (Or.inl ⟨by kernel_rfl, fun w hSw => ?_⟩) hS0' ?_
    · have cS := hSw.2.cell (i := 1) rfl
      go_simp
    try simp only [Act.put, List.getElem_toArray, List.getElem_cons_succ, List.getElem_cons_zero, List.setIfInBounds_toArray, List.set_cons_zero, List.set_cons_succ]
    refine wpAnyH_ready (rs := [4, 6]) (by kernel_rfl) (by simp) ?_
    refine AllReadyH.cons (by rfl) ?_ ?_
    · intro K hK
      go_simp
      refine hK.out _ _ hS0' (fun hS1 => ?_)
      clear hK K
      refine wpAnyH_ready (rs := [6]) (by kernel_rfl) (by simp) ?_
      refine AllReadyH.cons (by rfl) ?_ AllReadyH.nil
      intro K hK
      go_simp
      refine hK.out _ _ ⟨hS1.1.alloc _, hS1.2.alloc _⟩ (fun hS2 => ?_)
      clear hK K
      refine wpAnyH_ready (rs := [7]) (by kernel_rfl) (by simp) ?_
      refine all_readyH_yes (by rfl) (by kernel_rfl) ?_ AllReadyH.nil
      intro K hK
      refine wp_append_sps (.tmp 52) (.tmp 54) 49 49 33 rfl Try.underlying49 Try.underlying49 (q + 1) (.slice av m cv) acc rfl HOa.out (some ⟨v8.heap.size, 0, none⟩) 1 1 [⟨f, t⟩] rfl HYa.out (by omega) (by have := HAa.out.bq.lt; omega) ?_
      intro v9 W9 ho9 hg9
      have hb9 : Blk W9 q 51 #[.slice av m cv, .bool true] := HQa.out.grown hg9 (fun e => by have := hvB _ e.symm; have := (World.ownsRow.lt HOa.out _ e.symm).1; omega)
      have d0 : W9.cell? ⟨q, 0, none⟩ = some (.slice av m cv) := hb9.cell (i := 0) rfl
      have f0 := hb9.frozen 0
      obtain ⟨a9, c9, hv9, -, -, -⟩ := ho9.sps
      obtain ⟨n9, hn9⟩ : ∃ n9, v9 = .slice a9 n9 c9 := ⟨_, hv9⟩
      clear hv9
      subst hn9
      have hT9 : Tch (fun i => q ≤ i) (v8.alloc (.cells #[.int .i64 f, .int .i64 t] 33)) (W9.setCell ⟨q, 0, none⟩ (.slice a9 n9 c9)) := ((Tch.of_grown hg9).mono (S' := fun i => q ≤ i) (fun i _ e => by have := (World.ownsRow.lt HOa.out _ e).1; omega)).setCell (p := ⟨q, 0, none⟩) (.inl (Nat.le_refl _)) _
      have hTo := (Tch.refl (fun i => i = q) W9).setCell (p := ⟨q, 0, none⟩) (.inl rfl) (.slice a9 n9 c9)
      have HA9 : Hid (RdSt w rp X q r2.1 (.slice a9 n9 c9) (acc ++ [⟨f, t⟩]) (W9.setCell ⟨q, 0, none⟩ (.slice a9 n9 c9))) := Lib.hid (HAa.out.up hT9 (fun i e => e) (hb9.set 0 _) (hTo.ownR ho9 (fun i hi _ e => by omega)))
      have HS9 : Hid (Blk W9 w.heap.size 25 #[.pointer (some ⟨q, 0, none⟩)] ∧ Blk W9 B 33 #[.int .i64 f, .int .i64 t]) := Lib.hid ⟨hS2.1.grown hg9 (fun e => by have := (World.ownsRow.lt HOa.out _ e.symm).1; omega), hS2.2.grown hg9 (fun e => by have := hvB _ e.symm; omega)⟩
      clear hb9 ho9 hg9 hT9 hTo
      try simp only [Act.put, List.getElem_toArray, List.getElem_cons_succ, List.getElem_cons_zero, List.setIfInBounds_toArray, List.set_cons_zero, List.set_cons_succ]
      refine hK.out _ _ HS9.out (fun hS3 => ?_)
      clear hK K
      refine wpAnyH_take (i := 10) (v := .pointer (some ⟨q, 0, none⟩)) rfl (by kernel_rfl) (by kernel_rfl) (by kernel_rfl) (fun _ _ _ h => PanQ.put (by decide) (by decide) h) (Or.inl ⟨by kernel_rfl, fun w hSw => ?_⟩) hS3 ?_
      · go_simp
      try simp only [Act.put, List.getElem_toArray, List.getElem_cons_succ, List.getElem_cons_zero, List.setIfInBounds_toArray, List.set_cons_zero, List.set_cons_succ]
      refine wpAnyH_take (i := 11) (v := .pointer (some ⟨q, 0, none⟩)) rfl (by kernel_rfl) (by kernel_rfl) (by kernel_rfl) (fun _ _ _ h => PanQ.put (by decide) (by decide) h) (Or.inl ⟨by kernel_rfl, fun w hSw => ?_⟩) hS3 ?_
      · go_simp
      try simp only [Act.put, List.getElem_toArray, List.getElem_cons_succ, List.getElem_cons_zero, List.setIfInBounds_toArray, List.set_cons_zero, List.set_cons_succ]
      refine wpAnyH_ready (rs := [12]) (by kernel_rfl) (by simp) ?_
      refine AllReadyH.cons (by rfl) ?_ AllReadyH.nil
      intro K hK
      go_simp
      refine hK.out _ _ ⟨hS3.1.far (p := ⟨q, 0, none⟩) (by simp; omega) _, hS3.2.far (p := ⟨q, 0, none⟩) (by simp; omega) _⟩ (fun hS4 => ?_)
      clear hK K
      refine wpAnyH_take (i := 13) (v := .int .i64 t) rfl (by kernel_rfl) (by kernel_rfl) (by kernel_rfl) (fun _ _ _ h => PanQ.put (by decide) (by decide) h) (Or.inl ⟨by kernel_rfl, fun w hSw => ?_⟩) hS4 ?_
      · go_simp
      try simp only [Act.put, List.getElem_toArray, List.getElem_cons_succ, List.getElem_cons_zero, List.setIfInBounds_toArray, List.set_cons_zero, List.set_cons_succ]
      refine wpAnyH_done (by kernel_rfl) ?_ _
      refine PanQ.norm ?_
      clear d0 f0
      go_wp2_with fail
      generalize W9.setCell ⟨q, 0, none⟩ (.slice a9 n9 c9) = wz at HA9 ⊢
      go_roundw
      case rel => exact ⟨k + 1, r2.1, .slice a9 n9 c9, acc ++ [⟨f, t⟩], t, by omega, by go_num, rfl, by have := HT.out; omega, HRT.out, by rw [List.length_append, hac]; rfl, hl2, by rw [HG3.out, if_neg (fun h => h HZ2.out), if_neg (fun h => h ⟨by have := HT.out; have := HRT.out; omega, hx20⟩), ← HT.out, show N - (k + 1) = j by omega], HA9.out⟩
      case measure => simp [intOf]; omega
    refine AllReadyH.cons (by rfl) ?_ AllReadyH.nil
    intro K hK
    go_simp
    refine hK.out _ _ ⟨hS0'.1.alloc _, hS0'.2.alloc _⟩ (fun hS5 => ?_)
    clear hK K
    refine wpAnyH_ready (rs := [4]) (by kernel_rfl) (by simp) ?_
    refine AllReadyH.cons (by rfl) ?_ AllReadyH.nil
    intro K hK
    go_simp
    refine hK.out _ _ hS5 (fun hS6 => ?_)
    clear hK K
    refine wpAnyH_ready (rs := [7]) (by kernel_rfl) (by simp) ?_
    refine all_readyH_yes (by rfl) (by kernel_rfl) ?_ AllReadyH.nil
    intro K hK
    refine wp_append_sps (.tmp 52) (.tmp 54) 49 49 33 rfl Try.underlying49 Try.underlying49 (q + 1) (.slice av m cv) acc rfl HOa.out (some ⟨v8.heap.size, 0, none⟩) 1 1 [⟨f, t⟩] rfl HYa.out (by omega) (by have := HAa.out.bq.lt; omega) ?_
    intro v9 W9 ho9 hg9
    have hb9 : Blk W9 q 51 #[.slice av m cv, .bool true] := HQa.out.grown hg9 (fun e => by have := hvB _ e.symm; have := (World.ownsRow.lt HOa.out _ e.symm).1; omega)
    have d0 : W9.cell? ⟨q, 0, none⟩ = some (.slice av m cv) := hb9.cell (i := 0) rfl
    have f0 := hb9.frozen 0
    obtain ⟨a9, c9, hv9, -, -, -⟩ := ho9.sps
    obtain ⟨n9, hn9⟩ : ∃ n9, v9 = .slice a9 n9 c9 := ⟨_, hv9⟩
    clear hv9
    subst hn9
    have hT9 : Tch (fun i => q ≤ i) (v8.alloc (.cells #[.int .i64 f, .int .i64 t] 33)) (W9.setCell ⟨q, 0, none⟩ (.slice a9 n9 c9)) := ((Tch.of_grown hg9).mono (S' := fun i => q ≤ i) (fun i _ e => by have := (World.ownsRow.lt HOa.out _ e).1; omega)).setCell (p := ⟨q, 0, none⟩) (.inl (Nat.le_refl _)) _
    have hTo := (Tch.refl (fun i => i = q) W9).setCell (p := ⟨q, 0, none⟩) (.inl rfl) (.slice a9 n9 c9)
    have HA9 : Hid (RdSt w rp X q r2.1 (.slice a9 n9 c9) (acc ++ [⟨f, t⟩]) (W9.setCell ⟨q, 0, none⟩ (.slice a9 n9 c9))) := Lib.hid (HAa.out.up hT9 (fun i e => e) (hb9.set 0 _) (hTo.ownR ho9 (fun i hi _ e => by omega)))
    have HS9 : Hid (Blk W9 w.heap.size 25 #[.pointer (some ⟨q, 0, none⟩)] ∧ Blk W9 B 33 #[.int .i64 f, .int .i64 t]) := Lib.hid ⟨hS6.1.grown hg9 (fun e => by have := (World.ownsRow.lt HOa.out _ e.symm).1; omega), hS6.2.grown hg9 (fun e => by have := hvB _ e.symm; omega)⟩
    clear hb9 ho9 hg9 hT9 hTo
    try simp only [Act.put, List.getElem_toArray, List.getElem_cons_succ, List.getElem_cons_zero, List.setIfInBounds_toArray, List.set_cons_zero, List.set_cons_succ]
    refine hK.out _ _ HS9.out (fun hS7 => ?_)
    clear hK K
    refine wpAnyH_take (i := 10) (v := .pointer (some ⟨q, 0, none⟩)) rfl (by kernel_rfl) (by kernel_rfl) (by kernel_rfl) (fun _ _ _ h => PanQ.put (by decide) (by decide) h) (Or.inl ⟨by kernel_rfl, fun w hSw => ?_⟩) hS7 ?_
    · go_simp
    try simp only [Act.put, List.getElem_toArray, List.getElem_cons_succ, List.getElem_cons_zero, List.setIfInBounds_toArray, List.set_cons_zero, List.set_cons_succ]
    refine wpAnyH_take (i := 11) (v := .pointer (some ⟨q, 0, none⟩)) rfl (by kernel_rfl) (by kernel_rfl) (by kernel_rfl) (fun _ _ _ h => PanQ.put (by decide) (by decide) h) (Or.inl ⟨by kernel_rfl, fun w hSw => ?_⟩) hS7 ?_
    · go_simp
    try simp only [Act.put, List.getElem_toArray, List.getElem_cons_succ, List.getElem_cons_zero, List.setIfInBounds_toArray, List.set_cons_zero, List.set_cons_succ]
    refine wpAnyH_ready (rs := [12]) (by kernel_rfl) (by simp) ?_
    refine AllReadyH.cons (by rfl) ?_ AllReadyH.nil
    intro K hK
    go_simp
    refine hK.out _ _ ⟨hS7.1.far (p := ⟨q, 0, none⟩) (by simp; omega) _, hS7.2.far (p := ⟨q, 0, none⟩) (by simp; omega) _⟩ (fun hS8 => ?_)
    clear hK K
    refine wpAnyH_take (i := 13) (v := .int .i64 t) rfl (by kernel_rfl) (by kernel_rfl) (by kernel_rfl) (fun _ _ _ h => PanQ.put (by decide) (by decide) h) (Or.inl ⟨by kernel_rfl, fun w hSw => ?_⟩) hS8 ?_
    · go_simp
    try simp only [Act.put, List.getElem_toArray, List.getElem_cons_succ, List.getElem_cons_zero, List.setIfInBounds_toArray, List.set_cons_zero, List.set_cons_succ]
    refine wpAnyH_done (by kernel_rfl) ?_ _
    refine PanQ.norm ?_
    clear d0 f0
    go_wp2_with fail
    generalize W9.setCell ⟨q, 0, none⟩ (.slice a9 n9 c9) = wz at HA9 ⊢
    go_roundw
    case rel => exact ⟨k + 1, r2.1, .slice a9 n9 c9, acc ++ [⟨f, t⟩], t, by omega, by go_num, rfl, by have := HT.out; omega, HRT.out, by rw [List.length_append, hac]; rfl, hl2, by rw [HG3.out, if_neg (fun h => h HZ2.out), if_neg (fun h => h ⟨by have := HT.out; have := HRT.out; omega, hx20⟩), ← HT.out, show N - (k + 1) = j by omega], HA9.out⟩
    case measure => simp [intOf]; omega
end Go.Proofs.Ytlgpoaapmgcloaa
