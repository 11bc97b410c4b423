/- Contracts: a span is cut out. -/
import Derived.Test.YtlgpoaapmgcloaaSe
namespace Go.Proofs.Ytlgpoaapmgcloaa
open Go.RowKit
set_option linter.unusedSimpArgs false
set_option linter.unusedVariables false
set_option maxRecDepth 100000

theorem cut_take {l : List Sp} {i : Nat} {x : Sp} (b : Sp) (hx : l[i]? = some x) : (l.take (i + 1)).flatMap (fun u => restL u b) = (l.take i).flatMap (fun u => restL u b) ++ restL x b := by
  rw [List.take_add_one, hx, List.flatMap_append]
  simp
theorem restL_len (a b : Sp) : (restL a b).length ≤ 2 := by
  unfold restL
  exact Nat.le_trans (List.length_filter_le _ _) (by simp)
theorem cut_len (l : List Sp) (b : Sp) : (l.flatMap (fun u => restL u b)).length ≤ 2 * l.length := by
  induction l with
  | nil => simp
  | cons a r ih =>
    rw [List.flatMap_cons, List.length_append, List.length_cons]
    have := restL_len a b
    omega
structure ChR (w : World) (p B0 : Nat) (a : Option Addr) (n c : Nat) (l : List Sp) (b : Sp) (base i : Nat) (v : Value) (W : World) : Prop where
  own : OwnR W base v ((l.take i).flatMap (fun u => restL u b))
  b0 : Blk W B0 33 #[.int .i64 b.f, .int .i64 b.t]
  on : Below w.heap.size w W
set_option maxHeartbeats 4000000 in
theorem change_rest (p : Nat) (l : List Sp) (a : Option Addr) (c : Nat) (b : Sp) (w : World) (h : IsSet w p l a c) (hn : l.length ≤ 1000000) (hls : Smalls l) (hbs : b.small) :
    Calls Try.prog 31 #[.pointer (some ⟨p, 0, none⟩), b.val, .func (.func 37) #[] #[]] w fun e w' => e = .returned (.tuple #[]) ∧ (∃ a' c', IsSet w' p (l.flatMap (fun u => restL u b)) a' c') ∧ Only p w w' := by
  have hlp := h.blk.lt
  have hal := (Below.refl w.heap.size w).alloc (Nat.le_refl _) (.cells #[.int .i64 b.f, .int .i64 b.t] 33)
  obtain ⟨n, hnn⟩ : ∃ n, n = l.length := ⟨_, rfl⟩
  have HC : Hid (ChR w p w.heap.size a n c l b (w.heap.size + 1) 0 (.slice none 0 0) (w.alloc (.cells #[.int .i64 b.f, .int .i64 b.t] 33))) := Lib.hid ⟨OwnR.nil _ _, Blk.new _ _ _, hal⟩
  have HN := Lib.hid hnn
  have hn6 : n ≤ 1000000 := by omega
  have hbk : Blk w p 51 #[.slice a n c, .bool true] := by rw [hnn]; exact h.blk
  have HBK := Lib.hid hbk
  have HRW : Hid (Sps w a n l) := Lib.hid (by rw [hnn]; exact h.row)
  have HSM := Lib.hid hls
  have c0 : (w.alloc (.cells #[.int .i64 b.f, .int .i64 b.t] 33)).cell? ⟨p, 0, none⟩ = some (.slice a n c) := (hbk.alloc _).cell (i := 0) rfl
  unfold Sp.val
  clear hal h hnn hbk hls
  go_enter Try.func31, Try.ntmps31
  go_wp2_with fail
  clear c0
  go_loopw [14, 6] (fun iv v wr => ∃ i : Nat, i ≤ n ∧ iv = .int .i64 (i : Int) ∧ ChR w p w.heap.size a n c l b (w.heap.size + 1) i v wr) (fun iv _ _ => n - (intOf iv).toNat)
  case atStart => exact ⟨0, Nat.zero_le _, rfl, HC.out⟩
  case round =>
  obtain ⟨i, hi, rfl, hch⟩ := hrel
  have HS := Lib.hid hch
  by_cases hlt : i < n
  · obtain ⟨x, hx⟩ : ∃ x, l[i]? = some x := ⟨l[i]'(by have := HN.out; omega), List.getElem?_eq_getElem _⟩
    have HX := Lib.hid hx
    have HXS := Lib.hid (HSM.out x (List.mem_of_getElem? hx))
    obtain ⟨g, off, rfl, hg, c0, c1⟩ := (HRW.out.below hch.on).2 i x hx
    have hal := (Below.refl wr.heap.size wr).alloc (Nat.le_refl _) (.cells #[.int .i64 x.f, .int .i64 x.t] 33)
    have HA := Lib.hid hal
    have b0 : (wr.alloc (.cells #[.int .i64 x.f, .int .i64 x.t] 33)).cell? ⟨w.heap.size, 0, none⟩ = some (.int .i64 b.f) := (hch.b0.alloc _).cell (i := 0) rfl
    have b1 : (wr.alloc (.cells #[.int .i64 x.f, .int .i64 x.t] 33)).cell? ⟨w.heap.size, 1, none⟩ = some (.int .i64 b.t) := (hch.b0.alloc _).cell (i := 1) rfl
    clear hx hch hal
    go_wp2_with fail
    clear b0 b1 c0 c1
    change Calls Try.prog 37 #[x.val, b.val] _ _
    refine (rest_c x b _ HXS.out hbs).mono ?_
    rintro e w2 ⟨A, m, ca, rfl, hsp, hlo, hb2⟩
    have HB2 := Lib.hid (HA.out.trans (hb2.mono HA.out.size))
    have HW := Lib.hid (HS.out.own.below HB2.out)
    obtain ⟨K, hK⟩ : ∃ K, K = restL x b := ⟨_, rfl⟩
    rw [← hK] at hsp
    have HK := Lib.hid hK
    have hKl : K.length ≤ 2 := by rw [hK]; exact restL_len x b
    have HSP := Lib.hid hsp
    have hkl := cut_len (l.take i) b
    rw [List.length_take] at hkl
    have hm1 : m ≤ 2 := by have := hsp.1; omega
    have hsz : ((l.take i).flatMap (fun u => restL u b)).length + m ≤ 1000000000 := by omega
    have hbase : w.heap.size + 1 ≤ w2.heap.size := by have := HS.out.b0.lt; have := HB2.out.size; omega
    clear hsp hb2 hK hKl hlo
    go_wp2_with (at_builtin; refine wpl_append_sps rfl _ _ 49 22 33 rfl Try.underlying49 Try.underlying22 (w.heap.size + 1) _ _ rfl HW.out A m ca _ rfl HSP.out hsz hbase ?_)
    intro v3 w3 ho3 hg3
    have hb3 := ownR_grown HW.out hg3 (Nat.le_refl _) hbase
    have HO3 := Lib.hid ho3
    have HB3 := Lib.hid hb3
    clear ho3 hg3 hb3
    go_wp2_with fail
    go_roundw
    case rel =>
      refine ⟨i + 1, by omega, by go_num, ?_, ?_, ?_⟩
      · rw [cut_take b HX.out, ← HK.out]; exact HO3.out
      · exact (HS.out.b0.below HB2.out HS.out.b0.lt).below HB3.out (by omega)
      · exact (HS.out.on.trans (HB2.out.mono HS.out.on.size)).trans (HB3.out.mono (by omega))
    case measure => simp [intOf]; omega
  · obtain rfl : i = n := by omega
    have HT : Hid (l.take i = l) := Lib.hid (List.take_of_length_le (by have := HN.out; omega))
    have hji : ¬ ((i : Int) < (i : Int)) := by omega
    have hpb := HBK.out.below hch.on hlp
    have fz := hpb.frozen
    have d0 : wr.cell? ⟨p, 0, none⟩ = some (.slice a i c) := hpb.cell (i := 0) rfl
    have hown := hch.own
    rw [HT.out] at hown
    obtain ⟨A, ca, hv, hca, hsp, _⟩ := hown.sps
    obtain ⟨kl, hkl⟩ : ∃ kl, kl = (l.flatMap (fun u => restL u b)).length := ⟨_, rfl⟩
    have HKL := Lib.hid hkl
    have HSP := Lib.hid hsp; have HCA := Lib.hid hca
    rw [← hkl] at hv
    subst hv
    have HST : Hid (Blk (wr.setCell ⟨p, 0, none⟩ (.slice A kl ca)) p 51 #[.slice A kl ca, .bool true]) := Lib.hid (hpb.set 0 _)
    have HPB := Lib.hid hpb
    clear hch hkl hsp hca hown hpb
    go_wp2_with fail
    have ho1 := (Only.refl p wr).setCell (p := ⟨p, 0, none⟩) (.inl rfl) (.slice A kl ca)
    refine bodyPost_end (results_none rfl _ _ _) rfl ⟨rfl, ⟨A, ca, by rw [← HKL.out]; exact HST.out, ?_, HCA.out⟩, ?_⟩
    · exact HSP.out.only ho1 (set_far HPB.out HSP.out)
    · exact (Only.of_below HS.out.on p).setCell (.inl rfl) _
set_option maxHeartbeats 4000000 in
theorem cut_c (p : Nat) (l : List Sp) (a : Option Addr) (c : Nat) (x : Sp) (w : World) (h : IsSet w p l a c) (hn : l.length ≤ 100000) (hls : Smalls l) (hr : x.right = true) :
    Calls Try.prog 16 #[.pointer (some ⟨p, 0, none⟩), x.val] w fun e w' => e = .returned (.tuple #[.int .i64 (among l x), .int .i64 0]) ∧ (∃ a' c', IsSet w' p (cutL l x) a' c') ∧ Only p w w' := by
  have hal := (Below.refl w.heap.size w).alloc (Nat.le_refl _) (.cells #[.int .i64 x.f, .int .i64 x.t] 33)
  obtain ⟨X, hX⟩ : ∃ X, X = w.heap.size := ⟨_, rfl⟩
  have HX1 : Hid (Blk (w.alloc (.cells #[.int .i64 x.f, .int .i64 x.t] 33)) X 33 #[.int .i64 x.f, .int .i64 x.t]) := Lib.hid (by rw [hX]; exact Blk.new _ _ _)
  have HS1 := Lib.hid (h.below hal)
  have HB1 := Lib.hid hal
  have HXS := Lib.hid hX
  have hxs := Sp.right_small hr
  have HR := Lib.hid hr
  unfold Sp.val
  clear hal h hX hr
  go_enter Try.func16, Try.ntmps16
  go_wp2_with fail
  rw [← HXS.out]
  generalize w.alloc (.cells #[.int .i64 x.f, .int .i64 x.t] 33) = w2 at *
  refine (none_c p a l.length c w2 HS1.out.blk).mono ?_
  rintro e w' ⟨rfl, rfl⟩
  have x0 : w2.cell? ⟨X, 0, none⟩ = some (.int .i64 x.f) := HX1.out.cell (i := 0) rfl
  have x1 : w2.cell? ⟨X, 1, none⟩ = some (.int .i64 x.t) := HX1.out.cell (i := 1) rfl
  go_wp2_with fail
  clear x0 x1
  change Calls Try.prog 23 #[x.val] w2 _
  refine (right_c x w2).mono ?_
  rintro e w3 ⟨rfl, hb3⟩
  rw [HR.out]
  have HS3 := Lib.hid (HS1.out.below hb3)
  have HX3 := Lib.hid (HX1.out.below hb3 HX1.out.lt)
  have HB3 := Lib.hid (HB1.out.trans (hb3.mono HB1.out.size))
  have x0 : w3.cell? ⟨X, 0, none⟩ = some (.int .i64 x.f) := HX3.out.cell (i := 0) rfl
  have x1 : w3.cell? ⟨X, 1, none⟩ = some (.int .i64 x.t) := HX3.out.cell (i := 1) rfl
  clear hb3 HS1 HX1 HB1
  go_wp2_with fail
  clear x0 x1
  change Calls Try.prog 30 #[.pointer (some ⟨p, 0, none⟩), x.val] w3 _
  refine (among_c p l a c x w3 HS3.out (by omega) hls hxs).mono ?_
  rintro e w4 ⟨rfl, hb4⟩
  have HS4 := Lib.hid (HS3.out.below hb4)
  have HX4 := Lib.hid (HX3.out.below hb4 HX3.out.lt)
  have HB4 := Lib.hid (HB3.out.trans (hb4.mono HB3.out.size))
  obtain ⟨A, hA⟩ : ∃ A, A = among l x := ⟨_, rfl⟩
  have HA := Lib.hid hA
  rw [← hA]
  have x0 : w4.cell? ⟨X, 0, none⟩ = some (.int .i64 x.f) := HX4.out.cell (i := 0) rfl
  have x1 : w4.cell? ⟨X, 1, none⟩ = some (.int .i64 x.t) := HX4.out.cell (i := 1) rfl
  clear hb4 HS3 HX3 HB3 hA
  by_cases hp : 0 < A
  · have HCU : Hid (cutL l x = l.flatMap (fun u => restL u x)) := Lib.hid (by unfold cutL; rw [if_pos (by rw [← HA.out]; exact hp)])
    go_wp2_with fail
    clear x0 x1
    change Calls Try.prog 31 #[.pointer (some ⟨p, 0, none⟩), x.val, .func (.func 37) #[] #[]] w4 _
    refine (change_rest p l a c x w4 HS4.out (by omega) hls hxs).mono ?_
    rintro e w5 ⟨rfl, ⟨a', c', hs5⟩, ho5⟩
    have HS5 := Lib.hid hs5; have HO5 := Lib.hid ((Only.of_below HB4.out p).trans ho5)
    clear hs5 ho5
    go_wp2_with fail
    go_ret2
    exact ⟨by rw [← HA.out]; rfl, ⟨a', c', by rw [HCU.out]; exact HS5.out⟩, HO5.out⟩
  · have HCU : Hid (cutL l x = l) := Lib.hid (by unfold cutL; rw [if_neg (by rw [← HA.out]; exact hp)])
    clear x0 x1
    go_wp2_with fail
    go_ret2
    exact ⟨by rw [← HA.out]; rfl, ⟨a, c, by rw [HCU.out]; exact HS4.out⟩, Only.of_below HB4.out p⟩
end Go.Proofs.Ytlgpoaapmgcloaa
