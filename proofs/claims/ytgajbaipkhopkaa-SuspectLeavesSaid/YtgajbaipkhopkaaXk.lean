/- The walk of SuspectPlays. -/
import Derived.Test.YtgajbaipkhopkaaXj
namespace Go.Proofs.Ytgajbaipkhopkaa
open Go.RowKit
set_option linter.unusedSimpArgs false
set_option linter.unusedVariables false

/-- A row of calls. -/
def Acts (w : World) (a : Option Addr) (n : Nat) (xs : List Ac) : Prop := xs.length = n ∧ ∀ (i : Nat) (x : Ac), xs[i]? = some x → ∃ g off, a = some ⟨g, off, none⟩ ∧ g < w.heap.size ∧
  w.cell? ⟨g, off + i * 3, none⟩ = some (.bool x.hear) ∧ w.cell? ⟨g, off + i * 3 + 1, none⟩ = some (.int .i64 x.place) ∧ w.cell? ⟨g, off + i * 3 + 2, none⟩ = some (.int .i64 x.n)
theorem Acts.below {w w' : World} {a : Option Addr} {n : Nat} {xs : List Ac} (h : Acts w a n xs) (hb : Below w.heap.size w w') : Acts w' a n xs :=
  ⟨h.1, fun i x hx => by
    obtain ⟨g, off, e, hg, c0, c1, c2⟩ := h.2 i x hx
    exact ⟨g, off, e, Nat.lt_of_lt_of_le hg hb.size, (hb.cell (p := ⟨g, _, none⟩) hg).trans c0, (hb.cell (p := ⟨g, _, none⟩) hg).trans c1, (hb.cell (p := ⟨g, _, none⟩) hg).trans c2⟩⟩

theorem NoW.below' {w w' : World} {v : Option Addr} (h : NoW w v) (hb : Below w.heap.size w w') : NoW w' v := h.below hb
theorem zero_none (w : World) : NoW (w.alloc (.cells #[.int .i64 0, .int .i64 0, .int .i64 0, .int .i64 0, .int .i64 0, .int .i64 0, .bool false, .int .i64 0, .int .i64 0, .bool false, .int .i64 0, .int .i64 0, .bool false, .int .i64 0, .int .i64 0, .bool false, .int .i64 0, .int .i64 0, .bool false, .int .i64 0, .int .i64 0, .bool false, .int .i64 0, .int .i64 0, .bool false, .int .i64 0, .int .i64 0, .bool false, .int .i64 0, .int .i64 0, .bool false] 58)) (some ⟨w.heap.size, 0, none⟩) :=
  .inr ⟨_, rfl, blk0 rfl⟩

set_option maxHeartbeats 800000 in
theorem rnew_no2 (c self wait : Int) (w : World) (h : newOk c self wait = false) :
    Calls Try.prog 10 #[.int .i64 c, .int .i64 self, .int .i64 wait] w fun e w' => e = .returned (.tuple #[.agg Z35, .int .i64 2]) ∧ Below w.heap.size w w' := by
  rw [← rnewOk_eq] at h
  unfold rnewOk at h
  obtain ⟨R, hR⟩ : ∃ R, R = rightB c := ⟨_, rfl⟩
  obtain ⟨S, hS⟩ : ∃ S, S = (decide (0 ≤ self) && decide (self < c)) := ⟨_, rfl⟩
  rw [← hR, ← hS] at h
  have HR := Lib.hid hR; have HS := Lib.hid hS
  clear hR hS
  have Hh := Lib.hid h; clear h
  have hcase : R = false ∨ (R = true ∧ S = false) ∨ (R = true ∧ S = true ∧ wait < 1) ∨ (R = true ∧ S = true ∧ 1 ≤ wait ∧ 1000000 < wait) := by
    have := Hh.out
    simp at this
    cases R
    · exact .inl rfl
    · cases S
      · exact .inr (.inl ⟨rfl, rfl⟩)
      · have := this rfl rfl
        by_cases h1 : 1 ≤ wait
        · exact .inr (.inr (.inr ⟨rfl, rfl, h1, this h1⟩))
        · exact .inr (.inr (.inl ⟨rfl, rfl, by omega⟩))
  clear Hh
  rcases hcase with rfl | ⟨rfl, rfl⟩ | ⟨rfl, rfl, h1⟩ | ⟨rfl, rfl, h1, h2⟩
  · go_enter Try.func10, Try.ntmps10
    go_wp2_with fail
    refine (rright_c _ _).mono ?_; rintro e w' ⟨rfl, rfl⟩
    rw [← HR.out]
    go_wp2_with (refine wpl_store_blk rfl 35 _ _ rfl w.heap.size 35 _ _ rfl rfl (Blk.new w 35 _) rfl (by kernel_rfl) (by kernel_rfl) ?_; intro w3 hB3 hO3 hz3)
    exact bodyPost_ret (results_cell2 rfl _ _ w.heap.size 35 _ _ rfl hB3 Try.underlying35 rfl (by kernel_rfl)) rfl ⟨rfl, below_cell (Below.refl _ _) rfl hO3 (Nat.le_refl _)⟩
  all_goals
    go_enter Try.func10, Try.ntmps10
    go_wp2_with fail
    refine (rright_c _ _).mono ?_; rintro e w' ⟨rfl, rfl⟩
    rw [← HR.out]
    go_wp2_with fail
    refine (rplace_c _ _ _).mono ?_; rintro e w' ⟨rfl, rfl⟩
    rw [← HS.out]
    go_wp2_with (refine wpl_store_blk rfl 35 _ _ rfl w.heap.size 35 _ _ rfl rfl (Blk.new w 35 _) rfl (by kernel_rfl) (by kernel_rfl) ?_; intro w3 hB3 hO3 hz3)
    exact bodyPost_ret (results_cell2 rfl _ _ w.heap.size 35 _ _ rfl hB3 Try.underlying35 rfl (by kernel_rfl)) rfl ⟨rfl, below_cell (Below.refl _ _) rfl hO3 (Nat.le_refl _)⟩


theorem one35 : Z35.all (·.oneCell') = true := by kernel_rfl
set_option maxHeartbeats 4000000 in
set_option maxRecDepth 100000 in
theorem plays_no (c self wait : Int) (a : Option Addr) (n cap : Nat) (w : World) (hn : n ≤ 50) (h : newOk c self wait = false) :
    Calls Try.prog 6 #[.int .i64 c, .int .i64 self, .int .i64 wait, .slice a n cap] w fun e w' => e = .returned (.bool true) ∧ Below w.heap.size w w' := by
  have H := Lib.hid h; clear h
  have hpar : n % 2 = 1 ∨ n % 2 = 0 := by omega
  have hnn : ¬ ((n : Int) > 50) := by omega
  go_enter Try.func6, Try.ntmps6
  go_wp2_with fail
  refine (new_no c self wait _ H.out).mono ?_
  rintro e w1 ⟨rfl, hb⟩
  have HB1 := Lib.hid hb
  clear hb
  go_wp2_with fail
  refine (rnew_no2 c self wait _ H.out).mono ?_
  rintro e w2 ⟨rfl, hb⟩
  have HB2 := Lib.hid (HB1.out.trans (hb.mono HB1.out.size))
  clear hb HB1
  obtain ⟨cs, hcs⟩ : ∃ cs, cs = Z35 := ⟨_, rfl⟩
  rw [← hcs]
  have HC1 : Hid (cs.size = 31) := Lib.hid (by rw [hcs]; rfl)
  have HC2 : Hid (cs.all (·.oneCell') = true) := Lib.hid (by rw [hcs]; exact one35)
  have HC3 : Hid ((Try.prog.info? 35).map (·.size) = some cs.size) := Lib.hid (by rw [HC1.out]; exact info35)
  clear hcs
  have hpi : (n : Int) % 2 = 1 ∨ (n : Int) % 2 = 0 := by omega
  rcases hpi with hp | hp
  · have hp' : ((n : Int) % 2 == 1) = true := by rw [hp]; rfl
    go_wp2_with (refine wpl_store_blk rfl 35 _ _ rfl w2.heap.size 35 _ cs rfl rfl (Blk.new w2 35 _) (by rw [HC1.out]; rfl) HC3.out HC2.out ?_; intro w4 hB4 hO4 hz4)
    have hb4 := HB2.out.trans (((Below.refl w2.heap.size w2).alloc (Nat.le_refl _) _).trans (hO4.below (B := w2.heap.size) (by simp) (Nat.le_refl _)) |>.mono HB2.out.size)
    have HNo := Lib.hid (zero_none w4)
    have hz : w4.heap.size = w2.heap.size + 1 := by rw [hz4]; simp
    rw [hz] at HNo
    have HB5 := Lib.hid (hb4.alloc hb4.size (.cells Z35 58))
    clear hB4 hO4 hz4 hb4
    unfold Z35 at HB5
    generalize (w4.alloc _) = w5 at HNo HB5 ⊢
    refine (tick_nil _ 1 _ HNo.out).mono ?_; rintro e w' ⟨rfl, rfl⟩
    go_wp2_with fail
    refine (hear_nil _ 0 _ HNo.out).mono ?_; rintro e w' ⟨rfl, rfl⟩
    go_wp2_with fail
    refine (num_any _ _).mono ?_; rintro e w' ⟨rfl, rfl⟩
    go_wp2_with fail
    refine (num_any _ _).mono ?_; rintro e w' ⟨rfl, rfl⟩
    go_wp2_with fail
    refine (susp_none _ 0 _ HNo.out).mono ?_; rintro e w' ⟨rfl, rfl⟩
    go_wp2_with fail
    refine (all_any _ [] _ (goes_none HNo.out)).mono ?_; rintro e w6 ⟨a6, d6, rfl, -, hb⟩
    have HN6 := Lib.hid (HNo.out.below hb)
    have HB6 := Lib.hid (HB5.out.trans (hb.mono HB5.out.size))
    have hz6 := hb.size
    clear hb
    rw [show (sus ([] : List Wd) ([] : List Wd).length).length = 0 from rfl]
    go_wp2_with fail
    refine (foremost_any _ [] _ (goes_none HN6.out)).mono ?_; rintro e w7 ⟨rfl, hb⟩
    have HN7 := Lib.hid (HN6.out.below hb)
    have HB7 := Lib.hid (HB6.out.trans (hb.mono HB6.out.size))
    clear hb
    rw [show ((fmo (sus ([] : List Wd) ([] : List Wd).length) : Nat) : Int) = 0 from rfl]
    go_wp2_with fail
    refine (now_none _ _ HN7.out).mono ?_; rintro e w' ⟨rfl, rfl⟩
    go_wp2_with fail
    refine (state_none _ _ HN7.out).mono ?_; rintro e w' ⟨rfl, rfl⟩
    go_wp2_with fail
    refine (copy_none _ _ HN7.out).mono ?_; rintro e w' ⟨rfl, rfl⟩
    go_wp2_with fail
    refine (same_nones _ none _ HN7.out (.inl rfl)).mono ?_; rintro e w' ⟨rfl, rfl⟩
    go_wp2_with fail
    refine (num_any _ _).mono ?_; rintro e w' ⟨rfl, rfl⟩
    go_wp2_with fail
    refine (works_any _).mono ?_; rintro e w8 ⟨rfl, hb⟩
    have HB8 := Lib.hid (HB7.out.trans (hb.mono HB7.out.size))
    clear hb
    go_wp2_with fail
    go_ret
    exact ⟨rfl, HB8.out⟩

  · have hp' : ((n : Int) % 2 == 1) = false := by rw [hp]; rfl
    go_wp2_with (refine wpl_store_blk rfl 35 _ _ rfl w2.heap.size 35 _ cs rfl rfl (Blk.new w2 35 _) (by rw [HC1.out]; rfl) HC3.out HC2.out ?_; intro w4 hB4 hO4 hz4)
    have hb4 := HB2.out.trans (((Below.refl w2.heap.size w2).alloc (Nat.le_refl _) _).trans (hO4.below (B := w2.heap.size) (by simp) (Nat.le_refl _)) |>.mono HB2.out.size)
    have HNo : Hid (NoW w4 none) := Lib.hid (.inl rfl)
    have HB5 := Lib.hid hb4
    clear hB4 hO4 hz4 hb4
    refine (tick_nil _ 1 _ HNo.out).mono ?_; rintro e w' ⟨rfl, rfl⟩
    go_wp2_with fail
    refine (hear_nil _ 0 _ HNo.out).mono ?_; rintro e w' ⟨rfl, rfl⟩
    go_wp2_with fail
    refine (num_any _ _).mono ?_; rintro e w' ⟨rfl, rfl⟩
    go_wp2_with fail
    refine (num_any _ _).mono ?_; rintro e w' ⟨rfl, rfl⟩
    go_wp2_with fail
    refine (susp_none _ 0 _ HNo.out).mono ?_; rintro e w' ⟨rfl, rfl⟩
    go_wp2_with fail
    refine (all_any _ [] _ (goes_none HNo.out)).mono ?_; rintro e w6 ⟨a6, d6, rfl, -, hb⟩
    have HN6 := Lib.hid (HNo.out.below hb)
    have HB6 := Lib.hid (HB5.out.trans (hb.mono HB5.out.size))
    have hz6 := hb.size
    clear hb
    rw [show (sus ([] : List Wd) ([] : List Wd).length).length = 0 from rfl]
    go_wp2_with fail
    refine (foremost_any _ [] _ (goes_none HN6.out)).mono ?_; rintro e w7 ⟨rfl, hb⟩
    have HN7 := Lib.hid (HN6.out.below hb)
    have HB7 := Lib.hid (HB6.out.trans (hb.mono HB6.out.size))
    clear hb
    rw [show ((fmo (sus ([] : List Wd) ([] : List Wd).length) : Nat) : Int) = 0 from rfl]
    go_wp2_with fail
    refine (now_none _ _ HN7.out).mono ?_; rintro e w' ⟨rfl, rfl⟩
    go_wp2_with fail
    refine (state_none _ _ HN7.out).mono ?_; rintro e w' ⟨rfl, rfl⟩
    go_wp2_with fail
    refine (copy_none _ _ HN7.out).mono ?_; rintro e w' ⟨rfl, rfl⟩
    go_wp2_with fail
    refine (same_nones _ none _ HN7.out (.inl rfl)).mono ?_; rintro e w' ⟨rfl, rfl⟩
    go_wp2_with fail
    refine (num_any _ _).mono ?_; rintro e w' ⟨rfl, rfl⟩
    go_wp2_with fail
    refine (works_any _).mono ?_; rintro e w8 ⟨rfl, hb⟩
    have HB8 := Lib.hid (HB7.out.trans (hb.mono HB7.out.size))
    clear hb
    go_wp2_with fail
    go_ret
    exact ⟨rfl, HB8.out⟩

end Go.Proofs.Ytgajbaipkhopkaa
