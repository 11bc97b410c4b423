/- Spans: gaps, order, bytes: plain. -/
import Derived.Test.YtlgpoaapmgcloaaMa
import Derived.Test.YtlgpoaapmgcloaaWc
namespace Go.Proofs.Ytlgpoaapmgcloaa
set_option linter.unusedSimpArgs false
set_option linter.unusedVariables false

/-! ### Gaps as they are made -/
def restL (a b : Sp) : List Sp := [⟨a.f, min a.t b.f⟩, ⟨max a.f b.t, a.t⟩].filter (fun x => decide (x.len ≠ 0))
def lastS (out : List Sp) : Sp := out.getLast?.getD ⟨0, 0⟩
def gapsRun : List Sp → List Sp → List Sp
  | out, [] => out
  | out, a :: r => if (both (lastS out) a).len = 0 then gapsRun out r else if restL (lastS out) a = [] then out.dropLast else gapsRun (out.dropLast ++ restL (lastS out) a) r
def gapsL (l : List Sp) (x : Sp) : List Sp := if x.right = true ∧ x.len ≠ 0 then gapsRun [x] l else []
def wholeS : Sp := ⟨0, 4096⟩
theorem lastS_snoc (g : List Sp) (x : Sp) : lastS (g ++ [x]) = x := by unfold lastS; rw [List.getLast?_append]; rfl
theorem restL_eq (a b : Sp) : restL a b = (if (⟨a.f, min a.t b.f⟩ : Sp).len ≠ 0 then [⟨a.f, min a.t b.f⟩] else []) ++ (if (⟨max a.f b.t, a.t⟩ : Sp).len ≠ 0 then [⟨max a.f b.t, a.t⟩] else []) := by
  unfold restL
  rw [List.filter_cons, List.filter_cons, List.filter_nil]
  by_cases h1 : (⟨a.f, min a.t b.f⟩ : Sp).len = 0 <;> by_cases h2 : (⟨max a.f b.t, a.t⟩ : Sp).len = 0 <;> simp [h1, h2]
theorem gapsRun_eq {l : List Sp} : ∀ {b e : Int} {G : List Sp}, Can b l → b ≤ e ∧ e ≤ b + 1 → 0 ≤ e → e < 4096 → gapsRun (G ++ [⟨e, 4096⟩]) l = G ++ gapsFrom e l := by
  induction l with
  | nil =>
    intro b e G _ _ _ h4
    unfold gapsRun gapsFrom
    rw [if_pos h4]
  | cons a r ih =>
    intro b e G h he h0 h4
    obtain ⟨h1, h2, h3, h5⟩ := h
    unfold gapsRun gapsFrom
    rw [lastS_snoc, List.dropLast_concat]
    have hb : ¬ (both ⟨e, 4096⟩ a).len = 0 := by unfold both Sp.len; simp only; omega
    rw [if_neg hb, restL_eq]
    simp only
    have e1 : min 4096 a.f = a.f := by omega
    have e2 : max e a.t = a.t := by omega
    rw [e1, e2]
    by_cases q1 : e < a.f
    · have l1 : (⟨e, a.f⟩ : Sp).len ≠ 0 := by unfold Sp.len; simp only; omega
      rw [if_pos l1, if_pos q1]
      by_cases q2 : a.t < 4096
      · have l2 : (⟨a.t, 4096⟩ : Sp).len ≠ 0 := by unfold Sp.len; simp only; omega
        rw [if_pos l2, if_neg (by simp), ← List.append_assoc, ih h5 ⟨Int.le_refl _, by omega⟩ (by omega) q2, List.append_assoc]
        rfl
      · have l2 : ¬ (⟨a.t, 4096⟩ : Sp).len ≠ 0 := by unfold Sp.len; simp only; omega
        rw [if_neg l2, if_neg (by simp)]
        have hr : r = [] := by
          cases r with
          | nil => rfl
          | cons x y => have := h5.1; have := h5.2.1; have := h5.2.2.1; omega
        subst hr
        unfold gapsRun gapsFrom
        rw [if_neg q2]; simp
    · have l1 : ¬ (⟨e, a.f⟩ : Sp).len ≠ 0 := by unfold Sp.len; simp only; omega
      rw [if_neg l1, if_neg q1]
      by_cases q2 : a.t < 4096
      · have l2 : (⟨a.t, 4096⟩ : Sp).len ≠ 0 := by unfold Sp.len; simp only; omega
        rw [if_pos l2, if_neg (by simp), List.nil_append, ih h5 ⟨Int.le_refl _, by omega⟩ (by omega) q2]
      · have l2 : ¬ (⟨a.t, 4096⟩ : Sp).len ≠ 0 := by unfold Sp.len; simp only; omega
        rw [if_neg l2, if_pos (by simp)]
        have hr : r = [] := by
          cases r with
          | nil => rfl
          | cons x y => have := h5.1; have := h5.2.1; have := h5.2.2.1; omega
        subst hr
        unfold gapsFrom
        rw [if_neg q2]; simp
theorem gaps_whole {l : List Sp} (h : Can (-1) l) : gapsL l wholeS = gapsFrom 0 l := by
  unfold gapsL wholeS
  rw [if_pos (by decide)]
  have := gapsRun_eq (G := []) h ⟨by decide, by decide⟩ (Int.le_refl 0) (by decide)
  simpa using this
/-- The first number that is not in spans. -/
def gapL (l : List Sp) (n : Int) : Int := l.foldl (fun e x => if x.f ≤ e ∧ e < x.t then x.t else e) (min (max 0 n) 4096)
def cutL (l : List Sp) (x : Sp) : List Sp := if 0 < among l x then l.flatMap (fun a => restL a x) else l
/-- All numbers are there: one span. -/
theorem all_there {l : List Sp} (h : Can (-1) l) (hm : ∀ n, 0 ≤ n → n < 4096 → memS l n) : l = [wholeS] := by
  refine Can.one h (c := -1) ⟨by decide, by decide, by decide, trivial⟩ fun n => ?_
  constructor
  · intro hn
    have := h.above hn
    exact (memS_cons _ _ _).2 (.inl ⟨by show (0 : Int) ≤ n; omega, this.2⟩)
  · intro hn
    rcases (memS_cons _ _ _).1 hn with hn | hn
    · exact hm n hn.1 hn.2
    · exact absurd hn (memS_nil n)
/-! ### The gaps are added -/
theorem adding_gaps {l : List Sp} (h : Can (-1) l) (k : Nat) (g : Sp) (hg : (gapsFrom 0 l)[k]? = some g) : g.right = true ∧ among (((gapsFrom 0 l).take k).foldl addL l) g = 0 ∧ 0 < g.len := by
  have hr := gaps_right h (e := 0) ⟨by decide, by decide⟩ (Int.le_refl _) (by decide)
  have hmem := List.mem_of_getElem? hg
  obtain ⟨r1, r2, r3, r4⟩ := hr g hmem
  have hrt : ∀ x ∈ gapsFrom 0 l, x.right = true := fun x hx => by
    obtain ⟨q1, q2, q3, _⟩ := hr x hx
    unfold Sp.right; rw [decide_eq_true_eq]; omega
  refine ⟨hrt g hmem, ?_, by unfold Sp.len; omega⟩
  obtain ⟨a1, a2⟩ := adds h ((gapsFrom 0 l).take k) (fun x hx => hrt x (List.mem_of_mem_take hx))
  refine among_none (fun a ha => (a1.forall a ha).2.1) r2 fun n n1 n2 hn => ?_
  rcases (a2 n).1 hn with hn | hn
  · obtain ⟨y, hy, y1, y2⟩ := hn
    have hc := gaps_can h (e := 0) (c := -1) ⟨by decide, by decide⟩ (by decide)
    have hlt := (List.getElem?_eq_some_iff.1 hg).1
    have hsp : gapsFrom 0 l = (gapsFrom 0 l).take k ++ g :: (gapsFrom 0 l).drop (k + 1) := by
      have e := (List.take_append_drop k (gapsFrom 0 l)).symm
      rw [List.drop_eq_getElem_cons hlt, (List.getElem?_eq_some_iff.1 hg).2] at e
      exact e
    rw [hsp] at hc
    have key : ∀ (p q : List Sp) (b : Int), Can b (p ++ g :: q) → ∀ x ∈ p, x.t < g.f := by
      intro p
      induction p with
      | nil => intro q b _ x hx; simp at hx
      | cons u p ih =>
        intro q b hc x hx
        obtain ⟨c1, c2, c3, c4⟩ := hc
        rcases List.mem_cons.1 hx with rfl | hx
        · have : memS (p ++ g :: q) g.f := (memS_append _ _ _).2 (.inr ((memS_cons _ _ _).2 (.inl ⟨Int.le_refl _, r2⟩)))
          exact (Can.above c4 this).1
        · exact ih q u.t c4 x hx
    have := key _ _ _ hc y hy
    omega
  · exact r4 n n1 n2 hn
theorem gaps_full {l : List Sp} (h : Can (-1) l) : (gapsFrom 0 l).foldl addL l = [wholeS] := by
  have hr := gaps_right h (e := 0) ⟨by decide, by decide⟩ (Int.le_refl _) (by decide)
  obtain ⟨a1, a2⟩ := adds h (gapsFrom 0 l) (fun x hx => by
    obtain ⟨q1, q2, q3, _⟩ := hr x hx
    unfold Sp.right; rw [decide_eq_true_eq]; omega)
  refine all_there a1 fun n n1 n2 => (a2 n).2 ?_
  rcases gaps_cover h (e := 0) ⟨by decide, by decide⟩ n n1 n2 with q | q
  · exact .inr q
  · exact .inl q
/-! ### The order does not matter -/
def pieces (cut : Int) (x : Sp) : List Sp := [⟨max x.f (min x.t cut), x.t⟩, ⟨x.f, max x.f (min x.t cut)⟩, x]
theorem pieces_right {cut : Int} {x : Sp} (h : x.right = true) : ∀ y ∈ pieces cut x, y.right = true := by
  unfold Sp.right at h
  rw [decide_eq_true_eq] at h
  intro y hy
  unfold pieces at hy
  simp at hy
  unfold Sp.right
  rw [decide_eq_true_eq]
  rcases hy with rfl | rfl | rfl <;> (try simp only) <;> omega
theorem pieces_mem {cut : Int} {x : Sp} (h : x.right = true) (n : Int) : memS (pieces cut x) n ↔ x.f ≤ n ∧ n < x.t := by
  unfold Sp.right at h
  rw [decide_eq_true_eq] at h
  unfold pieces
  rw [memS_cons, memS_cons, memS_cons]
  simp only [memS_nil, or_false]
  omega
theorem any_order (l : List Sp) (cut : Int) (h : ∀ x ∈ l, x.right = true) : (l.reverse.flatMap (pieces cut)).foldl addL [] = l.foldl addL [] := by
  have hp : ∀ y ∈ l.reverse.flatMap (pieces cut), y.right = true := fun y hy => by
    obtain ⟨x, hx, hy⟩ := List.mem_flatMap.1 hy
    exact pieces_right (h x (List.mem_reverse.1 hx)) y hy
  obtain ⟨a1, a2⟩ := adds (m := []) trivial _ hp
  obtain ⟨b1, b2⟩ := adds (m := []) trivial l h
  refine Can.one a1 b1 fun n => ?_
  rw [a2 n, b2 n]
  have : memS (l.reverse.flatMap (pieces cut)) n ↔ memS l n := by
    constructor
    · rintro ⟨y, hy, y1, y2⟩
      obtain ⟨x, hx, hy⟩ := List.mem_flatMap.1 hy
      have hx := List.mem_reverse.1 hx
      exact ⟨x, hx, (pieces_mem (h x hx) n).1 ⟨y, hy, y1, y2⟩⟩
    · rintro ⟨x, hx, x1, x2⟩
      obtain ⟨y, hy, q⟩ := (pieces_mem (cut := cut) (h x hx) n).2 ⟨x1, x2⟩
      exact ⟨y, List.mem_flatMap.2 ⟨x, List.mem_reverse.2 hx, hy⟩, q⟩
  rw [this]
/-! ### Bytes -/
theorem takeGo_inv : ∀ (l : List By) (i m v : Nat) (j : Int), takeGo l i m = (v, j) → 0 < j → ∃ n t, l = numB n ++ t ∧ v = m + n * 128 ^ i ∧ j = ((i + (numB n).length : Nat) : Int) ∧ (0 < i → 0 < n) := by
  intro l
  induction l with
  | nil =>
    intro i m v j h hj
    rw [takeGo_nil] at h
    injection h with _ h
    split at h <;> omega
  | cons c t ih =>
    intro i m v j h hj
    by_cases h9 : 9 ≤ i
    · rw [takeGo_nine _ _ _ h9] at h
      injection h with _ h
      omega
    · by_cases hc : c.toNat < 128
      · by_cases hb : (0 < i ∧ c.toNat = 0) ∨ 4611686018427387904 < m + c.toNat * 128 ^ i
        · rw [takeGo_bad t (by omega) hc hb] at h
          injection h with _ h
          omega
        · rw [takeGo_yes t (by omega) hc hb] at h
          injection h with h1 h2
          refine ⟨c.toNat, t, ?_, h1.symm, ?_, fun hi => by omega⟩
          · rw [numB_lt hc]
            show c :: t = [BitVec.ofNat 8 c.toNat] ++ t
            rw [BitVec.ofNat_toNat]; simp
          · rw [numB_lt hc]; simp; omega
      · rw [takeGo_on t (by omega) (by omega)] at h
        obtain ⟨n, t', e1, e2, e3, e4⟩ := ih (i + 1) _ v j h hj
        have hn := e4 (by omega)
        have hlt := c.isLt
        refine ⟨c.toNat % 128 + n * 128, t', ?_, ?_, ?_, fun _ => by omega⟩
        · rw [numB_ge (by omega), show (c.toNat % 128 + n * 128) / 128 = n by omega, show (c.toNat % 128 + n * 128) % 128 + 128 = c.toNat by omega, BitVec.ofNat_toNat, e1]
          simp
        · rw [e2, Nat.add_mul, Nat.mul_assoc, Nat.pow_succ, Nat.mul_comm 128 (128 ^ i), Nat.add_assoc]
        · rw [e3, numB_ge (n := c.toNat % 128 + n * 128) (by omega), show (c.toNat % 128 + n * 128) / 128 = n by omega]
          simp; omega
theorem takeB_inv {l : List By} (h : 0 < (takeB l).2) : ∃ t, l = numB (takeB l).1 ++ t ∧ l.drop (takeB l).2.toNat = t := by
  obtain ⟨n, t, e1, e2, e3, _⟩ := takeGo_inv l 0 0 (takeB l).1 (takeB l).2 rfl h
  have e4 : (takeB l).1 = n := by rw [e2]; simp
  refine ⟨t, by rw [e4]; exact e1, ?_⟩
  rw [e3]
  simp only [Nat.zero_add, Int.toNat_natCast]
  conv => lhs; rw [e1]
  simp
/-- What is read is what would be laid. -/
theorem rnum_inv {l : List By} {most : Int} {s : RS} {n : Nat} (h : rnum ⟨l, 0⟩ most = (s, n, 0)) : s.e = 0 ∧ l = numB n ++ s.l ∧ (n : Int) ≤ most := by
  unfold rnum at h
  simp only [ne_eq, not_true_eq_false, if_false] at h
  split at h
  · injection h with _ h; injection h with _ h; cases h
  · split at h
    · injection h with _ h; injection h with _ h; cases h
    · rename_i h1 h2
      injection h with h3 h4
      injection h4 with h4 h5
      have hp : 0 < (takeB l).2 := by omega
      obtain ⟨t, e1, e2⟩ := takeB_inv hp
      subst h3
      refine ⟨rfl, ?_, by omega⟩
      simp only
      rw [e2, ← h4]
      exact e1
theorem rnum_laid {n : Nat} {most : Int} (t : List By) (hn : (n : Int) ≤ most) (h4 : n ≤ 4611686018427387904) : rnum ⟨numB n ++ t, 0⟩ most = (⟨t, 0⟩, n, 0) := by
  unfold rnum
  simp only [ne_eq, not_true_eq_false, if_false]
  rw [if_neg (by omega), takeB_num h4]
  have := numB_pos n
  rw [if_neg (by simp only; omega)]
  simp
def encFrom : Int → List Sp → List By
  | _, [] => []
  | last, x :: r => laidN [x.f - last, x.len] ++ encFrom x.t r
def rawB (l : List Sp) : List By := laidN [(l.length : Int)] ++ encFrom 0 l
/-- So many spans are read, behind others. -/
def readGo : Nat → RS → Int → List Sp → Option (RS × Int × List Sp)
  | 0, s, last, acc => some (s, last, acc)
  | k + 1, s, last, acc =>
    if (rnum s 4096).2.2 ≠ 0 then none
    else if ¬ (acc = [] ∨ last < last + ((rnum s 4096).2.1 : Int)) then none
    else if (rnum (rnum s 4096).1 4096).2.2 ≠ 0 then none
    else if ¬ (last + ((rnum s 4096).2.1 : Int) + ((rnum (rnum s 4096).1 4096).2.1 : Int) ≤ 4096 ∧ 0 < (rnum (rnum s 4096).1 4096).2.1) then none
    else readGo k (rnum (rnum s 4096).1 4096).1 (last + ((rnum s 4096).2.1 : Int) + ((rnum (rnum s 4096).1 4096).2.1 : Int)) (acc ++ [⟨last + ((rnum s 4096).2.1 : Int), last + ((rnum s 4096).2.1 : Int) + ((rnum (rnum s 4096).1 4096).2.1 : Int)⟩])
def readL (b : List By) : Option (List Sp) :=
  if (rnum ⟨b, 0⟩ 4096).2.2 ≠ 0 then none
  else match readGo (rnum ⟨b, 0⟩ 4096).2.1 (rnum ⟨b, 0⟩ 4096).1 0 [] with
    | none => none
    | some (s, _, l) => if (rend s).2 = 0 then some l else none
theorem laid2 (x y : Int) : laidN [x, y] = numB x.toNat ++ numB y.toNat := by simp [laidN]
theorem laid1 (x : Int) : laidN [x] = numB x.toNat := by simp [laidN]
theorem readGo_inv : ∀ (k : Nat) (l : List By) (last : Int) (acc : List Sp) (s : RS) (last' : Int) (out : List Sp), readGo k ⟨l, 0⟩ last acc = some (s, last', out) → 0 ≤ last → (acc = [] → last = 0) →
    ∃ m, out = acc ++ m ∧ m.length = k ∧ s.e = 0 ∧ l = encFrom last m ++ s.l ∧ (acc ≠ [] → Can last m) ∧ (acc = [] → Can (-1) m) := by
  intro k
  induction k with
  | zero =>
    intro l last acc s last' out h _ _
    unfold readGo at h
    injection h with h
    injection h with h1 h2
    injection h2 with h2 h3
    subst h1; subst h3
    exact ⟨[], by simp, rfl, rfl, rfl, fun _ => trivial, fun _ => trivial⟩
  | succ k ih =>
    intro l last acc s last' out h h0 ha
    unfold readGo at h
    split at h
    · cases h
    · split at h
      · cases h
      · split at h
        · cases h
        · split at h
          · cases h
          · rename_i g1 g2 g3 g4
            obtain ⟨s1, n1, e1, hr1⟩ : ∃ s1 n1 e1, rnum ⟨l, 0⟩ 4096 = (s1, n1, e1) := ⟨_, _, _, rfl⟩
            rw [hr1] at h g1 g2 g3 g4
            simp only at h g1 g2 g3 g4
            have g1 := Classical.not_not.1 g1
            subst g1
            obtain ⟨i1, i2, i3⟩ := rnum_inv hr1
            obtain ⟨l1, e1'⟩ := s1
            simp only at i1 i2
            subst i1
            obtain ⟨s2, n2, e2, hr2⟩ : ∃ s2 n2 e2, rnum ⟨l1, 0⟩ 4096 = (s2, n2, e2) := ⟨_, _, _, rfl⟩
            rw [hr2] at h g3 g4
            simp only at h g3 g4
            have g3 := Classical.not_not.1 g3
            subst g3
            obtain ⟨j1, j2, j3⟩ := rnum_inv hr2
            obtain ⟨l2, e2'⟩ := s2
            simp only at j1 j2
            subst j1
            have g2 := Classical.not_not.1 g2
            have g4 := Classical.not_not.1 g4
            obtain ⟨m, k1, k2, k3, k4, k5, k6⟩ := ih l2 _ _ s last' out h (by omega) (fun e => by simp at e)
            refine ⟨⟨last + n1, last + n1 + n2⟩ :: m, by rw [k1]; simp, by simp [k2], k3, ?_, fun hne => ?_, fun he => ?_⟩
            · unfold encFrom
              rw [laid2]
              unfold Sp.len
              simp only
              rw [show (last + (n1 : Int) - last).toNat = n1 by omega, show (max 0 (last + (n1 : Int) + (n2 : Int) - (last + (n1 : Int)))).toNat = n2 by omega, i2, j2]
              rw [k4]
              simp
            · refine ⟨?_, by simp only; omega, by simp only; omega, k5 (by simp)⟩
              rcases g2 with g2 | g2
              · exact absurd g2 hne
              · simp only; omega
            · refine ⟨by simp only; omega, by simp only; omega, by simp only; omega, k5 (by simp)⟩
/-- What is read is in order, and its bytes are those. -/
theorem read_raw {b : List By} {l : List Sp} (h : readL b = some l) : Can (-1) l ∧ rawB l = b := by
  unfold readL at h
  split at h
  · cases h
  · rename_i g1
    obtain ⟨s1, n1, e1, hr1⟩ : ∃ s1 n1 e1, rnum ⟨b, 0⟩ 4096 = (s1, n1, e1) := ⟨_, _, _, rfl⟩
    rw [hr1] at h g1
    simp only at h g1
    have g1 := Classical.not_not.1 g1
    subst g1
    obtain ⟨i1, i2, i3⟩ := rnum_inv hr1
    obtain ⟨l1, e1'⟩ := s1
    simp only at i1 i2
    subst i1
    split at h
    · cases h
    · rename_i s _ l' hg
      split at h
      · rename_i he
        injection h with h
        subst h
        obtain ⟨m, k1, k2, k3, k4, k5, k6⟩ := readGo_inv n1 l1 0 [] s _ l' hg (Int.le_refl _) (fun _ => rfl)
        simp only [List.nil_append] at k1
        subst k1
        refine ⟨k6 rfl, ?_⟩
        unfold rend at he
        have hs : s.l = [] := by
          by_cases hs : 0 < s.l.length
          · rw [if_pos ⟨k3, hs⟩] at he; cases he
          · exact List.eq_nil_of_length_eq_zero (by omega)
        unfold rawB
        rw [laid1, k2, i2, k4, hs]
        simp
      · cases h
theorem readGo_laid : ∀ (l : List Sp) (t : List By) (last : Int) (acc : List Sp), 0 ≤ last → (acc ≠ [] → Can last l) → (acc = [] → last = 0 ∧ Can (-1) l) → ∃ last', readGo l.length ⟨encFrom last l ++ t, 0⟩ last acc = some (⟨t, 0⟩, last', acc ++ l) := by
  intro l
  induction l with
  | nil => intro t last acc _ _ _; exact ⟨last, by simp [readGo, encFrom]⟩
  | cons x r ih =>
    intro t last acc h0 h1 h2
    have hx : last ≤ x.f ∧ (acc ≠ [] → last < x.f) ∧ x.f < x.t ∧ x.t ≤ 4096 ∧ Can x.t r := by
      by_cases ha : acc = []
      · obtain ⟨q1, q2, q3, q4, q5⟩ := h2 ha
        exact ⟨by omega, fun h => absurd ha h, q3, q4, q5⟩
      · obtain ⟨q2, q3, q4, q5⟩ := h1 ha
        exact ⟨by omega, fun _ => q2, q3, q4, q5⟩
    obtain ⟨x1, x2, x3, x4, x5⟩ := hx
    have e1 : encFrom last (x :: r) ++ t = numB (x.f - last).toNat ++ (numB (x.t - x.f).toNat ++ (encFrom x.t r ++ t)) := by
      show laidN [x.f - last, x.len] ++ encFrom x.t r ++ t = _
      rw [laid2]
      unfold Sp.len
      rw [show max 0 (x.t - x.f) = x.t - x.f by omega]
      simp
    obtain ⟨last', hi⟩ := ih t x.t (acc ++ [x]) (by omega) (fun _ => x5) (fun e => by simp at e)
    refine ⟨last', ?_⟩
    rw [e1, List.length_cons]
    unfold readGo
    rw [rnum_laid _ (by omega) (by omega)]
    simp only
    rw [rnum_laid _ (by omega) (by omega)]
    simp only
    have v1 : last + ((x.f - last).toNat : Int) = x.f := by omega
    have v2 : x.f + ((x.t - x.f).toNat : Int) = x.t := by omega
    rw [v1, v2]
    rw [if_neg (by simp), if_neg (fun hn => hn (by
      by_cases ha : acc = []
      · exact .inl ha
      · exact .inr (x2 ha))), if_neg (by simp), if_neg (fun hn => hn ⟨x4, by omega⟩)]
    rw [hi]
    simp
/-- What is laid is read. -/
theorem raw_read {l : List Sp} (h : Can (-1) l) (hl : l.length ≤ 4096) : readL (rawB l) = some l := by
  unfold readL rawB
  rw [laid1, rnum_laid _ (by omega) (by omega)]
  simp only
  obtain ⟨last', hg⟩ := readGo_laid l [] 0 [] (Int.le_refl _) (fun h => absurd rfl h) (fun _ => ⟨rfl, h⟩)
  rw [List.append_nil] at hg
  rw [if_neg (by simp), show ((l.length : Int)).toNat = l.length by omega, hg]
  simp [rend]
theorem Can.len {b : Int} {l : List Sp} (h : Can b l) : (l.length : Int) ≤ max 0 (4096 - b) := by
  induction l generalizing b with
  | nil => simp; omega
  | cons a r ih =>
    obtain ⟨h1, h2, h3, h4⟩ := h
    have := ih h4
    simp only [List.length_cons]
    omega
end Go.Proofs.Ytlgpoaapmgcloaa
