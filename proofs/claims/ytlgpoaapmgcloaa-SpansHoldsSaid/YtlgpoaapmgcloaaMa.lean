/- Spans: plain. -/
namespace Go.Proofs.Ytlgpoaapmgcloaa
set_option linter.unusedSimpArgs false
set_option linter.unusedVariables false

/-- A span. -/
structure Sp where
  f : Int
  t : Int
theorem Sp.ext' {a b : Sp} (h1 : a.f = b.f) (h2 : a.t = b.t) : a = b := by cases a; cases b; simp at h1 h2; subst h1; subst h2; rfl
instance : DecidableEq Sp := fun a b => decidable_of_iff (a.f = b.f ∧ a.t = b.t) ⟨fun h => Sp.ext' h.1 h.2, fun h => by rw [h]; exact ⟨rfl, rfl⟩⟩
/-- May a span be? -/
def Sp.right (x : Sp) : Bool := decide (0 ≤ x.f ∧ x.f ≤ x.t ∧ x.t ≤ 4096)
def Sp.len (x : Sp) : Int := max 0 (x.t - x.f)
def both (a b : Sp) : Sp := ⟨max a.f b.f, min a.t b.t⟩
def sumG (g : Sp → Int) (l : List Sp) : Int := l.foldl (fun s a => s + g a) 0
theorem sumG_snoc (g : Sp → Int) (l : List Sp) (x : Sp) : sumG g (l ++ [x]) = sumG g l + g x := by unfold sumG; rw [List.foldl_append]; rfl
theorem sumG_from (g : Sp → Int) : ∀ (l : List Sp) (s : Int), l.foldl (fun s a => s + g a) s = s + sumG g l := by
  intro l
  induction l with
  | nil => intro s; simp [sumG]
  | cons a r ih =>
    intro s
    unfold sumG
    rw [List.foldl_cons, List.foldl_cons, ih, ih]
    omega
theorem sumG_cons (g : Sp → Int) (a : Sp) (r : List Sp) : sumG g (a :: r) = g a + sumG g r := by
  show List.foldl _ (0 + g a) r = _
  rw [sumG_from]; omega
theorem sumG_nil (g : Sp → Int) : sumG g [] = 0 := rfl
/-- How many numbers of a span are in spans. -/
def among (l : List Sp) (x : Sp) : Int := sumG (fun a => (both a x).len) l
theorem among_cons (a : Sp) (r : List Sp) (x : Sp) : among (a :: r) x = (both a x).len + among r x := sumG_cons _ a r
theorem among_nil (x : Sp) : among [] x = 0 := rfl
theorem among_pos (l : List Sp) (x : Sp) : 0 ≤ among l x := by
  induction l with
  | nil => exact Int.le_refl _
  | cons a r ih => rw [among_cons]; unfold Sp.len; omega

/-- Spans that rise, none empty, none touching another one; all begin behind b. -/
def Can : Int → List Sp → Prop
  | _, [] => True
  | b, a :: r => b < a.f ∧ a.f < a.t ∧ a.t ≤ 4096 ∧ Can a.t r
theorem Can.mono {b c : Int} {l : List Sp} (h : Can b l) (hc : c ≤ b) : Can c l := by
  cases l with
  | nil => exact trivial
  | cons a r => exact ⟨by have := h.1; omega, h.2.1, h.2.2.1, h.2.2.2⟩
/-- Is a number in spans? -/
def memS (l : List Sp) (n : Int) : Prop := ∃ a ∈ l, a.f ≤ n ∧ n < a.t
theorem memS_nil (n : Int) : ¬ memS [] n := fun ⟨_, h, _⟩ => by simp at h
theorem memS_cons (a : Sp) (r : List Sp) (n : Int) : memS (a :: r) n ↔ (a.f ≤ n ∧ n < a.t) ∨ memS r n := by
  unfold memS
  simp
theorem memS_append (l r : List Sp) (n : Int) : memS (l ++ r) n ↔ memS l n ∨ memS r n := by
  unfold memS
  simp only [List.mem_append]
  constructor
  · rintro ⟨a, h | h, h2⟩
    · exact .inl ⟨a, h, h2⟩
    · exact .inr ⟨a, h, h2⟩
  · rintro (⟨a, h, h2⟩ | ⟨a, h, h2⟩)
    · exact ⟨a, .inl h, h2⟩
    · exact ⟨a, .inr h, h2⟩
theorem Can.above {b : Int} {l : List Sp} (h : Can b l) {n : Int} (hm : memS l n) : b < n ∧ n < 4096 := by
  induction l generalizing b with
  | nil => exact absurd hm (memS_nil n)
  | cons a r ih =>
    obtain ⟨h1, h2, h3, h4⟩ := h
    rcases (memS_cons a r n).1 hm with h5 | h5
    · omega
    · have := ih h4 h5; omega
theorem Can.forall {b : Int} {l : List Sp} (h : Can b l) : ∀ a ∈ l, b < a.f ∧ a.f < a.t ∧ a.t ≤ 4096 := by
  induction l generalizing b with
  | nil => intro a ha; simp at ha
  | cons x r ih =>
    obtain ⟨h1, h2, h3, h4⟩ := h
    intro a ha
    rcases List.mem_cons.1 ha with rfl | ha
    · exact ⟨h1, h2, h3⟩
    · have := ih h4 a ha; omega
/-- One set, one list. -/
theorem Can.one {b c : Int} {l m : List Sp} (h : Can b l) (h' : Can c m) (hm : ∀ n, memS l n ↔ memS m n) : l = m := by
  induction l generalizing b c m with
  | nil =>
    cases m with
    | nil => rfl
    | cons a r =>
      exact absurd ((hm a.f).2 ((memS_cons _ _ _).2 (.inl ⟨Int.le_refl _, h'.2.1⟩))) (memS_nil _)
  | cons a r ih =>
    cases m with
    | nil => exact absurd ((hm a.f).1 ((memS_cons _ _ _).2 (.inl ⟨Int.le_refl _, h.2.1⟩))) (memS_nil _)
    | cons a' r' =>
      obtain ⟨p1, p2, p3, p4⟩ := h
      obtain ⟨q1, q2, q3, q4⟩ := h'
      have e1 : a.f = a'.f := by
        have x1 := (memS_cons _ _ _).1 ((hm a.f).1 ((memS_cons _ _ _).2 (.inl ⟨Int.le_refl _, p2⟩)))
        have x2 := (memS_cons _ _ _).1 ((hm a'.f).2 ((memS_cons _ _ _).2 (.inl ⟨Int.le_refl _, q2⟩)))
        rcases x1 with x1 | x1
        · rcases x2 with x2 | x2
          · omega
          · have := p4.above x2; omega
        · have := q4.above x1
          rcases x2 with x2 | x2
          · omega
          · have := p4.above x2; omega
      have e2 : a.t = a'.t := by
        by_cases hlt : a.t < a'.t
        · have x1 := (memS_cons _ _ _).1 ((hm a.t).2 ((memS_cons _ _ _).2 (.inl ⟨by omega, hlt⟩)))
          rcases x1 with x1 | x1
          · omega
          · have := p4.above x1; omega
        · by_cases hgt : a'.t < a.t
          · have x1 := (memS_cons _ _ _).1 ((hm a'.t).1 ((memS_cons _ _ _).2 (.inl ⟨by omega, hgt⟩)))
            rcases x1 with x1 | x1
            · omega
            · have := q4.above x1; omega
          · omega
      have e : a = a' := Sp.ext' e1 e2
      subst e
      rw [ih p4 q4 ?_]
      intro n
      constructor
      · intro hn
        have := p4.above hn
        rcases (memS_cons _ _ _).1 ((hm n).1 ((memS_cons _ _ _).2 (.inr hn))) with x | x
        · omega
        · exact x
      · intro hn
        have := q4.above hn
        rcases (memS_cons _ _ _).1 ((hm n).2 ((memS_cons _ _ _).2 (.inr hn))) with x | x
        · omega
        · exact x

/-! ### Adding -/
def apartB (a b : Sp) : Bool := decide (a.t < b.f ∨ b.t < a.f)
def kept (l : List Sp) (b : Sp) : List Sp := l.filter (fun a => apartB a b)
def growG (b : Sp) (x a : Sp) : Sp := if apartB a b then x else ⟨min a.f x.f, max a.t x.t⟩
def grown (l : List Sp) (b x : Sp) : Sp := l.foldl (growG b) x
/-- Where a span goes among others. -/
def place (k : List Sp) (y : Sp) : Nat := (k.takeWhile (fun a => decide (a.f < y.f))).length
def insL (k : List Sp) (y : Sp) : List Sp := k.takeWhile (fun a => decide (a.f < y.f)) ++ y :: k.dropWhile (fun a => decide (a.f < y.f))
def addL (l : List Sp) (x : Sp) : List Sp := if x.len - among l x = 0 then l else insL (kept l x) (grown l x x)
theorem kept_cons (a : Sp) (r : List Sp) (b : Sp) : kept (a :: r) b = if apartB a b then a :: kept r b else kept r b := by
  unfold kept; rw [List.filter_cons]
theorem grown_cons (a : Sp) (r : List Sp) (b x : Sp) : grown (a :: r) b x = grown r b (growG b x a) := rfl
theorem kept_right {b : Int} {l : List Sp} {x : Sp} (h : Can b l) (hb : x.t ≤ b) (y : Sp) : kept l x = l ∧ grown l x y = y := by
  induction l generalizing b with
  | nil => exact ⟨rfl, rfl⟩
  | cons a r ih =>
    obtain ⟨h1, h2, h3, h4⟩ := h
    have ha : apartB a x = true := by unfold apartB; rw [decide_eq_true_eq]; omega
    have := ih h4 (by omega)
    rw [kept_cons, grown_cons, if_pos ha, growG, if_pos ha]
    exact ⟨by rw [this.1], this.2⟩
theorem touching {c b : Int} {l : List Sp} {x y : Sp} (h : Can b l) (hb : x.f ≤ b) (hc : c < y.f) (hy : y.f < y.t) (hy4 : y.t ≤ 4096) (hx : y.f ≤ x.f ∧ x.t ≤ y.t) (hyb : y.t ≤ max x.t b) (hby : b ≤ y.t) :
    Can c (grown l x y :: kept l x) ∧ (grown l x y).f = y.f ∧ ∀ n, memS (grown l x y :: kept l x) n ↔ (y.f ≤ n ∧ n < y.t) ∨ memS l n := by
  induction l generalizing b y with
  | nil =>
    refine ⟨⟨hc, hy, hy4, trivial⟩, rfl, fun n => ?_⟩
    show memS [y] n ↔ _
    rw [memS_cons]
  | cons a r ih =>
    obtain ⟨h1, h2, h3, h4⟩ := h
    rw [grown_cons, kept_cons]
    by_cases hr : x.t < a.f
    · have ha : apartB a x = true := by unfold apartB; rw [decide_eq_true_eq]; omega
      have hk := kept_right h4 (by omega : x.t ≤ a.t) y
      rw [growG, if_pos ha, if_pos ha, hk.1, hk.2]
      refine ⟨⟨hc, hy, hy4, by omega, h2, h3, h4⟩, rfl, fun n => ?_⟩
      rw [memS_cons]
    · have ha : ¬ apartB a x = true := by unfold apartB; rw [decide_eq_true_eq]; omega
      rw [growG, if_neg ha, if_neg ha]
      obtain ⟨i1, i2, i3⟩ := ih (y := ⟨min a.f y.f, max a.t y.t⟩) h4 (by omega) (by simp only; omega) (by simp only; omega) (by simp only; omega) (by simp only; omega) (by simp only; omega) (by simp only; omega)
      refine ⟨i1, by rw [i2]; simp only; omega, fun n => ?_⟩
      rw [i3 n, memS_cons]
      simp only
      constructor
      · rintro (h | h)
        · by_cases hn : n < y.t
          · exact .inl ⟨by omega, hn⟩
          · exact .inr (.inl (by omega))
        · exact .inr (.inr h)
      · rintro (h | h | h)
        · exact .inl (by omega)
        · exact .inl (by omega)
        · exact .inr h
theorem takeWhile_none {k : List Sp} {c : Int} {y : Sp} (h : Can c k) (hy : y.f ≤ c) : k.takeWhile (fun a => decide (a.f < y.f)) = [] ∧ k.dropWhile (fun a => decide (a.f < y.f)) = k := by
  cases k with
  | nil => exact ⟨rfl, rfl⟩
  | cons a r =>
    have : ¬ (a.f < y.f) := by have := h.1; omega
    simp [List.takeWhile_cons, List.dropWhile_cons, this]
/-- Adding keeps spans in order, and adds just these numbers. -/
theorem inserted {b : Int} {l : List Sp} {x : Sp} (h : Can b l) (hb : b < x.f) (hx : x.f < x.t) (hx4 : x.t ≤ 4096) :
    Can b (insL (kept l x) (grown l x x)) ∧ b < (grown l x x).f ∧ ∀ n, memS (insL (kept l x) (grown l x x)) n ↔ (x.f ≤ n ∧ n < x.t) ∨ memS l n := by
  induction l generalizing b with
  | nil =>
    refine ⟨⟨hb, hx, hx4, trivial⟩, hb, fun n => ?_⟩
    show memS [x] n ↔ _
    rw [memS_cons]
  | cons a r ih =>
    have hh := h
    obtain ⟨h1, h2, h3, h4⟩ := h
    by_cases hl : a.t < x.f
    · have ha : apartB a x = true := by unfold apartB; rw [decide_eq_true_eq]; omega
      obtain ⟨i1, i2, i3⟩ := ih h4 hl
      rw [kept_cons, grown_cons, growG, if_pos ha, if_pos ha]
      have hlt : a.f < (grown r x x).f := by omega
      have e : insL (a :: kept r x) (grown r x x) = a :: insL (kept r x) (grown r x x) := by
        unfold insL
        simp [List.takeWhile_cons, List.dropWhile_cons, hlt]
      rw [e]
      refine ⟨⟨h1, h2, h3, i1⟩, by omega, fun n => ?_⟩
      rw [memS_cons, i3 n, memS_cons]
      constructor
      · rintro (h | h | h)
        · exact .inr (.inl h)
        · exact .inl h
        · exact .inr (.inr h)
      · rintro (h | h | h)
        · exact .inr (.inl h)
        · exact .inl h
        · exact .inr (.inr h)
    · by_cases hr : x.t < a.f
      · have hc : Can x.t (a :: r) := ⟨by omega, h2, h3, h4⟩
        have hk := kept_right hc (Int.le_refl x.t) x
        rw [hk.1, hk.2]
        have ht : ¬ (a.f < x.f) := by omega
        have e : insL (a :: r) x = x :: a :: r := by
          unfold insL
          simp [List.takeWhile_cons, List.dropWhile_cons, ht]
        rw [e]
        refine ⟨⟨hb, hx, hx4, hr, h2, h3, h4⟩, hb, fun n => ?_⟩
        rw [memS_cons]
      · have ha : ¬ apartB a x = true := by unfold apartB; rw [decide_eq_true_eq]; omega
        rw [kept_cons, grown_cons, growG, if_neg ha, if_neg ha]
        obtain ⟨i1, i2, i3⟩ := touching (c := b) (b := a.t) (x := x) (y := ⟨min a.f x.f, max a.t x.t⟩) h4 (by omega) (by simp only; omega) (by simp only; omega) (by simp only; omega) (by simp only; omega) (by simp only; omega) (by simp only; omega)
        have hw := takeWhile_none (y := grown r x ⟨min a.f x.f, max a.t x.t⟩) i1.2.2.2 (by have := i1.2.1; exact Int.le_of_lt this)
        have e : insL (kept r x) (grown r x ⟨min a.f x.f, max a.t x.t⟩) = grown r x ⟨min a.f x.f, max a.t x.t⟩ :: kept r x := by
          unfold insL
          rw [hw.1, hw.2]; rfl
        rw [e]
        refine ⟨i1, by rw [i2]; simp only; omega, fun n => ?_⟩
        rw [i3 n, memS_cons]
        simp only
        constructor
        · rintro (h | h)
          · by_cases hn : x.f ≤ n ∧ n < x.t
            · exact .inl hn
            · exact .inr (.inl (by omega))
          · exact .inr (.inr h)
        · rintro (h | h | h)
          · exact .inl (by omega)
          · exact .inl (by omega)
          · exact .inr h
theorem among_le {b : Int} {l : List Sp} {x : Sp} (h : Can b l) : among l x ≤ max 0 (x.t - max x.f (b + 1)) := by
  induction l generalizing b with
  | nil => rw [among_nil]; omega
  | cons a r ih =>
    obtain ⟨h1, h2, h3, h4⟩ := h
    have := ih h4
    rw [among_cons]
    unfold Sp.len both
    simp only
    omega
theorem among_all {b : Int} {l : List Sp} {x : Sp} (h : Can b l) (hx : x.f < x.t) (e : among l x = x.len) : ∀ n, x.f ≤ n → n < x.t → memS l n := by
  induction l generalizing b with
  | nil => rw [among_nil] at e; unfold Sp.len at e; omega
  | cons a r ih =>
    obtain ⟨h1, h2, h3, h4⟩ := h
    have hle := among_le (x := x) h4
    rw [among_cons] at e
    intro n hn1 hn2
    rw [memS_cons]
    unfold Sp.len both at e
    simp only at e
    by_cases hl : a.t ≤ x.f
    · exact .inr (ih h4 (by unfold Sp.len; omega) n hn1 hn2)
    · exact .inl (by omega)
theorem among_none {l : List Sp} {x : Sp} (hx : ∀ a ∈ l, a.f < a.t) (hx2 : x.f < x.t) (h : ∀ n, x.f ≤ n → n < x.t → ¬ memS l n) : among l x = 0 := by
  induction l with
  | nil => rfl
  | cons a r ih =>
    rw [among_cons, ih (fun a ha => hx a (List.mem_cons_of_mem _ ha)) (fun n h1 h2 h3 => h n h1 h2 ((memS_cons _ _ _).2 (.inr h3)))]
    have h1 := hx a (List.mem_cons_self ..)
    unfold Sp.len both
    simp only
    by_cases hp : max a.f x.f < min a.t x.t
    · exact absurd ((memS_cons _ _ _).2 (.inl ⟨by omega, by omega⟩)) (h (max a.f x.f) (by omega) (by omega))
    · omega
theorem added {l : List Sp} {x : Sp} (h : Can (-1) l) (hx : x.right = true) : Can (-1) (addL l x) ∧ ∀ n, memS (addL l x) n ↔ (x.f ≤ n ∧ n < x.t) ∨ memS l n := by
  unfold Sp.right at hx
  rw [decide_eq_true_eq] at hx
  unfold addL
  by_cases h0 : x.len - among l x = 0
  · rw [if_pos h0]
    refine ⟨h, fun n => ⟨fun hn => .inr hn, ?_⟩⟩
    rintro (hn | hn)
    · by_cases hlt : x.f < x.t
      · exact among_all h hlt (by omega) n hn.1 hn.2
      · omega
    · exact hn
  · rw [if_neg h0]
    have hlt : x.f < x.t := by
      have := among_pos l x
      unfold Sp.len at h0
      have hle := among_le (x := x) h
      omega
    have := inserted h (by omega) hlt hx.2.2
    exact ⟨this.1, this.2.2⟩
/-- A set out of spans. -/
def setL (l : List Sp) : List Sp := l.foldl addL []
theorem setL_snoc (l : List Sp) (x : Sp) : setL (l ++ [x]) = addL (setL l) x := by unfold setL; rw [List.foldl_append]; rfl
theorem adds {m : List Sp} (hm : Can (-1) m) : ∀ (l : List Sp), (∀ x ∈ l, x.right = true) → Can (-1) (l.foldl addL m) ∧ ∀ n, memS (l.foldl addL m) n ↔ memS l n ∨ memS m n := by
  intro l
  induction l generalizing m with
  | nil => intro _; exact ⟨hm, fun n => ⟨fun h => .inr h, fun h => h.resolve_left (memS_nil n)⟩⟩
  | cons a r ih =>
    intro hr
    have h1 := added hm (hr a (List.mem_cons_self ..))
    have h2 := ih h1.1 (fun x hx => hr x (List.mem_cons_of_mem _ hx))
    refine ⟨h2.1, fun n => ?_⟩
    rw [List.foldl_cons, h2.2 n, h1.2 n, memS_cons]
    constructor
    · rintro (h | h | h)
      · exact .inl (.inr h)
      · exact .inl (.inl h)
      · exact .inr h
    · rintro ((h | h) | h)
      · exact .inr (.inl h)
      · exact .inl h
      · exact .inr (.inr h)
/-! ### Gaps -/
def gapsFrom : Int → List Sp → List Sp
  | e, [] => if e < 4096 then [⟨e, 4096⟩] else []
  | e, a :: r => if e < a.f then ⟨e, a.f⟩ :: gapsFrom a.t r else gapsFrom a.t r
theorem gaps_sum {b e : Int} {l : List Sp} (h : Can b l) (he : b ≤ e ∧ e ≤ b + 1) (h4 : e ≤ 4096) : sumG Sp.len l + sumG Sp.len (gapsFrom e l) = 4096 - e := by
  induction l generalizing b e with
  | nil =>
    unfold gapsFrom
    split
    · rw [sumG_cons, sumG_nil]; simp only [sumG_nil, Sp.len]; omega
    · simp only [sumG_nil]; omega
  | cons a r ih =>
    obtain ⟨h1, h2, h3, h5⟩ := h
    have := ih h5 ⟨Int.le_refl _, by omega⟩ h3
    unfold gapsFrom
    rw [sumG_cons]
    split
    · rw [sumG_cons]; unfold Sp.len at *; simp only; omega
    · unfold Sp.len at *; omega
theorem gaps_right {b e : Int} {l : List Sp} (h : Can b l) (he : b ≤ e ∧ e ≤ b + 1) (h0 : 0 ≤ e) (h4 : e ≤ 4096) : ∀ g ∈ gapsFrom e l, e ≤ g.f ∧ g.f < g.t ∧ g.t ≤ 4096 ∧ ∀ n, g.f ≤ n → n < g.t → ¬ memS l n := by
  induction l generalizing b e with
  | nil =>
    unfold gapsFrom
    split
    · intro g hg; simp at hg; subst hg; exact ⟨Int.le_refl _, by simp only; omega, Int.le_refl _, fun n _ _ => memS_nil n⟩
    · intro g hg; simp at hg
  | cons a r ih =>
    obtain ⟨h1, h2, h3, h5⟩ := h
    have hi := ih h5 ⟨Int.le_refl _, by omega⟩ (by omega) h3
    have key : ∀ g ∈ gapsFrom a.t r, e ≤ g.f ∧ g.f < g.t ∧ g.t ≤ 4096 ∧ ∀ n, g.f ≤ n → n < g.t → ¬ memS (a :: r) n := by
      intro g hg
      obtain ⟨i1, i2, i3, i4⟩ := hi g hg
      refine ⟨by omega, i2, i3, fun n n1 n2 hm => ?_⟩
      rcases (memS_cons _ _ _).1 hm with hm | hm
      · omega
      · exact i4 n n1 n2 hm
    unfold gapsFrom
    split
    · intro g hg
      rcases List.mem_cons.1 hg with rfl | hg
      · refine ⟨Int.le_refl _, by assumption, by simp only; omega, fun n n1 n2 hm => ?_⟩
        simp only at n1 n2
        rcases (memS_cons _ _ _).1 hm with hm | hm
        · omega
        · have := h5.above hm; omega
      · exact key g hg
    · exact key
theorem gaps_cover {b e : Int} {l : List Sp} (h : Can b l) (he : b ≤ e ∧ e ≤ b + 1) : ∀ n, e ≤ n → n < 4096 → memS l n ∨ memS (gapsFrom e l) n := by
  induction l generalizing b e with
  | nil =>
    intro n h1 h2
    right
    unfold gapsFrom
    rw [if_pos (by omega)]
    exact ⟨_, List.mem_cons_self .., h1, h2⟩
  | cons a r ih =>
    obtain ⟨h1, h2, h3, h5⟩ := h
    intro n n1 n2
    have hi := ih h5 ⟨Int.le_refl _, by omega⟩ n
    rw [memS_cons]
    unfold gapsFrom
    split
    · rw [memS_cons]
      simp only
      by_cases q1 : n < a.f
      · exact .inr (.inl ⟨n1, q1⟩)
      · by_cases q2 : n < a.t
        · exact .inl (.inl ⟨by omega, q2⟩)
        · rcases hi (by omega) n2 with hi | hi
          · exact .inl (.inr hi)
          · exact .inr (.inr hi)
    · by_cases q2 : n < a.t
      · exact .inl (.inl ⟨by omega, q2⟩)
      · rcases hi (by omega) n2 with hi | hi
        · exact .inl (.inr hi)
        · exact .inr hi
theorem gaps_can {b e c : Int} {l : List Sp} (h : Can b l) (he : b ≤ e ∧ e ≤ b + 1) (hc : c < e) : Can c (gapsFrom e l) := by
  induction l generalizing b e c with
  | nil =>
    unfold gapsFrom
    split
    · exact ⟨hc, by assumption, Int.le_refl _, trivial⟩
    · exact trivial
  | cons a r ih =>
    obtain ⟨h1, h2, h3, h5⟩ := h
    unfold gapsFrom
    split
    · exact ⟨hc, by assumption, by simp only; omega, ih h5 ⟨Int.le_refl _, by omega⟩ h2⟩
    · exact ih h5 ⟨Int.le_refl _, by omega⟩ (by omega)
end Go.Proofs.Ytlgpoaapmgcloaa
