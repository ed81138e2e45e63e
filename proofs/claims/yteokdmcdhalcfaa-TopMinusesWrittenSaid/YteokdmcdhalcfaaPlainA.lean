/- Plain: stretches and bands of a set of unit squares: what they cover, and that the canonical form is unique. No Go, no memory. -/
namespace Etch

/-- A rectangle. -/
structure R where
  x0 : Int
  y0 : Int
  x1 : Int
  y1 : Int

theorem R.ext' {a b : R} (h0 : a.x0 = b.x0) (h1 : a.y0 = b.y0) (h2 : a.x1 = b.x1) (h3 : a.y1 = b.y1) : a = b := by
  cases a; cases b; simp_all

instance : Inhabited R := ⟨⟨0, 0, 0, 0⟩⟩

/-- A square is in a rectangle. -/
def R.has (r : R) (x y : Int) : Prop := r.x0 ≤ x ∧ x < r.x1 ∧ r.y0 ≤ y ∧ y < r.y1

/-- A square is in some rectangles. -/
def cov (l : List R) (x y : Int) : Prop := ∃ r, r ∈ l ∧ r.has x y

/-- Whether an odd number of a list's numbers is at most x. -/
def odd : List Int → Int → Bool
  | [], _ => false
  | a :: r, x => xor (decide (a ≤ x)) (odd r x)

theorem odd_append (l m : List Int) (x : Int) : odd (l ++ m) x = xor (odd l x) (odd m x) := by
  induction l with
  | nil => simp [odd]
  | cons a r ih => simp [odd, ih]

/-- Below all numbers: none is counted. -/
theorem odd_below (l : List Int) (x : Int) (h : ∀ a ∈ l, x < a) : odd l x = false := by
  induction l with
  | nil => rfl
  | cons a r ih =>
    have h1 : x < a := h a (by simp)
    have h2 := ih (fun b hb => h b (by simp [hb]))
    simp [odd, h2]; omega

/-- Above all: the length counts. -/
theorem odd_above (l : List Int) (x : Int) (h : ∀ a ∈ l, a ≤ x) : odd l x = decide (l.length % 2 = 1) := by
  induction l with
  | nil => rfl
  | cons a r ih =>
    have h1 : a ≤ x := h a (by simp)
    have h2 := ih (fun b hb => h b (by simp [hb]))
    simp only [odd, h2, h1, decide_true, Bool.true_xor, List.length_cons]
    by_cases e : r.length % 2 = 1
    · have : ¬ (r.length + 1) % 2 = 1 := by omega
      simp [e, this]
    · have : (r.length + 1) % 2 = 1 := by omega
      simp [e, this]

/-- Ascending. -/
abbrev Asc (l : List Int) : Prop := l.Pairwise (· < ·)

theorem asc_unique : ∀ (l m : List Int), Asc l → Asc m → (∀ x, odd l x = odd m x) → l = m
  | [], [], _, _, _ => rfl
  | [], c :: m, _, hm, h => by
    have hc := List.pairwise_cons.1 hm
    have h2 := h c
    rw [odd, odd, odd_below m c hc.1] at h2
    simp at h2
  | a :: l, [], hl, _, h => by
    have hc := List.pairwise_cons.1 hl
    have h2 := h a
    rw [odd, odd, odd_below l a hc.1] at h2
    simp at h2
  | a :: l, c :: m, hl, hm, h => by
    have ha := List.pairwise_cons.1 hl
    have hc := List.pairwise_cons.1 hm
    have e : a = c := by
      rcases Int.lt_trichotomy a c with g | g | g
      · have h2 := h a
        rw [odd, odd_below l a ha.1, odd_below (c :: m) a (by intro b hb; rcases List.mem_cons.1 hb with rfl | hb; exact g; exact Int.lt_trans g (hc.1 b hb))] at h2
        simp at h2
      · exact g
      · have h2 := h c
        rw [odd_below (a :: l) c (by intro b hb; rcases List.mem_cons.1 hb with rfl | hb; exact g; exact Int.lt_trans g (ha.1 b hb)), odd, odd_below m c hc.1] at h2
        simp at h2
    subst e
    congr 1
    refine asc_unique l m ha.2 hc.2 fun x => ?_
    have h2 := h x
    simp only [odd] at h2
    cases hd : decide (a ≤ x) <;> rw [hd] at h2 <;> simpa using h2

/-- A band: from one height to another one, its stretches. -/
structure Band where
  y0 : Int
  y1 : Int
  xs : List Int

instance : Inhabited Band := ⟨⟨0, 0, []⟩⟩

/-- Stretches: ascending, evenly many. -/
def XsOk (l : List Int) : Prop := Asc l ∧ l.length % 2 = 0

def BandOk (b : Band) : Prop := b.y0 < b.y1 ∧ b.xs ≠ [] ∧ XsOk b.xs

/-- One band may stand right above another one. -/
def Above (b c : Band) : Prop := b.y1 ≤ c.y0 ∧ (b.y1 = c.y0 → b.xs ≠ c.xs)

/-- A set of squares in canonical bands. -/
def Canon : List Band → Prop
  | [] => True
  | [b] => BandOk b
  | b :: c :: s => BandOk b ∧ Above b c ∧ Canon (c :: s)

/-- The stretches at a height. -/
def row : List Band → Int → List Int
  | [], _ => []
  | b :: s, y => if b.y0 ≤ y ∧ y < b.y1 then b.xs else row s y

/-- A square is in a set. -/
def mem (s : List Band) (x y : Int) : Prop := odd (row s y) x = true

theorem Canon.head {b : Band} {s : List Band} (h : Canon (b :: s)) : BandOk b := by
  cases s with
  | nil => exact h
  | cons c s => exact h.1

theorem Canon.tail {b : Band} {s : List Band} (h : Canon (b :: s)) : Canon s := by
  cases s with
  | nil => exact True.intro
  | cons c s => exact h.2.2

theorem Canon.ok {s : List Band} (h : Canon s) : ∀ b ∈ s, BandOk b := by
  induction s with
  | nil => intro b hb; cases hb
  | cons c s ih =>
    intro b hb
    rcases List.mem_cons.1 hb with rfl | hb
    · exact h.head
    · exact ih h.tail b hb

/-- All bands stand above the first one. -/
theorem Canon.above {b : Band} {s : List Band} (h : Canon (b :: s)) : ∀ c ∈ s, b.y1 ≤ c.y0 := by
  induction s generalizing b with
  | nil => intro c hc; cases hc
  | cons d s ih =>
    intro c hc
    rcases List.mem_cons.1 hc with rfl | hc
    · exact h.2.1.1
    · have h1 := ih h.2.2 c hc
      have h2 := h.2.1.1
      have h3 := h.2.2.head.1
      omega

theorem row_below {s : List Band} {y : Int} (h : ∀ b ∈ s, y < b.y0) : row s y = [] := by
  induction s with
  | nil => rfl
  | cons b s ih =>
    have h1 := h b (by simp)
    rw [row, if_neg (by omega)]
    exact ih fun c hc => h c (by simp [hc])

theorem row_nil_or {s : List Band} (y : Int) : row s y = [] ∨ ∃ b ∈ s, b.y0 ≤ y ∧ y < b.y1 ∧ row s y = b.xs := by
  induction s with
  | nil => exact Or.inl rfl
  | cons b s ih =>
    by_cases h : b.y0 ≤ y ∧ y < b.y1
    · exact Or.inr ⟨b, by simp, h.1, h.2, by rw [row, if_pos h]⟩
    · rw [row, if_neg h]
      rcases ih with h | ⟨c, hc, h⟩
      · exact Or.inl h
      · exact Or.inr ⟨c, by simp [hc], h⟩

theorem row_at {s : List Band} (h : Canon s) {b : Band} (hb : b ∈ s) {y : Int} (h0 : b.y0 ≤ y) (h1 : y < b.y1) : row s y = b.xs := by
  induction s with
  | nil => cases hb
  | cons c s ih =>
    rcases List.mem_cons.1 hb with rfl | hb
    · rw [row, if_pos ⟨h0, h1⟩]
    · have h2 := h.above b hb
      rw [row, if_neg (by omega)]
      exact ih h.tail hb

theorem row_ok {s : List Band} (h : Canon s) (y : Int) : XsOk (row s y) := by
  rcases row_nil_or (s := s) y with e | ⟨b, hb, _, _, e⟩
  · rw [e]; exact ⟨List.Pairwise.nil, rfl⟩
  · rw [e]; exact (h.ok b hb).2.2

theorem rows_unique : ∀ (s t : List Band), Canon s → Canon t → (∀ y, row s y = row t y) → s = t
  | [], [], _, _, _ => rfl
  | [], c :: t, _, ht, h => by
    have h2 := h c.y0
    have h3 := ht.head
    have := h3.1
    rw [row, row, if_pos ⟨Int.le_refl _, by omega⟩] at h2
    exact absurd h2.symm h3.2.1
  | b :: s, [], hs, _, h => by
    have h2 := h b.y0
    have h3 := hs.head
    have := h3.1
    rw [row, row, if_pos ⟨Int.le_refl _, by omega⟩] at h2
    exact absurd h2 h3.2.1
  | b :: s, c :: t, hs, ht, h => by
    have hb := hs.head
    have hc := ht.head
    have hb1 := hb.1
    have hc1 := hc.1
    have e0 : b.y0 = c.y0 := by
      rcases Int.lt_trichotomy b.y0 c.y0 with g | g | g
      · have h2 := h b.y0
        rw [row, if_pos ⟨Int.le_refl _, hb1⟩, row_below (s := c :: t) (by intro d hd; rcases List.mem_cons.1 hd with rfl | hd; exact g; have := ht.above d hd; omega)] at h2
        exact absurd h2 hb.2.1
      · exact g
      · have h2 := h c.y0
        rw [row_below (s := b :: s) (by intro d hd; rcases List.mem_cons.1 hd with rfl | hd; exact g; have := hs.above d hd; omega), row, if_pos ⟨Int.le_refl _, hc1⟩] at h2
        exact absurd h2.symm hc.2.1
    have ex : b.xs = c.xs := by
      have h2 := h b.y0
      rwa [row, if_pos ⟨Int.le_refl _, hb1⟩, row, if_pos ⟨by omega, by omega⟩] at h2
    have edge : ∀ (b c : Band) (s t : List Band), Canon (b :: s) → Canon (c :: t) → b.y0 = c.y0 → b.xs = c.xs → (∀ y, row (b :: s) y = row (c :: t) y) → ¬ b.y1 < c.y1 := by
      intro b c s t hs ht e0 ex h g
      have hb := hs.head
      have h1 := hb.1
      have h2 := h b.y1
      rw [row, if_neg (by omega), row, if_pos ⟨by omega, g⟩, ← ex] at h2
      cases s with
      | nil => exact hb.2.1 h2.symm
      | cons d s =>
        have hd := hs.2.1
        by_cases e : b.y1 = d.y0
        · have := hs.2.2.head.1
          rw [row, if_pos ⟨by omega, by omega⟩] at h2
          exact hd.2 e h2.symm
        · have hd1 := hd.1
          rw [row_below (s := d :: s) (by intro u hu; rcases List.mem_cons.1 hu with rfl | hu; omega; have := hs.2.2.above u hu; have := hs.2.2.head.1; omega)] at h2
          exact hb.2.1 h2.symm
    have e1 : b.y1 = c.y1 := by
      have g1 := edge b c s t hs ht e0 ex h
      have g2 := edge c b t s ht hs e0.symm ex.symm (fun y => (h y).symm)
      omega
    have ebc : b = c := by cases b; cases c; simp_all
    subst ebc
    congr 1
    refine rows_unique s t hs.tail ht.tail fun y => ?_
    have h2 := h y
    by_cases g : y < b.y1
    · rw [row_below (fun d hd => by have := hs.above d hd; omega), row_below (fun d hd => by have := ht.above d hd; omega)]
    · rwa [row, if_neg (by omega), row, if_neg (by omega)] at h2

/-- **The canonical form is unique.** -/
theorem canon_unique {s t : List Band} (hs : Canon s) (ht : Canon t) (h : ∀ x y, mem s x y ↔ mem t x y) : s = t := by
  refine rows_unique s t hs ht fun y => ?_
  refine asc_unique _ _ (row_ok hs y).1 (row_ok ht y).1 fun x => ?_
  have := h x y
  unfold mem at this
  exact Bool.eq_iff_iff.2 this

/-! ### The rectangles of a set -/

/-- The rectangles of one band's stretches. -/
def bandRects (y0 y1 : Int) : List Int → List R
  | a :: b :: r => ⟨a, y0, b, y1⟩ :: bandRects y0 y1 r
  | _ => []

def rects : List Band → List R
  | [] => []
  | b :: s => bandRects b.y0 b.y1 b.xs ++ rects s

theorem rects_append (s t : List Band) : rects (s ++ t) = rects s ++ rects t := by
  induction s with
  | nil => rfl
  | cons b s ih => simp [rects, ih]

theorem bandRects_length (y0 y1 : Int) : ∀ (l : List Int), (bandRects y0 y1 l).length = l.length / 2
  | [] => rfl
  | [_] => by simp [bandRects]
  | a :: b :: r => by
    rw [bandRects, List.length_cons, bandRects_length y0 y1 r]
    simp only [List.length_cons]
    omega

theorem bandRects_y {y0 y1 : Int} : ∀ {l : List Int} {r : R}, r ∈ bandRects y0 y1 l → r.y0 = y0 ∧ r.y1 = y1 ∧ r.x0 ∈ l ∧ r.x1 ∈ l
  | [], r, h => by cases h
  | [_], r, h => by cases h
  | a :: b :: l, r, h => by
    rw [bandRects] at h
    rcases List.mem_cons.1 h with rfl | h
    · simp
    · have := bandRects_y h
      simp [this]

theorem bandRects_cov {y0 y1 : Int} : ∀ {l : List Int}, Asc l → ∀ x y, cov (bandRects y0 y1 l) x y ↔ (y0 ≤ y ∧ y < y1 ∧ odd (if l.length % 2 = 0 then l else l.dropLast) x = true)
  | [], _, x, y => by simp [bandRects, cov, odd]
  | [a], _, x, y => by simp [bandRects, cov, odd]
  | a :: b :: l, h, x, y => by
    have h1 := List.pairwise_cons.1 h
    have h2 := List.pairwise_cons.1 h1.2
    have hab := h1.1 b (by simp)
    have ih := bandRects_cov (y0 := y0) (y1 := y1) h2.2 x y
    have e : odd (if (a :: b :: l).length % 2 = 0 then a :: b :: l else (a :: b :: l).dropLast) x = xor (xor (decide (a ≤ x)) (decide (b ≤ x))) (odd (if l.length % 2 = 0 then l else l.dropLast) x) := by
      by_cases g : l.length % 2 = 0
      · rw [if_pos (by simp only [List.length_cons]; omega), if_pos g]; simp [odd]
      · have : l ≠ [] := by intro e; subst e; simp at g
        rw [if_neg (by simp only [List.length_cons]; omega), if_neg g]
        rw [List.dropLast_cons_of_ne_nil (by simp), List.dropLast_cons_of_ne_nil this]
        simp [odd]
    rw [e, bandRects]
    have hc : cov (⟨a, y0, b, y1⟩ :: bandRects y0 y1 l) x y ↔ R.has ⟨a, y0, b, y1⟩ x y ∨ cov (bandRects y0 y1 l) x y := by simp [cov]
    rw [hc, ih]
    unfold R.has
    by_cases g : b ≤ x
    · have g2 : a ≤ x := by omega
      simp only [g, g2, decide_true, Bool.xor_self, Bool.false_xor]
      constructor
      · rintro (⟨_, h, _⟩ | h)
        · omega
        · exact h
      · intro h; exact Or.inr h
    · have z : odd (if l.length % 2 = 0 then l else l.dropLast) x = false := by
        refine odd_below _ _ fun c hc => ?_
        have : c ∈ l := by
          split at hc
          · exact hc
          · exact (List.dropLast_sublist l).subset hc
        have := h2.1 c this
        omega
      rw [z]
      simp only [g, decide_false, Bool.xor_false, decide_eq_true_eq]
      constructor
      · rintro (⟨h1, _, h3, h4⟩ | ⟨_, _, h⟩)
        · exact ⟨h3, h4, h1⟩
        · exact absurd h (by simp)
      · rintro ⟨h1, h2, h3⟩
        exact Or.inl ⟨h3, by omega, h1, h2⟩

theorem rects_cov {s : List Band} (hs : Canon s) (x y : Int) : cov (rects s) x y ↔ mem s x y := by
  induction s with
  | nil => simp [rects, cov, mem, row, odd]
  | cons b s ih =>
    have hb := hs.head
    have hc : cov (rects (b :: s)) x y ↔ cov (bandRects b.y0 b.y1 b.xs) x y ∨ cov (rects s) x y := by
      simp only [rects, cov, List.mem_append]
      constructor
      · rintro ⟨r, h | h, g⟩
        · exact Or.inl ⟨r, h, g⟩
        · exact Or.inr ⟨r, h, g⟩
      · rintro (⟨r, h, g⟩ | ⟨r, h, g⟩)
        · exact ⟨r, Or.inl h, g⟩
        · exact ⟨r, Or.inr h, g⟩
    rw [hc, bandRects_cov hb.2.2.1, if_pos hb.2.2.2, ih hs.tail]
    unfold mem
    by_cases g : b.y0 ≤ y ∧ y < b.y1
    · rw [row, if_pos g]
      constructor
      · rintro (⟨_, _, h⟩ | h)
        · exact h
        · rw [row_below (fun c hc => by have := hs.above c hc; omega)] at h
          simp [odd] at h
      · intro h; exact Or.inl ⟨g.1, g.2, h⟩
    · rw [row, if_neg g]
      constructor
      · rintro (⟨h1, h2, _⟩ | h)
        · exact absurd ⟨h1, h2⟩ g
        · exact h
      · intro h; exact Or.inr h

/-- A canonical region: the rectangles of a canonical set. -/
def Reg (r : List R) : Prop := ∃ s, Canon s ∧ rects s = r

theorem reg_unique {a b : List R} (ha : Reg a) (hb : Reg b) (h : ∀ x y, cov a x y ↔ cov b x y) : a = b := by
  obtain ⟨s, hs, rfl⟩ := ha
  obtain ⟨t, ht, rfl⟩ := hb
  rw [canon_unique hs ht fun x y => by rw [← rects_cov hs, ← rects_cov ht]; exact h x y]

end Etch
