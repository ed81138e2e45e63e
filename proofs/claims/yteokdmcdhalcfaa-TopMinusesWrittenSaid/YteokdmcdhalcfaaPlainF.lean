/- Plain: what rectangles cover along X (stretches), and what they cover together (SetOf). -/
import Derived.Test.YteokdmcdhalcfaaPlainE
namespace Etch

/-- What rectangles, taken by their first numbers, cover along X. -/
structure StrInv (l : List R) (o : List Int) : Prop where
  asc : Asc o
  even : o.length % 2 = 0
  spec : ∀ x, odd o x = true ↔ ∃ r, r ∈ l ∧ r.x0 ≤ x ∧ x < r.x1
  low : ∀ init s t, o = init ++ [s, t] → ∃ r, r ∈ l ∧ r.x0 = s
  sub : ∀ t ∈ o, ∃ r, r ∈ l ∧ (t = r.x0 ∨ t = r.x1)
  len : o.length ≤ 2 * l.length

theorem StrInv.start : StrInv [] [] where
  asc := List.Pairwise.nil
  even := rfl
  spec := by intro x; simp [odd]
  low := by intro init s t h; have := congrArg List.length h; simp at this
  sub := by intro t h; cases h
  len := Nat.le_refl _

theorem even_split {o : List Int} (h : o.length % 2 = 0) (hne : o ≠ []) : ∃ init s t, o = init ++ [s, t] := by
  rcases List.eq_nil_or_concat o with rfl | ⟨p, t, rfl⟩
  · exact absurd rfl hne
  · rcases List.eq_nil_or_concat p with rfl | ⟨q, s, rfl⟩
    · simp at h
    · exact ⟨q, s, t, by simp⟩

theorem odd_two (init : List Int) (s t x : Int) (he : init.length % 2 = 0) (hl : ∀ u ∈ init, u < s) (hx : s ≤ x) : odd (init ++ [s, t]) x = decide (x < t) := by
  rw [odd_append, odd_above init x (fun u hu => by have := hl u hu; omega)]
  simp only [odd, he, hx, decide_true, Bool.xor_false]
  by_cases h : t ≤ x
  · have : ¬ x < t := by omega
    simp [h, this]
  · have : x < t := by omega
    simp [h, this]

theorem odd_two_below (init : List Int) (s t x : Int) (hst : s < t) (hx : x < s) : odd (init ++ [s, t]) x = odd init x := by
  rw [odd_append, odd_below [s, t] x (by intro u hu; simp at hu; rcases hu with rfl | rfl <;> omega)]
  simp

/-- A rectangle that begins behind all of them. -/
theorem StrInv.put {l : List R} {o : List Int} (h : StrInv l o) (r : R) (hr : r.x0 < r.x1) (hlt : ∀ u ∈ o, u < r.x0) : StrInv (l ++ [r]) (o ++ [r.x0, r.x1]) where
  asc := by
    refine List.pairwise_append.2 ⟨h.asc, by simp [hr], fun u hu w hw => ?_⟩
    have := hlt u hu
    simp at hw; rcases hw with rfl | rfl <;> omega
  even := by have := h.even; simp only [List.length_append, List.length_cons, List.length_nil]; omega
  spec := by
    intro x
    by_cases hx : r.x0 ≤ x
    · rw [odd_two o r.x0 r.x1 x h.even hlt hx]
      constructor
      · intro e; exact ⟨r, by simp, hx, by simpa using e⟩
      · rintro ⟨q, hq, h1, h2⟩
        rcases List.mem_append.1 hq with hq | hq
        · have := (h.spec x).2 ⟨q, hq, h1, h2⟩
          rw [odd_above o x (fun u hu => by have := hlt u hu; omega)] at this
          have := of_decide_eq_true this
          have := h.even
          omega
        · simp at hq; subst hq; simpa using h2
    · rw [odd_two_below o r.x0 r.x1 x hr (by omega), h.spec]
      constructor
      · rintro ⟨q, hq, h1, h2⟩; exact ⟨q, by simp [hq], h1, h2⟩
      · rintro ⟨q, hq, h1, h2⟩
        rcases List.mem_append.1 hq with hq | hq
        · exact ⟨q, hq, h1, h2⟩
        · simp at hq; subst hq; omega
  low := by
    intro init s t e
    have := (List.append_inj' e rfl).2
    simp at this
    exact ⟨r, by simp, this.1⟩
  sub := by
    intro t ht
    rcases List.mem_append.1 ht with ht | ht
    · obtain ⟨q, hq, e⟩ := h.sub t ht; exact ⟨q, by simp [hq], e⟩
    · simp at ht; exact ⟨r, by simp, ht⟩
  len := by have := h.len; simp only [List.length_append, List.length_cons, List.length_nil]; omega

/-- A rectangle that touches the last stretch. -/
theorem StrInv.join {l : List R} {init : List Int} {s t : Int} (h : StrInv l (init ++ [s, t])) (r : R) (hr : r.x0 < r.x1) (hs : ∀ q ∈ l, q.x0 ≤ r.x0) (hle : r.x0 ≤ t) : StrInv (l ++ [r]) (init ++ [s, if t < r.x1 then r.x1 else t]) := by
  obtain ⟨q0, hq0, e0⟩ := h.low init s t rfl
  have hs0 : s ≤ r.x0 := by have := hs q0 hq0; omega
  have hasc := List.pairwise_append.1 h.asc
  have hst : s < t := by have := hasc.2.1; simpa using this
  have hi : ∀ u ∈ init, u < s := fun u hu => hasc.2.2 u hu s (by simp)
  have hev : init.length % 2 = 0 := by have := h.even; simp only [List.length_append, List.length_cons, List.length_nil] at this; omega
  have ht' : t ≤ (if t < r.x1 then r.x1 else t) := by split <;> omega
  have ht2 : r.x1 ≤ (if t < r.x1 then r.x1 else t) := by split <;> omega
  have ht3 : ∀ x, x < (if t < r.x1 then r.x1 else t) → x < t ∨ x < r.x1 := by intro x; split <;> omega
  have ht4 : (if t < r.x1 then r.x1 else t) = t ∨ (if t < r.x1 then r.x1 else t) = r.x1 := by split <;> simp
  generalize (if t < r.x1 then r.x1 else t) = t' at *
  refine ⟨?_, ?_, ?_, ?_, ?_, ?_⟩
  · refine List.pairwise_append.2 ⟨hasc.1, by simp; omega, fun u hu w hw => ?_⟩
    have := hi u hu
    simp at hw; rcases hw with rfl | rfl <;> omega
  · simp only [List.length_append, List.length_cons, List.length_nil]; omega
  · intro x
    have hold := h.spec x
    by_cases hx : s ≤ x
    · rw [odd_two init s t x hev hi hx] at hold
      rw [odd_two init s t' x hev hi hx]
      constructor
      · intro e
        rcases ht3 x (by simpa using e) with g | g
        · obtain ⟨q, hq, h1, h2⟩ := hold.1 (by simpa using g)
          exact ⟨q, by simp [hq], h1, h2⟩
        · by_cases g2 : x < t
          · obtain ⟨q, hq, h1, h2⟩ := hold.1 (by simpa using g2)
            exact ⟨q, by simp [hq], h1, h2⟩
          · exact ⟨r, by simp, by omega, g⟩
      · rintro ⟨q, hq, h1, h2⟩
        rcases List.mem_append.1 hq with hq | hq
        · have := of_decide_eq_true (hold.2 ⟨q, hq, h1, h2⟩)
          simp; omega
        · simp at hq; subst hq; simp; omega
    · rw [odd_two_below init s t x hst (by omega)] at hold
      rw [odd_two_below init s t' x (by omega) (by omega), hold]
      constructor
      · rintro ⟨q, hq, h1, h2⟩; exact ⟨q, by simp [hq], h1, h2⟩
      · rintro ⟨q, hq, h1, h2⟩
        rcases List.mem_append.1 hq with hq | hq
        · exact ⟨q, hq, h1, h2⟩
        · simp at hq; subst hq; omega
  · intro i2 s2 t2 e
    have := (List.append_inj' e rfl).2
    simp at this
    exact ⟨q0, by simp [hq0], by omega⟩
  · intro u hu
    rcases List.mem_append.1 hu with hu | hu
    · obtain ⟨q, hq, e⟩ := h.sub u (by simp [hu]); exact ⟨q, by simp [hq], e⟩
    · simp at hu
      rcases hu with rfl | rfl
      · exact ⟨q0, by simp [hq0], Or.inl e0.symm⟩
      · rcases ht4 with e | e
        · obtain ⟨q, hq, e'⟩ := h.sub t (by simp); exact ⟨q, by simp [hq], by rw [e]; exact e'⟩
        · exact ⟨r, by simp, Or.inr e⟩
  · have := h.len; simp only [List.length_append, List.length_cons, List.length_nil] at *; omega

end Etch
