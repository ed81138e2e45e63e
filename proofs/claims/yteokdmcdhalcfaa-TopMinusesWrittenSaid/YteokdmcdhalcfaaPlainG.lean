/- Plain: what rectangles cover together, height by height (SetOf). -/
import Derived.Test.YteokdmcdhalcfaaPlainF
namespace Etch

/-- The heights of rectangles. -/
def yl (l : List R) : List Int := l.flatMap fun r => [r.y0, r.y1]

theorem yl_length (l : List R) : (yl l).length = 2 * l.length := by
  induction l with
  | nil => rfl
  | cons r l ih => show ([r.y0, r.y1] ++ yl l).length = _; rw [List.length_append, ih]; simp only [List.length_cons, List.length_nil]; omega

theorem yl_append (a b : List R) : yl (a ++ b) = yl a ++ yl b := by simp [yl]

theorem mem_yl (l : List R) (y : Int) : y ∈ yl l ↔ ∃ r, r ∈ l ∧ (y = r.y0 ∨ y = r.y1) := by
  unfold yl
  rw [List.mem_flatMap]
  constructor
  · rintro ⟨r, hr, h⟩; exact ⟨r, hr, by simpa using h⟩
  · rintro ⟨r, hr, h⟩; exact ⟨r, hr, by simpa using h⟩

theorem asc_gap {ys : List Int} (h : Asc ys) {k : Nat} (hk : k + 1 < ys.length) {u : Int} (hu : u ∈ ys) : u ≤ ys[k]'(by omega) ∨ ys[k + 1] ≤ u := by
  obtain ⟨j, hj, rfl⟩ := List.getElem_of_mem hu
  have hp := List.pairwise_iff_getElem.1 h
  rcases Nat.lt_trichotomy j k with g | g | g
  · exact Or.inl (Int.le_of_lt (hp j k hj (by omega) g))
  · subst g; exact Or.inl (Int.le_refl _)
  · rcases Nat.lt_or_eq_of_le (show k + 1 ≤ j by omega) with g2 | g2
    · exact Or.inr (Int.le_of_lt (hp (k + 1) j hk hj g2))
    · subst g2; exact Or.inr (Int.le_refl _)

theorem asc_first {ys : List Int} (h : Asc ys) (h0 : 0 < ys.length) {u : Int} (hu : u ∈ ys) : ys[0] ≤ u := by
  obtain ⟨j, hj, rfl⟩ := List.getElem_of_mem hu
  rcases Nat.eq_zero_or_pos j with rfl | g
  · exact Int.le_refl _
  · exact Int.le_of_lt (List.pairwise_iff_getElem.1 h 0 j h0 hj g)

theorem asc_final {ys : List Int} (h : Asc ys) {k : Nat} (hk : k < ys.length) (hl : ys.length ≤ k + 1) {u : Int} (hu : u ∈ ys) : u ≤ ys[k] := by
  obtain ⟨j, hj, rfl⟩ := List.getElem_of_mem hu
  rcases Nat.lt_or_eq_of_le (show j ≤ k by omega) with g | g
  · exact Int.le_of_lt (List.pairwise_iff_getElem.1 h j k hj hk g)
  · subst g; exact Int.le_refl _

/-- The rectangles and their heights, in order. -/
structure Swept (l : List R) (ys : List Int) : Prop where
  asc : Asc ys
  mem : ∀ y, y ∈ ys ↔ ∃ r, r ∈ l ∧ (y = r.y0 ∨ y = r.y1)
  ord : l.Pairwise fun a b => a.y0 ≤ b.y0
  tall : ∀ r ∈ l, r.y0 < r.y1
  wide : ∀ r ∈ l, r.x0 < r.x1

/-- The sweep at the head of a round: what has been taken, what is there, what has been built. -/
structure SetInv (l : List R) (ys : List Int) (k next : Nat) (now : List R) (out : List Band) : Prop where
  le : next ≤ l.length
  nlen : now.length ≤ next
  can : Canon out
  olen : out.length ≤ k
  fresh : k = 0 → out = []
  taken : ∀ h : k < ys.length, ∀ r ∈ l.take next, r.y0 < ys[k]
  left : ∀ h : k < ys.length, ∀ r ∈ l.drop next, ys[k] ≤ r.y0
  now : ∀ h : k < ys.length, ∀ r, r ∈ now ↔ r ∈ l.take next ∧ ys[k] ≤ r.y1
  upto : ∀ h : k < ys.length, Upto out ys[k]
  spec : ∀ h : k < ys.length, ∀ z, z < ys[k] → ∀ x, odd (row out z) x = true ↔ cov l x z

theorem SetInv.start {l : List R} {ys : List Int} (h : Swept l ys) : SetInv l ys 0 0 [] [] where
  le := Nat.zero_le _
  nlen := Nat.le_refl _
  can := True.intro
  olen := Nat.le_refl _
  fresh := fun _ => rfl
  taken := by intro _ r hr; simp at hr
  left := by
    intro h0 r hr
    exact asc_first h.asc h0 ((h.mem _).2 ⟨r, by simpa using hr, Or.inl rfl⟩)
  now := by intro _ r; simp
  upto := by intro _ b hb; cases hb
  spec := by
    intro h0 z hz x
    constructor
    · intro e; simp [row, odd] at e
    · rintro ⟨r, hr, h1⟩
      have := asc_first h.asc h0 ((h.mem _).2 ⟨r, hr, Or.inl rfl⟩)
      have := h1.2.2.1
      omega

/-- In the midst of a round: the rectangles that begin at the height are being taken. -/
structure TakeInv (l : List R) (yk : Int) (next : Nat) (now : List R) : Prop where
  le : next ≤ l.length
  nlen : now.length ≤ next
  taken : ∀ r ∈ l.take next, r.y0 ≤ yk
  left : ∀ r ∈ l.drop next, yk ≤ r.y0
  now : ∀ r, r ∈ now ↔ r ∈ l.take next ∧ yk < r.y1

theorem SetInv.strike {l : List R} {ys : List Int} {k next : Nat} {now : List R} {out : List Band} (h : SetInv l ys k next now out) (hk : k < ys.length) :
    TakeInv l ys[k] next (now.filter fun r => !decide (r.y1 ≤ ys[k])) where
  le := h.le
  nlen := Nat.le_trans (List.length_filter_le _ _) h.nlen
  taken := fun r hr => Int.le_of_lt (h.taken hk r hr)
  left := h.left hk
  now := by
    intro r
    rw [List.mem_filter, h.now hk]
    simp only [Bool.not_eq_true', decide_eq_false_iff_not, Int.not_le]
    constructor
    · rintro ⟨⟨h1, _⟩, h2⟩; exact ⟨h1, h2⟩
    · rintro ⟨h1, h2⟩; exact ⟨⟨h1, Int.le_of_lt h2⟩, h2⟩

theorem TakeInv.step {l : List R} {yk : Int} {next : Nat} {now : List R} (h : TakeInv l yk next now) (hn : next < l.length) (hy : l[next].y0 ≤ yk) (ht : l[next].y0 < l[next].y1) : TakeInv l yk (next + 1) (now ++ [l[next]]) where
  le := hn
  nlen := by have := h.nlen; simp; omega
  taken := by
    intro r hr
    rw [List.take_succ_eq_append_getElem hn] at hr
    rcases List.mem_append.1 hr with hr | hr
    · exact h.taken r hr
    · simp at hr; subst hr; exact hy
  left := by
    intro r hr
    refine h.left r ?_
    rw [List.drop_eq_getElem_cons hn]
    exact List.mem_cons_of_mem _ hr
  now := by
    intro r
    have h1 := h.left l[next] (by rw [List.drop_eq_getElem_cons hn]; exact List.mem_cons_self)
    rw [List.mem_append, h.now, List.take_succ_eq_append_getElem hn, List.mem_append]
    constructor
    · rintro (⟨a, b⟩ | a)
      · exact ⟨Or.inl a, b⟩
      · simp at a; subst a; exact ⟨Or.inr (by simp), by omega⟩
    · rintro ⟨a | a, b⟩
      · exact Or.inl ⟨a, b⟩
      · exact Or.inr a

/-- The round's end. -/
theorem SetInv.step {l : List R} {ys : List Int} {k next next' : Nat} {now now' : List R} {out : List Band} (hs : Swept l ys) (h : SetInv l ys k next now out) (hk : k + 1 < ys.length)
    (ht : TakeInv l (ys[k]'(by omega)) next' now') (hend : ∀ hn : next' < l.length, ys[k]'(by omega) < l[next'].y0) {xs : List Int} (hx : XsOk xs) (hxs : ∀ x, odd xs x = true ↔ ∃ r, r ∈ now' ∧ r.x0 ≤ x ∧ x < r.x1) :
    SetInv l ys (k + 1) next' now' (pushB out ⟨ys[k]'(by omega), ys[k + 1], xs⟩) := by
  have hk0 : k < ys.length := by omega
  have hlt : ys[k] < ys[k + 1] := List.pairwise_iff_getElem.1 hs.asc k (k + 1) hk0 hk (by omega)
  obtain ⟨p1, p2, p3⟩ := push_canon out ⟨ys[k], ys[k + 1], xs⟩ h.can (h.upto hk0) hlt hx
  have hleft : ∀ r ∈ l.drop next', ys[k] < r.y0 := by
    intro r hr
    have hn : next' < l.length := by
      refine Classical.byContradiction fun g => ?_
      rw [List.drop_of_length_le (by omega)] at hr
      cases hr
    have h1 := hend hn
    rw [List.drop_eq_getElem_cons hn] at hr
    rcases List.mem_cons.1 hr with rfl | hr
    · exact h1
    · obtain ⟨j, hj, rfl⟩ := List.getElem_of_mem hr
      rw [List.getElem_drop]
      have := List.pairwise_iff_getElem.1 hs.ord next' (next' + 1 + j) hn (by simp at hj; omega) (by omega)
      omega
  have hsplit : ∀ r, r ∈ l → r ∈ l.take next' ∨ r ∈ l.drop next' := fun r hr => by
    rw [← List.take_append_drop next' l] at hr
    exact List.mem_append.1 hr
  have htl : ∀ r, r ∈ l.take next' → r ∈ l := fun r hr => List.mem_of_mem_take hr
  have hdl : ∀ r, r ∈ l.drop next' → r ∈ l := fun r hr => List.mem_of_mem_drop hr
  refine ⟨ht.le, ht.nlen, p1, ?_, fun e => by omega, ?_, ?_, ?_, ?_, ?_⟩
  · have := pushB_length out ⟨ys[k], ys[k + 1], xs⟩
    have := h.olen
    omega
  · intro _ r hr
    have := ht.taken r hr
    omega
  · intro _ r hr
    have h1 := hleft r hr
    rcases asc_gap hs.asc hk ((hs.mem _).2 ⟨r, hdl r hr, Or.inl rfl⟩) with g | g
    · omega
    · exact g
  · intro _ r
    rw [ht.now]
    constructor
    · rintro ⟨a, b⟩
      refine ⟨a, ?_⟩
      rcases asc_gap hs.asc hk ((hs.mem _).2 ⟨r, htl r a, Or.inr rfl⟩) with g | g
      · omega
      · exact g
    · rintro ⟨a, b⟩; exact ⟨a, by omega⟩
  · intro _; exact p2
  · intro _ z hz x
    rw [p3 z]
    by_cases g : ys[k] ≤ z
    · rw [if_pos ⟨g, hz⟩, hxs]
      constructor
      · rintro ⟨r, hr, h1, h2⟩
        obtain ⟨a, b⟩ := (ht.now r).1 hr
        have hy := ht.taken r a
        refine ⟨r, htl r a, h1, h2, by omega, ?_⟩
        rcases asc_gap hs.asc hk ((hs.mem _).2 ⟨r, htl r a, Or.inr rfl⟩) with q | q
        · omega
        · omega
      · rintro ⟨r, hr, h1, h2, h3, h4⟩
        refine ⟨r, (ht.now r).2 ⟨?_, by omega⟩, h1, h2⟩
        rcases hsplit r hr with a | a
        · exact a
        · have := hleft r a
          rcases asc_gap hs.asc hk ((hs.mem _).2 ⟨r, hr, Or.inl rfl⟩) with q | q <;> omega
    · rw [if_neg (by simp only; omega)]
      exact h.spec hk0 z (by omega) x

/-- What SetOf gives. -/
def SetGives (l : List R) (s : List Band) : Prop := Canon s ∧ ∀ x y, mem s x y ↔ cov l x y

theorem SetInv.done {l : List R} {ys : List Int} {k next : Nat} {now : List R} {out : List Band} (hs : Swept l ys) (h : SetInv l ys k next now out) (hk : ys.length ≤ k + 1) (hk2 : k = 0 ∨ k < ys.length) : SetGives l out := by
  refine ⟨h.can, fun x z => ?_⟩
  unfold mem
  by_cases hl : ys.length = 0
  · have hl0 : l = [] := by
      cases l with
      | nil => rfl
      | cons r l =>
        have : r.y0 ∈ ys := (hs.mem _).2 ⟨r, by simp, Or.inl rfl⟩
        rw [List.eq_nil_of_length_eq_zero hl] at this
        cases this
    have hk0 : k = 0 := by omega
    rw [h.fresh hk0, hl0]
    simp [row, odd, cov]
  · have hk0 : k < ys.length := by omega
    by_cases g : z < ys[k]
    · exact h.spec hk0 z g x
    · rw [row_upto (h.upto hk0) z (by omega)]
      constructor
      · intro e; simp [odd] at e
      · rintro ⟨r, hr, h1⟩
        have := asc_final hs.asc hk0 hk ((hs.mem _).2 ⟨r, hr, Or.inr rfl⟩)
        have := h1.2.2.2
        omega

end Etch
