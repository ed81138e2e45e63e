/- Plain: a band put above those that there are (push); rows of bands that are built up. -/
import Derived.Test.YteokdmcdhalcfaaPlainB
namespace Etch

instance : Inhabited (List Int) := ⟨[]⟩

/-- push. -/
def pushB (s : List Band) (b : Band) : List Band :=
  if b.xs = [] ∨ b.y1 ≤ b.y0 then s else
  match s.getLast? with
  | some c => if c.y1 = b.y0 ∧ c.xs = b.xs then s.dropLast ++ [⟨c.y0, b.y1, c.xs⟩] else s ++ [b]
  | none => [b]

theorem pushB_none (s : List Band) (b : Band) (h : b.xs = [] ∨ b.y1 ≤ b.y0) : pushB s b = s := by rw [pushB, if_pos h]
theorem pushB_nil (b : Band) (h : ¬ (b.xs = [] ∨ b.y1 ≤ b.y0)) : pushB [] b = [b] := by rw [pushB, if_neg h]; rfl
theorem pushB_join (s : List Band) (c b : Band) (h : ¬ (b.xs = [] ∨ b.y1 ≤ b.y0)) (h1 : c.y1 = b.y0) (h2 : c.xs = b.xs) : pushB (s ++ [c]) b = s ++ [⟨c.y0, b.y1, c.xs⟩] := by
  rw [pushB, if_neg h]; simp [h1, h2]
theorem pushB_on (s : List Band) (c b : Band) (h : ¬ (b.xs = [] ∨ b.y1 ≤ b.y0)) (h1 : ¬ (c.y1 = b.y0 ∧ c.xs = b.xs)) : pushB (s ++ [c]) b = (s ++ [c]) ++ [b] := by
  rw [pushB, if_neg h]; simp [h1]

/-- Bands up to a height. -/
def Upto (s : List Band) (y : Int) : Prop := ∀ b ∈ s, b.y1 ≤ y

theorem canon_snoc (s : List Band) (b : Band) (h : Canon s) (hb : BandOk b) (hu : ∀ c, s.getLast? = some c → Above c b) : Canon (s ++ [b]) := by
  induction s with
  | nil => exact hb
  | cons c s ih =>
    cases s with
    | nil => exact ⟨h, hu c rfl, hb⟩
    | cons d s =>
      refine ⟨h.1, h.2.1, ?_⟩
      exact ih h.2.2 fun e he => hu e (by rw [List.getLast?_cons_cons]; exact he)

theorem canon_init (s : List Band) (c : Band) (h : Canon (s ++ [c])) : Canon s ∧ BandOk c ∧ ∀ e, s.getLast? = some e → Above e c := by
  induction s with
  | nil => exact ⟨True.intro, h, fun e he => by cases he⟩
  | cons b s ih =>
    cases s with
    | nil => exact ⟨h.1, h.2.2, fun e he => by simp at he; subst he; exact h.2.1⟩
    | cons d s =>
      have := ih h.2.2
      exact ⟨⟨h.1, h.2.1, this.1⟩, this.2.1, fun e he => this.2.2 e (by rw [List.getLast?_cons_cons] at he; exact he)⟩

theorem row_snoc (s : List Band) (b : Band) (y : Int) (hu : Upto s b.y0) : row (s ++ [b]) y = if b.y0 ≤ y ∧ y < b.y1 then b.xs else row s y := by
  induction s with
  | nil => rfl
  | cons c s ih =>
    have hc := hu c (by simp)
    have := ih fun d hd => hu d (by simp [hd])
    show (if c.y0 ≤ y ∧ y < c.y1 then c.xs else row (s ++ [b]) y) = _
    rw [this]
    show _ = if b.y0 ≤ y ∧ y < b.y1 then b.xs else (if c.y0 ≤ y ∧ y < c.y1 then c.xs else row s y)
    by_cases g : b.y0 ≤ y ∧ y < b.y1
    · rw [if_neg (by omega), if_pos g, if_pos g]
    · rw [if_neg g, if_neg g]

/-- **What a push does.** -/
theorem push_canon (s : List Band) (b : Band) (h : Canon s) (hu : Upto s b.y0) (hb : b.y0 < b.y1) (hx : XsOk b.xs) :
    Canon (pushB s b) ∧ Upto (pushB s b) b.y1 ∧ ∀ y, row (pushB s b) y = if b.y0 ≤ y ∧ y < b.y1 then b.xs else row s y := by
  by_cases he : b.xs = []
  · rw [pushB_none s b (Or.inl he)]
    refine ⟨h, fun c hc => by have := hu c hc; omega, fun y => ?_⟩
    split
    · rename_i g
      rw [he]
      rcases row_nil_or (s := s) y with e | ⟨c, hc, h1, h2, _⟩
      · exact e
      · have := hu c hc; omega
    · rfl
  · have hn : ¬ (b.xs = [] ∨ b.y1 ≤ b.y0) := by intro g; rcases g with g | g; exact he g; omega
    have hbo : BandOk b := ⟨hb, he, hx⟩
    rcases List.eq_nil_or_concat s with rfl | ⟨s', c, rfl⟩
    · rw [pushB_nil b hn]
      refine ⟨hbo, fun c hc => by simp at hc; subst hc; exact Int.le_refl _, fun y => rfl⟩
    · rw [List.concat_eq_append] at *
      have hc1 := hu c (by simp)
      obtain ⟨k1, k2, k3⟩ := canon_init s' c h
      have hu' : Upto s' c.y0 := by
        intro d hd
        have : Canon (s' ++ [c]) := h
        clear hn he hbo hu k3 hc1
        induction s' with
        | nil => cases hd
        | cons e s' ih =>
          rcases List.mem_cons.1 hd with rfl | hd
          · exact this.above c (by simp)
          · exact ih this.tail k1.tail hd this.tail
      by_cases hj : c.y1 = b.y0 ∧ c.xs = b.xs
      · rw [pushB_join s' c b hn hj.1 hj.2]
        refine ⟨canon_snoc _ _ k1 ⟨by have := k2.1; simp only; omega, k2.2⟩ fun e he' => k3 e he', ?_, fun y => ?_⟩
        · intro d hd
          rcases List.mem_append.1 hd with hd | hd
          · have := hu d (by simp [hd]); omega
          · simp at hd; subst hd; exact Int.le_refl _
        · rw [row_snoc s' c y hu', row_snoc s' ⟨c.y0, b.y1, c.xs⟩ y hu']
          have := k2.1
          by_cases g : b.y0 ≤ y ∧ y < b.y1
          · rw [if_pos g, if_pos (by simp only; omega)]; exact hj.2
          · rw [if_neg g]
            by_cases g2 : c.y0 ≤ y ∧ y < c.y1
            · rw [if_pos g2, if_pos (by simp only; omega)]
            · rw [if_neg g2, if_neg (by simp only; omega)]
      · rw [pushB_on s' c b hn hj]
        refine ⟨canon_snoc _ _ h hbo fun e he' => ?_, ?_, fun y => row_snoc _ _ y hu⟩
        · simp at he'; subst he'
          exact ⟨hc1, fun h1 h2 => hj ⟨h1, h2⟩⟩
        · intro d hd
          rcases List.mem_append.1 hd with hd | hd
          · have := hu d hd; omega
          · simp at hd; subst hd; exact Int.le_refl _

theorem pushB_length (s : List Band) (b : Band) : (pushB s b).length ≤ s.length + 1 := by
  by_cases hn : b.xs = [] ∨ b.y1 ≤ b.y0
  · rw [pushB_none s b hn]; omega
  · rcases List.eq_nil_or_concat s with rfl | ⟨s', c, rfl⟩
    · rw [pushB_nil b hn]; simp
    · rw [List.concat_eq_append]
      by_cases hj : c.y1 = b.y0 ∧ c.xs = b.xs
      · rw [pushB_join s' c b hn hj.1 hj.2]; simp
      · rw [pushB_on s' c b hn hj]; simp

end Etch
