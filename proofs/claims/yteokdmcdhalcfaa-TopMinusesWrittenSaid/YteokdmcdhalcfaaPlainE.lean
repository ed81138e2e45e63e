/- Plain: two sets merged, height by height (Merge); how far a set goes. -/
import Derived.Test.YteokdmcdhalcfaaPlainC
import Derived.Test.YteokdmcdhalcfaaPlainD
namespace Etch

/-- All of a set's numbers are from -C to C. -/
def BndBy (C : Int) (s : List Band) : Prop := ∀ b ∈ s, -C ≤ b.y0 ∧ b.y1 ≤ C ∧ ∀ x ∈ b.xs, -C ≤ x ∧ x ≤ C

/-- All of a set's squares are from -C to C. -/
def SqBy (C : Int) (s : List Band) : Prop := ∀ x y, mem s x y → -C ≤ x ∧ x < C ∧ -C ≤ y ∧ y < C

theorem asc_length : ∀ (l : List Int) (lo hi : Int), Asc l → lo ≤ hi + 1 → (∀ x ∈ l, lo ≤ x ∧ x ≤ hi) → (l.length : Int) ≤ hi - lo + 1
  | [], lo, hi, _, h0, _ => by simp; omega
  | x :: l, lo, hi, ha, _, h => by
    have hc := List.pairwise_cons.1 ha
    have hx := h x (by simp)
    have := asc_length l (x + 1) hi hc.2 (by omega) fun u hu => ⟨by have := hc.1 u hu; omega, (h u (by simp [hu])).2⟩
    simp only [List.length_cons]; omega

/-- Each number of an ascending row is one at which the parity turns. -/
theorem odd_edge : ∀ (l : List Int) (t : Int), Asc l → t ∈ l → odd l t ≠ odd l (t - 1)
  | [], t, _, h => by cases h
  | a :: l, t, ha, h => by
    have hc := List.pairwise_cons.1 ha
    rcases List.mem_cons.1 h with rfl | h
    · rw [odd, odd, odd_below l t hc.1, odd_below l (t - 1) (fun u hu => by have := hc.1 u hu; omega)]
      have : ¬ t ≤ t - 1 := by omega
      simp [this]
    · have := odd_edge l t hc.2 h
      have h1 := hc.1 t h
      have h2 : a ≤ t := by omega
      have h3 : a ≤ t - 1 := by omega
      simp only [odd, h2, h3, decide_true]
      intro e; exact this (by simpa using e)

theorem bnd_of_sq {C : Int} {s : List Band} (hs : Canon s) (h : SqBy C s) : BndBy C s := by
  intro b hb
  obtain ⟨h1, h2, h3, h4⟩ := hs.ok b hb
  have key : ∀ t ∈ b.xs, ∀ y, b.y0 ≤ y → y < b.y1 → (-C ≤ t ∧ t ≤ C) ∧ -C ≤ y ∧ y < C := by
    intro t ht y hy0 hy1
    have hr := row_at hs hb hy0 hy1
    have hedge := odd_edge b.xs t h3 ht
    by_cases g : odd b.xs t = true
    · have := h t y (by unfold mem; rw [hr]; exact g)
      exact ⟨⟨by omega, by omega⟩, by omega, by omega⟩
    · have g2 : odd b.xs (t - 1) = true := by
        cases e : odd b.xs (t - 1) with
        | true => rfl
        | false => rw [e] at hedge; exact absurd (Bool.eq_false_iff.2 g) hedge
      have := h (t - 1) y (by unfold mem; rw [hr]; exact g2)
      exact ⟨⟨by omega, by omega⟩, by omega, by omega⟩
  obtain ⟨t, r, e⟩ := List.exists_cons_of_ne_nil h2
  have k0 := key t (by rw [e]; simp) b.y0 (Int.le_refl _) h1
  have k1 := key t (by rw [e]; simp) (b.y1 - 1) (by omega) (by omega)
  exact ⟨k0.2.1, by omega, fun x hx => (key x hx b.y0 (Int.le_refl _) h1).1⟩

theorem mem_band {s : List Band} {x y : Int} (h : mem s x y) : ∃ b ∈ s, b.y0 ≤ y ∧ y < b.y1 ∧ odd b.xs x = true := by
  unfold mem at h
  rcases row_nil_or (s := s) y with e | ⟨b, hb, h1, h2, e⟩
  · rw [e] at h; simp [odd] at h
  · exact ⟨b, hb, h1, h2, by rwa [e] at h⟩

theorem odd_true_range {l : List Int} (h : XsOk l) {x : Int} (hx : odd l x = true) : (∃ a ∈ l, a ≤ x) ∧ ∃ b ∈ l, x < b := by
  constructor
  · refine Classical.byContradiction fun hn => ?_
    rw [odd_below l x (fun a ha => by
      refine Classical.byContradiction fun g => hn ⟨a, ha, by omega⟩)] at hx
    cases hx
  · refine Classical.byContradiction fun hn => ?_
    rw [odd_above l x (fun a ha => by
      refine Classical.byContradiction fun g => hn ⟨a, ha, by omega⟩)] at hx
    have := of_decide_eq_true hx
    have := h.2
    omega

theorem sq_of_bnd {C : Int} {s : List Band} (hs : Canon s) (h : BndBy C s) : SqBy C s := by
  intro x y hm
  obtain ⟨b, hb, h1, h2, ho⟩ := mem_band hm
  obtain ⟨k1, k2, k3⟩ := h b hb
  obtain ⟨⟨a, ha, hax⟩, c, hc, hcx⟩ := odd_true_range (hs.ok b hb).2.2 ho
  have := k3 a ha
  have := k3 c hc
  exact ⟨by omega, by omega, by omega, by omega⟩

theorem bnd_xs_length {C : Int} {s : List Band} (hs : Canon s) (h : BndBy C s) (h0 : 0 ≤ C) : ∀ b ∈ s, (b.xs.length : Int) ≤ 2 * C + 1 := by
  intro b hb
  have := asc_length b.xs (-C) C (hs.ok b hb).2.2.1 (by omega) (h b hb).2.2
  omega

/-! ### The merging -/
def atX : List Band → Int → List Int
  | [], _ => []
  | b :: _, y => if y < b.y0 then [] else b.xs
def atN : List Band → Int → Int → Int
  | [], _, e => e
  | b :: _, y, e => if y < b.y0 then min e b.y0 else min e b.y1

theorem atX_cons (b : Band) (r : List Band) (y : Int) : atX (b :: r) y = if y < b.y0 then [] else b.xs := rfl
theorem atN_cons (b : Band) (r : List Band) (y e : Int) : atN (b :: r) y e = if y < b.y0 then min e b.y0 else min e b.y1 := rfl

theorem row_upto {s : List Band} {y : Int} (h : Upto s y) (z : Int) (hz : y ≤ z) : row s z = [] := by
  rcases row_nil_or (s := s) z with e | ⟨b, hb, _, h2, _⟩
  · exact e
  · have := h b hb; omega

theorem row_append_upto (s t : List Band) (y z : Int) (h : Upto s y) (hz : y ≤ z) : row (s ++ t) z = row t z := by
  induction s with
  | nil => rfl
  | cons b s ih =>
    have := h b (by simp)
    show (if b.y0 ≤ z ∧ z < b.y1 then b.xs else row (s ++ t) z) = _
    rw [if_neg (by omega)]
    exact ih fun c hc => h c (by simp [hc])

/-- What is left begins above y. -/
def Fresh (s : List Band) (y : Int) : Prop := ∀ b r, s = b :: r → y < b.y1

theorem atN_gt {s : List Band} {y e : Int} (hf : Fresh s y) (he : y < e) : y < atN s y e := by
  cases s with
  | nil => exact he
  | cons b r =>
    have := hf b r rfl
    rw [atN_cons]
    split <;> omega

theorem atN_le (s : List Band) (y e : Int) : atN s y e ≤ e := by
  cases s with
  | nil => exact Int.le_refl _
  | cons b r => rw [atN_cons]; split <;> omega

theorem row_at_next {s : List Band} {y e z : Int} (hs : Canon s) (h0 : y ≤ z) (h1 : z < atN s y e) : row s z = atX s y := by
  cases s with
  | nil => rfl
  | cons b r =>
    rw [atN_cons] at h1
    rw [atX_cons]
    by_cases g : y < b.y0
    · rw [if_pos g] at h1
      rw [if_pos g]
      refine row_below fun c hc => ?_
      rcases List.mem_cons.1 hc with rfl | hc
      · omega
      · have := hs.above c hc; have := hs.head.1; omega
    · rw [if_neg g] at h1
      rw [if_neg g, row, if_pos (by omega)]

theorem canon_drop : ∀ (s t : List Band), Canon (s ++ t) → Canon t
  | [], _, h => h
  | _ :: s, t, h => canon_drop s t h.tail

theorem atX_ok {s : List Band} (hs : Canon s) (y : Int) : XsOk (atX s y) := by
  cases s with
  | nil => exact ⟨List.Pairwise.nil, rfl⟩
  | cons b r =>
    rw [atX_cons]
    split
    · exact ⟨List.Pairwise.nil, rfl⟩
    · exact hs.head.2.2

/-- One of the two sets, seen from a height on. -/
structure Seen (a a' : List Band) (y : Int) : Prop where
  ex : ∃ a0, a = a0 ++ a' ∧ Upto a0 y

theorem Seen.start (a : List Band) (y : Int) : Seen a a y := ⟨[], rfl, fun b hb => by cases hb⟩

theorem Seen.drop {a a' : List Band} {b : Band} {y : Int} (h : Seen a (b :: a') y) (hb : b.y1 ≤ y) : Seen a a' y := by
  obtain ⟨a0, e, hu⟩ := h.ex
  exact ⟨a0 ++ [b], by simp [e], fun c hc => by
    rcases List.mem_append.1 hc with hc | hc
    · exact hu c hc
    · simp at hc; subst hc; exact hb⟩

theorem Seen.later {a a' : List Band} {y z : Int} (h : Seen a a' y) (hz : y ≤ z) : Seen a a' z := by
  obtain ⟨a0, e, hu⟩ := h.ex
  exact ⟨a0, e, fun c hc => by have := hu c hc; omega⟩

theorem Seen.canon {a a' : List Band} {y : Int} (h : Seen a a' y) (ha : Canon a) : Canon a' := by
  obtain ⟨a0, e, _⟩ := h.ex
  subst e
  exact canon_drop a0 a' ha

theorem Seen.row {a a' : List Band} {y e z : Int} (h : Seen a a' y) (ha : Canon a) (h0 : y ≤ z) (h1 : z < atN a' y e) : row a z = atX a' y := by
  have hc := h.canon ha
  obtain ⟨a0, e, hu⟩ := h.ex
  subst e
  rw [row_append_upto a0 a' y z hu h0]
  exact row_at_next hc h0 h1

theorem Seen.sub {a a' : List Band} {y : Int} (h : Seen a a' y) : ∀ b ∈ a', b ∈ a := by
  obtain ⟨a0, e, _⟩ := h.ex
  subst e
  intro b hb; simp [hb]

structure MergeInv (kp : Bool → Bool → Bool) (a b out : List Band) (y : Int) : Prop where
  can : Canon out
  upto : Upto out y
  spec : ∀ z, z < y → ∀ x, odd (row out z) x = kp (odd (row a z) x) (odd (row b z) x)

theorem MergeInv.start {kp : Bool → Bool → Bool} {a b : List Band} {y : Int} (hk : kp false false = false) (ha : ∀ c ∈ a, y ≤ c.y0) (hb : ∀ c ∈ b, y ≤ c.y0) : MergeInv kp a b [] y where
  can := True.intro
  upto := fun b hb => by cases hb
  spec := by
    intro z hz x
    rw [row_below (s := a) (fun c hc => by have := ha c hc; omega), row_below (s := b) (fun c hc => by have := hb c hc; omega)]
    simp [row, odd, hk]

theorem MergeInv.step {kp : Bool → Bool → Bool} {a b a' b' out : List Band} {y e : Int} {o : List Int} (h : MergeInv kp a b out y) (ha : Canon a) (hb : Canon b) (sa : Seen a a' y) (sb : Seen b b' y)
    (hfa : Fresh a' y) (hfb : Fresh b' y) (he : y < e) (ho : LineGives kp (atX a' y) (atX b' y) o) :
    MergeInv kp a b (pushB out ⟨y, min (atN a' y e) (atN b' y e), o⟩) (min (atN a' y e) (atN b' y e)) := by
  have h1 := atN_gt hfa he
  have h2 := atN_gt hfb he
  obtain ⟨k1, k2, k3⟩ := push_canon out ⟨y, min (atN a' y e) (atN b' y e), o⟩ h.can h.upto (by simp only; omega) ho.ok
  refine ⟨k1, k2, fun z hz x => ?_⟩
  rw [k3 z]
  by_cases g : y ≤ z
  · rw [if_pos ⟨g, hz⟩, ho.spec x, sa.row (e := e) ha g (by omega), sb.row (e := e) hb g (by omega)]
  · rw [if_neg (by simp only; omega)]
    exact h.spec z (by omega) x

theorem MergeInv.done {kp : Bool → Bool → Bool} {a b out : List Band} {y : Int} (h : MergeInv kp a b out y) (hk : kp false false = false) (ha : Upto a y) (hb : Upto b y) :
    Canon out ∧ ∀ x z, odd (row out z) x = kp (odd (row a z) x) (odd (row b z) x) := by
  refine ⟨h.can, fun x z => ?_⟩
  by_cases g : z < y
  · exact h.spec z g x
  · rw [row_upto h.upto z (by omega), row_upto ha z (by omega), row_upto hb z (by omega)]
    simp [odd, hk]

/-- What Merge gives. -/
structure MergeGives (kp : Bool → Bool → Bool) (a b s : List Band) : Prop where
  can : Canon s
  spec : ∀ x y, odd (row s y) x = kp (odd (row a y) x) (odd (row b y) x)

theorem MergeGives.sq {kp : Bool → Bool → Bool} {a b s : List Band} (h : MergeGives kp a b s) (hk : kp false false = false) {C : Int} (ha : SqBy C a) (hb : SqBy C b) : SqBy C s := by
  intro x y hm
  have e := h.spec x y
  unfold mem at hm
  rw [hm] at e
  cases e1 : odd (row a y) x with
  | true => exact ha x y e1
  | false =>
    cases e2 : odd (row b y) x with
    | true => exact hb x y e2
    | false => rw [e1, e2, hk] at e; cases e

theorem Seen.len {a t : List Band} {y C : Int} (h : Seen a t y) (ha : Canon a) (hb : BndBy C a) (h0 : 0 ≤ C) : ((atX t y).length : Int) ≤ 2 * C + 1 := by
  cases t with
  | nil => show (0 : Int) ≤ _; omega
  | cons b r =>
    rw [atX_cons]
    split
    · show (0 : Int) ≤ _; omega
    · exact bnd_xs_length ha hb h0 b (h.sub b List.mem_cons_self)

/-! ### Where the merging begins and ends -/
abbrev CC : Int := 1099511627776

def StartInv (a b : List Band) (k : Nat) (y e : Int) : Prop :=
  (1 ≤ k → ∀ c ∈ a, y ≤ c.y0 ∧ c.y1 ≤ e) ∧ (2 ≤ k → ∀ c ∈ b, y ≤ c.y0 ∧ c.y1 ≤ e) ∧ -1099511627776 ≤ y ∧ e ≤ 1099511627776

theorem canon_ends {c : Band} {r : List Band} (h : Canon (c :: r)) (h' : r.length < (c :: r).length) : ∀ d ∈ c :: r, c.y0 ≤ d.y0 ∧ d.y1 ≤ ((c :: r)[r.length]).y1 := by
  induction r generalizing c with
  | nil => intro d hd; simp at hd; subst hd; exact ⟨Int.le_refl _, Int.le_refl _⟩
  | cons e r ih =>
    intro d hd
    have h2 := ih h.2.2 (by simp)
    have h1 := h.2.1.1
    have h3 := h.head.1
    have h4 := h.2.2.head.1
    have h5 := (h2 e (by simp)).2
    have e0 : (c :: e :: r)[(e :: r).length] = (e :: r)[r.length] := by simp
    rw [e0]
    rcases List.mem_cons.1 hd with rfl | hd
    · exact ⟨Int.le_refl _, by omega⟩
    · have := h2 d hd
      exact ⟨by omega, this.2⟩

theorem merge_nil {kp : Bool → Bool → Bool} (hk : kp false false = false) : MergeGives kp [] [] [] := ⟨True.intro, fun x y => by simp [row, odd, hk]⟩

end Etch
