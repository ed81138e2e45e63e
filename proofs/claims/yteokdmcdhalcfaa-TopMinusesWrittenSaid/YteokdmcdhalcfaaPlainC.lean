/- Plain: two rows of stretches, merged (line). -/
import Derived.Test.YteokdmcdhalcfaaPlainA
namespace Etch

theorem odd_last (o : List Int) (x : Int) (y : Int) (h : x ≤ y) : odd (o ++ [x]) y = !odd o y := by
  rw [odd_append]; simp [odd, h]

theorem parity_snoc (o : List Int) (x : Int) : decide ((o ++ [x]).length % 2 = 1) = !decide (o.length % 2 = 1) := by
  rw [List.length_append]
  simp only [List.length_cons, List.length_nil]
  by_cases h : o.length % 2 = 1
  · have : ¬ (o.length + (0 + 1)) % 2 = 1 := by omega
    simp [h]; omega
  · have : (o.length + (0 + 1)) % 2 = 1 := by omega
    simp [h]; omega

structure LineInv (kp : Bool → Bool → Bool) (a b a0 a' b0 b' o : List Int) (p q is : Bool) : Prop where
  ea : a = a0 ++ a'
  eb : b = b0 ++ b'
  hp : p = decide (a0.length % 2 = 1)
  hq : q = decide (b0.length % 2 = 1)
  his : is = kp p q
  hpo : is = decide (o.length % 2 = 1)
  asc : Asc o
  lt : ∀ t, t ∈ a0 ∨ t ∈ b0 → ∀ u, u ∈ a' ∨ u ∈ b' → t < u
  sub : ∀ t ∈ o, t ∈ a0 ∨ t ∈ b0
  len : o.length ≤ a0.length + b0.length
  spec : ∀ x, (∀ u, u ∈ a' ∨ u ∈ b' → x < u) → odd o x = kp (odd a x) (odd b x)

theorem LineInv.start (kp : Bool → Bool → Bool) (a b : List Int) (hk : kp false false = false) : LineInv kp a b [] a [] b [] false false false where
  ea := rfl
  eb := rfl
  hp := rfl
  hq := rfl
  his := hk.symm
  hpo := rfl
  asc := List.Pairwise.nil
  lt := by intro t ht; simp at ht
  sub := by intro t ht; cases ht
  len := Nat.le_refl _
  spec := by
    intro x h
    rw [odd_below a x (fun u hu => h u (Or.inl hu)), odd_below b x (fun u hu => h u (Or.inr hu)), hk]; rfl

/-- What is left of a row when its numbers up to x are taken. -/
def Takes (x : Int) (t : Bool) (l l' : List Int) : Prop := (if t then l = x :: l' else l = l') ∧ ∀ u ∈ l', x < u

theorem LineInv.step {kp : Bool → Bool → Bool} {a b a0 a' b0 b' o : List Int} {p q is : Bool} (h : LineInv kp a b a0 a' b0 b' o p q is) (x : Int) (ta tb : Bool) (a2 b2 : List Int)
    (ha : Takes x ta a' a2) (hb : Takes x tb b' b2) (ht : (ta || tb) = true) :
    LineInv kp a b (a0 ++ if ta then [x] else []) a2 (b0 ++ if tb then [x] else []) b2 (if kp (xor p ta) (xor q tb) != is then o ++ [x] else o) (xor p ta) (xor q tb) (kp (xor p ta) (xor q tb)) := by
  have hx : x ∈ a' ∨ x ∈ b' := by
    cases ta with
    | true => left; have := ha.1; simp at this; rw [this]; simp
    | false =>
      cases tb with
      | true => right; have := hb.1; simp at this; rw [this]; simp
      | false => simp at ht
  have h2a : ∀ u ∈ a2, u ∈ a' := by
    intro u hu; have := ha.1; cases ta <;> simp at this
    · rw [this]; exact hu
    · rw [this]; simp [hu]
  have h2b : ∀ u ∈ b2, u ∈ b' := by
    intro u hu; have := hb.1; cases tb <;> simp at this
    · rw [this]; exact hu
    · rw [this]; simp [hu]
  have hle : ∀ u, u ∈ a' ∨ u ∈ b' → x ≤ u := by
    intro u hu
    rcases hu with hu | hu
    · have := ha.1; cases ta <;> simp at this
      · rw [this] at hu; exact Int.le_of_lt (ha.2 u hu)
      · rw [this] at hu; rcases List.mem_cons.1 hu with rfl | hu
        · exact Int.le_refl _
        · exact Int.le_of_lt (ha.2 u hu)
    · have := hb.1; cases tb <;> simp at this
      · rw [this] at hu; exact Int.le_of_lt (hb.2 u hu)
      · rw [this] at hu; rcases List.mem_cons.1 hu with rfl | hu
        · exact Int.le_refl _
        · exact Int.le_of_lt (hb.2 u hu)
  have hol : ∀ t, t ∈ a0 ∨ t ∈ b0 → t < x := fun t ht => h.lt t ht x hx
  have pa : xor p ta = decide ((a0 ++ if ta then [x] else []).length % 2 = 1) := by
    rw [h.hp]
    cases ta with
    | true => rw [if_pos rfl, parity_snoc]; simp
    | false => simp
  have pb : xor q tb = decide ((b0 ++ if tb then [x] else []).length % 2 = 1) := by
    rw [h.hq]
    cases tb with
    | true => rw [if_pos rfl, parity_snoc]; simp
    | false => simp
  have ea : a = (a0 ++ if ta then [x] else []) ++ a2 := by
    rw [h.ea]; have := ha.1; cases ta <;> simp at this <;> simp [this]
  have eb : b = (b0 ++ if tb then [x] else []) ++ b2 := by
    rw [h.eb]; have := hb.1; cases tb <;> simp at this <;> simp [this]
  have po : kp (xor p ta) (xor q tb) = decide ((if kp (xor p ta) (xor q tb) != is then o ++ [x] else o).length % 2 = 1) := by
    by_cases e : (kp (xor p ta) (xor q tb) != is) = true
    · rw [if_pos e, parity_snoc, ← h.hpo]
      generalize kp (xor p ta) (xor q tb) = z at e
      cases z <;> cases is <;> simp_all
    · rw [if_neg e, ← h.hpo]
      generalize kp (xor p ta) (xor q tb) = z at e
      cases z <;> cases is <;> simp_all
  refine ⟨ea, eb, pa, pb, rfl, po, ?_, ?_, ?_, ?_, ?_⟩
  · split
    · refine List.pairwise_append.2 ⟨h.asc, by simp, fun t ht u hu => ?_⟩
      simp at hu; subst hu
      exact hol t (h.sub t ht)
    · exact h.asc
  · intro t ht u hu
    have hxu : x < u := by rcases hu with hu | hu; exact ha.2 u hu; exact hb.2 u hu
    rcases ht with ht | ht
    · rcases List.mem_append.1 ht with ht | ht
      · exact Int.lt_trans (hol t (Or.inl ht)) hxu
      · cases ta <;> simp at ht; subst ht; exact hxu
    · rcases List.mem_append.1 ht with ht | ht
      · exact Int.lt_trans (hol t (Or.inr ht)) hxu
      · cases tb <;> simp at ht; subst ht; exact hxu
  · intro t ht
    have key : t ∈ o ∨ t = x := by
      split at ht
      · rcases List.mem_append.1 ht with ht | ht
        · exact Or.inl ht
        · simp at ht; exact Or.inr ht
      · exact Or.inl ht
    rcases key with ht | rfl
    · rcases h.sub t ht with ht | ht
      · left; simp [ht]
      · right; simp [ht]
    · cases ta with
      | true => left; simp
      | false =>
        cases tb with
        | true => right; simp
        | false => simp_all
  · have l1 : (if kp (xor p ta) (xor q tb) != is then o ++ [x] else o).length ≤ o.length + 1 := by split <;> simp
    have := h.len
    have l2 : o.length + 1 ≤ (a0 ++ if ta then [x] else []).length + (b0 ++ if tb then [x] else []).length := by
      cases ta <;> cases tb <;> simp at ht <;> simp <;> omega
    omega
  · intro y hy
    by_cases g : y < x
    · have e1 : odd (if kp (xor p ta) (xor q tb) != is then o ++ [x] else o) y = odd o y := by
        split
        · rw [odd_append]; have : ¬ x ≤ y := by omega
          simp [odd, this]
        · rfl
      rw [e1]
      exact h.spec y fun u hu => Int.lt_of_lt_of_le g (hle u hu)
    · have o1 : odd a y = xor p ta := by
        rw [ea, odd_append, odd_below a2 y (fun u hu => hy u (Or.inl hu)), odd_above, pa]
        · simp
        · intro u hu
          rcases List.mem_append.1 hu with hu | hu
          · have := hol u (Or.inl hu); omega
          · cases ta <;> simp at hu; omega
      have o2 : odd b y = xor q tb := by
        rw [eb, odd_append, odd_below b2 y (fun u hu => hy u (Or.inr hu)), odd_above, pb]
        · simp
        · intro u hu
          rcases List.mem_append.1 hu with hu | hu
          · have := hol u (Or.inr hu); omega
          · cases tb <;> simp at hu; omega
      rw [o1, o2, odd_above, ← po]
      intro u hu
      have key : u ∈ o ∨ u = x := by
        split at hu
        · rcases List.mem_append.1 hu with hu | hu
          · exact Or.inl hu
          · simp at hu; exact Or.inr hu
        · exact Or.inl hu
      rcases key with hu | rfl
      · have := hol u (h.sub u hu); omega
      · omega

/-- What the merging of two rows gives. -/
structure LineGives (kp : Bool → Bool → Bool) (a b o : List Int) : Prop where
  ok : XsOk o
  sub : ∀ t ∈ o, t ∈ a ∨ t ∈ b
  len : o.length ≤ a.length + b.length
  spec : ∀ x, odd o x = kp (odd a x) (odd b x)

theorem LineInv.done {kp : Bool → Bool → Bool} {a b a0 b0 o : List Int} {p q is : Bool} (h : LineInv kp a b a0 [] b0 [] o p q is) (hk : kp false false = false) (ha : a.length % 2 = 0) (hb : b.length % 2 = 0) : LineGives kp a b o := by
  have ea := h.ea
  have eb := h.eb
  simp at ea eb
  subst ea; subst eb
  refine ⟨⟨h.asc, ?_⟩, h.sub, h.len, fun x => h.spec x (fun u hu => by simp at hu)⟩
  have h1 := h.hp; have h2 := h.hq; have h3 := h.his; have h4 := h.hpo
  rw [ha] at h1; rw [hb] at h2
  simp at h1 h2
  subst h1; subst h2
  rw [hk] at h3
  rw [h3] at h4
  have := of_decide_eq_false h4.symm
  omega

theorem asc_mid {a0 r : List Int} {x : Int} (h : Asc (a0 ++ x :: r)) : ∀ u ∈ r, x < u :=
  (List.pairwise_cons.1 (List.pairwise_append.1 h).2.1).1

/-- The next number stands in the one row alone. -/
theorem LineInv.stepA {kp : Bool → Bool → Bool} {a b a0 b0 b' o r : List Int} {x : Int} {p q is now : Bool} (h : LineInv kp a b a0 (x :: r) b0 b' o p q is) (ha : Asc a) (hb : ∀ u ∈ b', x < u) (hn : kp (!p) q = now) :
    LineInv kp a b (a0 ++ [x]) r b0 b' (if now != is then o ++ [x] else o) (!p) q now := by
  have := h.step x true false r b' ⟨rfl, asc_mid (h.ea ▸ ha)⟩ ⟨rfl, hb⟩ rfl
  simpa [hn] using this

theorem LineInv.stepB {kp : Bool → Bool → Bool} {a b a0 b0 a' o r : List Int} {x : Int} {p q is now : Bool} (h : LineInv kp a b a0 a' b0 (x :: r) o p q is) (hb : Asc b) (ha : ∀ u ∈ a', x < u) (hn : kp p (!q) = now) :
    LineInv kp a b a0 a' (b0 ++ [x]) r (if now != is then o ++ [x] else o) p (!q) now := by
  have := h.step x false true a' r ⟨rfl, ha⟩ ⟨rfl, asc_mid (h.eb ▸ hb)⟩ rfl
  simpa [hn] using this

theorem LineInv.stepAB {kp : Bool → Bool → Bool} {a b a0 b0 o r s : List Int} {x : Int} {p q is now : Bool} (h : LineInv kp a b a0 (x :: r) b0 (x :: s) o p q is) (ha : Asc a) (hb : Asc b) (hn : kp (!p) (!q) = now) :
    LineInv kp a b (a0 ++ [x]) r (b0 ++ [x]) s (if now != is then o ++ [x] else o) (!p) (!q) now := by
  have := h.step x true true r s ⟨rfl, asc_mid (h.ea ▸ ha)⟩ ⟨rfl, asc_mid (h.eb ▸ hb)⟩ rfl
  simpa [hn] using this

theorem LineInv.room {kp : Bool → Bool → Bool} {a b a0 a' b0 b' o : List Int} {p q is : Bool} (h : LineInv kp a b a0 a' b0 b' o p q is) : o.length + a'.length + b'.length ≤ a.length + b.length := by
  have := h.len
  rw [h.ea, h.eb, List.length_append, List.length_append]; omega

/-- A number in front of a row that begins later. -/
theorem LineInv.before {kp : Bool → Bool → Bool} {a b a0 b0 a' b' o s : List Int} {x y : Int} {p q is : Bool} (h : LineInv kp a b a0 a' b0 b' o p q is) (eb : b' = y :: s) (hb : Asc b) (hxy : x < y) : ∀ u ∈ b', x < u := by
  subst eb
  intro u hu
  rcases List.mem_cons.1 hu with rfl | hu
  · exact hxy
  · exact Int.lt_trans hxy (asc_mid (h.eb ▸ hb) u hu)

theorem LineInv.before' {kp : Bool → Bool → Bool} {a b a0 b0 a' b' o s : List Int} {x y : Int} {p q is : Bool} (h : LineInv kp a b a0 a' b0 b' o p q is) (ea : a' = y :: s) (ha : Asc a) (hxy : x < y) : ∀ u ∈ a', x < u := by
  subst ea
  intro u hu
  rcases List.mem_cons.1 hu with rfl | hu
  · exact hxy
  · exact Int.lt_trans hxy (asc_mid (h.ea ▸ ha) u hu)

end Etch
