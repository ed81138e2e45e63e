/- Plain: how many rectangles a set can have; regions. -/
import Derived.Test.YteokdmcdhalcfaaPlainG
namespace Etch

theorem canon_count : ∀ (s : List Band) (lo hi : Int), Canon s → lo ≤ hi → (∀ b ∈ s, lo ≤ b.y0 ∧ b.y1 ≤ hi) → (s.length : Int) ≤ hi - lo
  | [], lo, hi, _, h, _ => by simp; omega
  | [b], lo, hi, hc, h, hb => by
    have h1 := hb b (by simp)
    have h2 : b.y0 < b.y1 := hc.1
    simp only [List.length_singleton]
    omega
  | b :: c :: s, lo, hi, hc, h, hb => by
    have h1 := hb b (by simp)
    have h2 : b.y0 < b.y1 := hc.1.1
    have h3 := hb c (by simp)
    have h4 : c.y0 < c.y1 := by
      have := hc.2.2
      cases s with
      | nil => exact this.1
      | cons d s => exact this.1.1
    have h5 : b.y1 ≤ c.y0 := hc.2.1.1
    have ih := canon_count (c :: s) b.y1 hi hc.2.2 (by omega) (fun d hd => ⟨by
      obtain ⟨i, hi', rfl⟩ := List.getElem_of_mem hd
      exact canon_low (c :: s) b.y1 hc.2.2 (by simpa using h5) _ (List.getElem_mem hi'), (hb d (List.mem_cons_of_mem _ hd)).2⟩)
    simp only [List.length_cons] at ih ⊢
    omega
where
  canon_low : ∀ (s : List Band) (lo : Int), Canon s → (∀ b ∈ s.head?, lo ≤ b.y0) → ∀ d ∈ s, lo ≤ d.y0
    | [], _, _, _ => by simp
    | [b], lo, _, h => by simpa using h
    | b :: c :: s, lo, hc, h => by
      have hb : lo ≤ b.y0 := h b rfl
      intro d hd
      rcases List.mem_cons.1 hd with rfl | hd
      · exact hb
      · exact canon_low (c :: s) lo hc.2.2 (fun e he => by
          cases he
          have := hc.1.1; have := hc.2.1.1; omega) d hd

theorem rects_le (C : Nat) : ∀ (s : List Band), (∀ b ∈ s, (b.xs.length : Int) ≤ 2 * C + 1) → (rects s).length ≤ s.length * C
  | [], _ => by simp [rects]
  | b :: s, h => by
    have ih := rects_le C s fun c hc => h c (by simp [hc])
    have h1 := h b (by simp)
    simp only [rects, List.length_append, bandRects_length, List.length_cons, Nat.add_mul, Nat.one_mul]
    omega

theorem rects_count {s : List Band} (hs : Canon s) {C : Nat} (hb : BndBy C s) : (rects s).length ≤ 2 * C * C := by
  have h1 := rects_le C s (bnd_xs_length hs hb (by omega))
  have h2 := canon_count s (-(C : Int)) C hs (by omega) fun b hb' => ⟨(hb b hb').1, (hb b hb').2.1⟩
  have h3 : s.length ≤ 2 * C := by omega
  exact Nat.le_trans h1 (Nat.mul_le_mul_right C h3)

theorem rects_few {s : List Band} (hs : Canon s) (hb : BndBy 1400010 s) : (rects s).length ≤ 4398046511104 := by
  have := rects_count hs (C := 1400010) (by simpa using hb)
  omega

/-- All squares of rectangles are from -C to C. -/
def CovBy (C : Int) (l : List R) : Prop := ∀ r ∈ l, -C ≤ r.x0 ∧ r.x1 ≤ C ∧ -C ≤ r.y0 ∧ r.y1 ≤ C

theorem CovBy.sq {C : Int} {l : List R} (h : CovBy C l) {s : List Band} (hs : ∀ x y, mem s x y ↔ cov l x y) : SqBy C s := by
  intro x y hm
  obtain ⟨r, hr, h1⟩ := (hs x y).1 hm
  have := h r hr
  unfold R.has at h1
  omega

theorem BndBy.mono {C D : Int} {s : List Band} (h : BndBy C s) (hcd : C ≤ D) : BndBy D s := fun b hb => by
  obtain ⟨h1, h2, h3⟩ := h b hb
  exact ⟨by omega, by omega, fun x hx => by have := h3 x hx; omega⟩

theorem SqBy.mono {C D : Int} {s : List Band} (h : SqBy C s) (hcd : C ≤ D) : SqBy D s := fun x y hm => by
  have := h x y hm; omega

theorem Canon.evens {s : List Band} (h : Canon s) : ∀ b ∈ s, b.xs.length % 2 = 0 := fun b hb => (h.ok b hb).2.2.2

theorem reg_of_eq {s : List Band} {l : List R} (hs : Canon s) (h : rects s = l) : Reg l := ⟨s, hs, h⟩

theorem reg_rects {s : List Band} {l : List R} (h : Reg l) (hs : SetGives l s) : rects s = l := by
  obtain ⟨t, ht, rfl⟩ := h
  rw [canon_unique hs.1 ht fun x y => (hs.2 x y).trans (rects_cov ht x y)]

theorem odd_cov {l : List R} {s : List Band} (h : SetGives l s) (x y : Int) : odd (row s y) x = true ↔ cov l x y := h.2 x y

/-- The rectangles of a set. -/
theorem reg_of_set {s : List Band} (hs : Canon s) : Reg (rects s) := ⟨s, hs, rfl⟩

theorem mixed_of {kp : Bool → Bool → Bool} {Q : Prop → Prop → Prop} (hQ : ∀ p q, kp p q = true ↔ Q (p = true) (q = true)) {a b : List R} {sa sb s : List Band} (ha : SetGives a sa) (hb : SetGives b sb) (h : MergeGives kp sa sb s) :
    ∀ x y, cov (rects s) x y ↔ Q (cov a x y) (cov b x y) := by
  intro x y
  rw [rects_cov h.can]
  unfold mem
  rw [h.spec, hQ, propext (odd_cov ha x y), propext (odd_cov hb x y)]

end Etch
