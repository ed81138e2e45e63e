/- Words for memory: what a slice value holds (numbers, rectangles, bands), and that it goes on holding it while nothing below the heap's end turns. -/
import Derived.Test.YteokdmcdhalcfaaRows
import Derived.Test.YteokdmcdhalcfaaPlainA
import Derived.WalkKit
import Derived.Lib.Hide
namespace Go.Proofs.Yteokdmcdhalcfaa
open Go.RowKit Go.Lib Etch

/-- A slice value of n elements whose cells are cs. -/
def Cells (w : World) (v : Value) (n : Nat) (cs : List Value) : Prop :=
  ∃ a cap, v = .slice a n cap ∧ n ≤ cap ∧ n ≤ 17592186044416 ∧
    (0 < cs.length → ∃ b o, a = some ⟨b, o, none⟩ ∧ b < w.heap.size ∧ ∀ i u, cs[i]? = some u → w.cell? ⟨b, o + i, none⟩ = some u)

theorem Cells.below {w w' : World} {v : Value} {n : Nat} {cs : List Value} {B : Nat} (h : Cells w v n cs) (hb : Below B w w') (hB : w.heap.size ≤ B) : Cells w' v n cs := by
  obtain ⟨a, cap, rfl, h1, h2, h3⟩ := h
  refine ⟨a, cap, rfl, h1, h2, fun hl => ?_⟩
  obtain ⟨b, o, rfl, hlt, hc⟩ := h3 hl
  exact ⟨b, o, rfl, Nat.lt_of_lt_of_le hlt hb.size, fun i u hu => (hb.cell (p := ⟨b, o + i, none⟩) (Nat.lt_of_lt_of_le hlt hB)).trans (hc i u hu)⟩

/-- .. while a row is written in which they do not lie. -/
theorem Cells.grown {w w' : World} {v : Value} {n : Nat} {cs : List Value} {row : Option Nat} (h : Cells w v n cs) (hg : w.grownBy w' row) (hne : v.ownBlock = none ∨ v.ownBlock ≠ row) : Cells w' v n cs := by
  obtain ⟨a, cap, rfl, h1, h2, h3⟩ := h
  refine ⟨a, cap, rfl, h1, h2, fun hl => ?_⟩
  obtain ⟨b, o, rfl, hlt, hc⟩ := h3 hl
  refine ⟨b, o, rfl, Nat.lt_of_lt_of_le hlt hg.size, fun i u hu => ?_⟩
  exact hg.cell (hc i u hu) (by simpa [Value.ownBlock] using hne)

theorem Cells.nil (w : World) : Cells w (.slice none 0 0) 0 [] := ⟨none, 0, rfl, Nat.le_refl _, by omega, fun h => absurd h (by simp)⟩

/-- What a call owns it can read. -/
theorem Cells.own {w : World} {base : Nat} {e : TypeId} {size : Nat} {v : Value} {n : Nat} {cs : List Value} (h : w.ownsRow base e size v n cs) (hn : n ≤ 17592186044416) : Cells w v n cs := by
  obtain ⟨hl, ⟨rfl, rfl⟩ | ⟨g, cap, cur, rfl, hb, hg, hnc, hm, hs, ht⟩⟩ := h
  · have : cs = [] := List.eq_nil_of_length_eq_zero (by simpa using hl)
    subst this
    exact Cells.nil w
  · refine ⟨_, cap, rfl, hnc, hn, fun _ => ⟨g, 0, rfl, (Array.getElem?_eq_some_iff.1 hg).1, fun i u hu => ?_⟩⟩
    rw [Nat.zero_add, cell_of_row w g i cur e (0, 0) hg]
    rw [← ht, List.getElem?_take] at hu
    split at hu
    · simpa using hu
    · cases hu

/-! ### Numbers -/
def vI (x : Int) : Value := .int .i64 x
def IntsAt (w : World) (v : Value) (xs : List Int) : Prop := Cells w v xs.length (xs.map vI)

theorem IntsAt.below {w w' : World} {v : Value} {xs : List Int} {B : Nat} (h : IntsAt w v xs) (hb : Below B w w') (hB : w.heap.size ≤ B) : IntsAt w' v xs := Cells.below h hb hB

/-! ### Rectangles -/
def cR (r : R) : List Value := [.int .i64 r.x0, .int .i64 r.y0, .int .i64 r.x1, .int .i64 r.y1]
def vR (r : R) : Value := .agg #[.int .i64 r.x0, .int .i64 r.y0, .int .i64 r.x1, .int .i64 r.y1]
def csR (rs : List R) : List Value := rs.flatMap cR
def RectsAt (w : World) (v : Value) (rs : List R) : Prop := Cells w v rs.length (csR rs)

theorem csR_length (rs : List R) : (csR rs).length = rs.length * 4 := by
  induction rs with
  | nil => rfl
  | cons r rs ih => rw [csR, List.flatMap_cons, List.length_append]; show 4 + (csR rs).length = _; rw [ih, List.length_cons]; omega

theorem csR_append (a b : List R) : csR (a ++ b) = csR a ++ csR b := by simp [csR]

theorem csR_get (rs : List R) (i : Nat) (h : i < rs.length) (c : Nat) (hc : c < 4) : (csR rs)[i * 4 + c]? = (cR rs[i])[c]? := by
  induction rs generalizing i with
  | nil => simp at h
  | cons r rs ih =>
    have e : csR (r :: rs) = cR r ++ csR rs := rfl
    rw [e]
    cases i with
    | zero => rw [List.getElem?_append_left (by simp [cR]; omega)]; simp
    | succ i =>
      rw [List.getElem?_append_right (by simp [cR]; omega)]
      have := ih i (by simpa using h)
      simp only [cR, List.length_cons, List.length_nil] at this ⊢
      rw [show (i + 1) * 4 + c - (0 + 1 + 1 + 1 + 1) = i * 4 + c from by omega]
      simpa using this

/-- A rectangle's four cells. -/
theorem RectsAt.open {w : World} {v : Value} {rs : List R} (h : RectsAt w v rs) : ∃ a cap, v = .slice a rs.length cap ∧ rs.length ≤ cap ∧ rs.length ≤ 17592186044416 ∧
    (0 < rs.length → ∃ b o, a = some ⟨b, o, none⟩ ∧ b < w.heap.size ∧ ∀ i (hi : i < rs.length),
      w.cell? ⟨b, o + i * 4, none⟩ = some (.int .i64 rs[i].x0) ∧ w.cell? ⟨b, o + i * 4 + 1, none⟩ = some (.int .i64 rs[i].y0) ∧ w.cell? ⟨b, o + i * 4 + 2, none⟩ = some (.int .i64 rs[i].x1) ∧ w.cell? ⟨b, o + i * 4 + 3, none⟩ = some (.int .i64 rs[i].y1)) := by
  obtain ⟨a, cap, rfl, h1, h2, h3⟩ := h
  refine ⟨a, cap, rfl, h1, h2, fun hl => ?_⟩
  obtain ⟨b, o, rfl, hlt, hc⟩ := h3 (by rw [csR_length]; omega)
  refine ⟨b, o, rfl, hlt, fun i hi => ⟨?_, ?_, ?_, ?_⟩⟩
  · have := hc (i * 4 + 0) _ ((csR_get rs i hi 0 (by omega)).trans rfl); rwa [Nat.add_zero] at this
  · have := hc (i * 4 + 1) _ ((csR_get rs i hi 1 (by omega)).trans rfl); rwa [← Nat.add_assoc] at this
  · have := hc (i * 4 + 2) _ ((csR_get rs i hi 2 (by omega)).trans rfl); rwa [← Nat.add_assoc] at this
  · have := hc (i * 4 + 3) _ ((csR_get rs i hi 3 (by omega)).trans rfl); rwa [← Nat.add_assoc] at this

theorem RectsAt.below {w w' : World} {v : Value} {rs : List R} {B : Nat} (h : RectsAt w v rs) (hb : Below B w w') (hB : w.heap.size ≤ B) : RectsAt w' v rs := Cells.below h hb hB

theorem IntsAt.open {w : World} {v : Value} {xs : List Int} (h : IntsAt w v xs) : ∃ a cap, v = .slice a xs.length cap ∧ xs.length ≤ cap ∧ xs.length ≤ 17592186044416 ∧
    (0 < xs.length → ∃ b o, a = some ⟨b, o, none⟩ ∧ b < w.heap.size ∧ ∀ i (hi : i < xs.length), w.cell? ⟨b, o + i, none⟩ = some (.int .i64 xs[i])) := by
  obtain ⟨a, cap, rfl, h1, h2, h3⟩ := h
  refine ⟨a, cap, rfl, h1, h2, fun hl => ?_⟩
  obtain ⟨b, o, rfl, hlt, hc⟩ := h3 (by simpa using hl)
  exact ⟨b, o, rfl, hlt, fun i hi => hc i _ (by simp [hi, vI])⟩

/-! ### Bands -/
def cB (b : Band) (u : Value) : List Value := [.int .i64 b.y0, .int .i64 b.y1, u]
def csB : List Band → List Value → List Value
  | b :: s, u :: us => cB b u ++ csB s us
  | _, _ => []

theorem csB_length : ∀ (s : List Band) (us : List Value), us.length = s.length → (csB s us).length = s.length * 3
  | [], [], _ => rfl
  | b :: s, u :: us, h => by
    rw [csB, List.length_append, csB_length s us (by simpa using h)]
    simp only [cB, List.length_cons, List.length_nil]; omega

theorem csB_append : ∀ (s t : List Band) (us vs : List Value), us.length = s.length → csB (s ++ t) (us ++ vs) = csB s us ++ csB t vs
  | [], _, [], _, _ => rfl
  | b :: s, t, u :: us, vs, h => by
    show cB b u ++ csB (s ++ t) (us ++ vs) = (cB b u ++ csB s us) ++ csB t vs
    rw [csB_append s t us vs (by simpa using h), List.append_assoc]

theorem csB_get : ∀ (s : List Band) (us : List Value) (hl : us.length = s.length) (i : Nat) (h : i < s.length) (c : Nat), c < 3 → (csB s us)[i * 3 + c]? = (cB s[i] (us[i]'(by omega)))[c]?
  | b :: s, u :: us, hl, 0, h, c, hc => by
    show (cB b u ++ csB s us)[0 * 3 + c]? = _
    rw [List.getElem?_append_left (by simp [cB]; omega)]; simp
  | b :: s, u :: us, hl, i + 1, h, c, hc => by
    show (cB b u ++ csB s us)[(i + 1) * 3 + c]? = _
    rw [List.getElem?_append_right (by simp [cB]; omega)]
    have := csB_get s us (by simpa using hl) i (by simpa using h) c hc
    simp only [cB, List.length_cons, List.length_nil] at this ⊢
    rw [show (i + 1) * 3 + c - (0 + 1 + 1 + 1) = i * 3 + c from by omega]
    simpa using this

/-- A set's value: its bands' cells, each with a value that holds its stretches. -/
def BandsAt (w : World) (v : Value) (s : List Band) : Prop :=
  ∃ us : List Value, us.length = s.length ∧ Cells w v s.length (csB s us) ∧ ∀ i (h : i < s.length) (h' : i < us.length), IntsAt w us[i] s[i].xs

theorem BandsAt.below {w w' : World} {v : Value} {s : List Band} {B : Nat} (h : BandsAt w v s) (hb : Below B w w') (hB : w.heap.size ≤ B) : BandsAt w' v s := by
  obtain ⟨us, h1, h2, h3⟩ := h
  exact ⟨us, h1, h2.below hb hB, fun i h h' => (h3 i h h').below hb hB⟩

theorem BandsAt.open {w : World} {v : Value} {s : List Band} (h : BandsAt w v s) : ∃ a cap, v = .slice a s.length cap ∧ s.length ≤ cap ∧ s.length ≤ 17592186044416 ∧
    (0 < s.length → ∃ b o, a = some ⟨b, o, none⟩ ∧ b < w.heap.size ∧ ∀ i (hi : i < s.length), ∃ u, IntsAt w u s[i].xs ∧
      w.cell? ⟨b, o + i * 3, none⟩ = some (.int .i64 s[i].y0) ∧ w.cell? ⟨b, o + i * 3 + 1, none⟩ = some (.int .i64 s[i].y1) ∧ w.cell? ⟨b, o + i * 3 + 2, none⟩ = some u) := by
  obtain ⟨us, hl, ⟨a, cap, rfl, h1, h2, h3⟩, hu⟩ := h
  refine ⟨a, cap, rfl, h1, h2, fun hp => ?_⟩
  obtain ⟨b, o, rfl, hlt, hc⟩ := h3 (by rw [csB_length s us hl]; omega)
  refine ⟨b, o, rfl, hlt, fun i hi => ⟨us[i]'(by omega), hu i hi (by omega), ?_, ?_, ?_⟩⟩
  · have := hc (i * 3 + 0) _ ((csB_get s us hl i hi 0 (by omega)).trans rfl); rwa [Nat.add_zero] at this
  · have := hc (i * 3 + 1) _ ((csB_get s us hl i hi 1 (by omega)).trans rfl); rwa [← Nat.add_assoc] at this
  · have := hc (i * 3 + 2) _ ((csB_get s us hl i hi 2 (by omega)).trans rfl); rwa [← Nat.add_assoc] at this

end Go.Proofs.Yteokdmcdhalcfaa
