/- The walks: range checks (within, IsAt, isRect). -/
import Derived.Test.YteokdmcdhalcfaaRows
import Derived.Test.YteokdmcdhalcfaaWords
import Derived.WalkKit
import Derived.WalkSpells
import Derived.WalkLawsBesides
import Derived.Lib.Hide
namespace Go.Proofs.Yteokdmcdhalcfaa
open Go.RowKit Go.Lib Etch

set_option maxHeartbeats 400000 in
theorem within_any (n lo hi : Int) (w : World) :
    Calls Try.prog 77 #[.int .i64 n, .int .i64 lo, .int .i64 hi] w fun e w' => e = .returned (.bool (decide (lo ≤ n) && decide (n ≤ hi))) ∧ w = w' := by
  by_cases h1 : lo ≤ n
  · by_cases h2 : n ≤ hi
    · go_enter Try.func77, Try.ntmps77
      go_wp2
      go_ret
      exact ⟨by simp [h1, h2], rfl⟩
    · go_enter Try.func77, Try.ntmps77
      go_wp2
      go_ret
      exact ⟨by simp [h2], rfl⟩
  · have h3 : decide (lo ≤ n) = false := by simpa using h1
    go_enter Try.func77, Try.ntmps77
    go_wp2
    go_ret
    exact ⟨by simp [h1], rfl⟩

def isAtB (n : Int) : Bool := decide (-1000000 ≤ n) && decide (n ≤ 1000000)

set_option maxHeartbeats 400000 in
theorem isAt_any (n : Int) (w : World) :
    Calls Try.prog 104 #[.int .i64 n] w fun e w' => e = .returned (.bool (isAtB n)) ∧ w = w' := by
  go_enter Try.func104, Try.ntmps104
  go_wp2_with (go_at_call 77; refine (within_any _ _ _ _).mono ?_; rintro e w' ⟨rfl, rfl⟩)
  go_ret
  exact ⟨rfl, rfl⟩

def rectB (r : R) : Bool := isAtB r.x0 && isAtB r.y0 && isAtB r.x1 && isAtB r.y1

set_option maxHeartbeats 400000 in
theorem isRect_any (a b c d : Int) (w : World) :
    Calls Try.prog 75 #[.agg #[.int .i64 a, .int .i64 b, .int .i64 c, .int .i64 d]] w fun e w' => e = .returned (.bool (rectB ⟨a, b, c, d⟩)) ∧ Below w.heap.size w w' := by
  have hu := Try.underlying31
  have c0 := isAt_any a
  have c1 := isAt_any b
  have c2 := isAt_any c
  have c3 := isAt_any d
  unfold rectB
  generalize isAtB a = p at c0 ⊢
  generalize isAtB b = q at c1 ⊢
  generalize isAtB c = r at c2 ⊢
  generalize isAtB d = s at c3 ⊢
  have C0 := Lib.hid c0
  have C1 := Lib.hid c1
  have C2 := Lib.hid c2
  have C3 := Lib.hid c3
  clear c0 c1 c2 c3
  cases p
  all_goals try cases q
  all_goals try cases r
  all_goals
    go_enter Try.func75, Try.ntmps75
    go_wp2_with (go_at_call 104; (first | (with_reducible refine (C0.out _).mono ?_) | (with_reducible refine (C1.out _).mono ?_) | (with_reducible refine (C2.out _).mono ?_) | (with_reducible refine (C3.out _).mono ?_)); rintro e w' ⟨rfl, rfl⟩)
    go_ret
    exact ⟨rfl, (Below.refl _ _).alloc (Nat.le_refl _) _⟩

/-- The four cells of a box, behind what leaves it alone. -/
theorem box4 {w w' : World} {x0 x1 x2 x3 : Value} {t : TypeId} (h : Below (w.alloc (.cells #[x0, x1, x2, x3] t)).heap.size (w.alloc (.cells #[x0, x1, x2, x3] t)) w') :
    w'.cell? ⟨w.heap.size, 0, none⟩ = some x0 ∧ w'.cell? ⟨w.heap.size, 1, none⟩ = some x1 ∧ w'.cell? ⟨w.heap.size, 2, none⟩ = some x2 ∧ w'.cell? ⟨w.heap.size, 3, none⟩ = some x3 := by
  refine ⟨?_, ?_, ?_, ?_⟩ <;> (rw [h.cell (by simp)]; unfold World.cell?; rw [heap_alloc_new]; rfl)

/-- A rectangle within the range, not empty. -/
def RectOk (r : R) : Prop := rectB r = true ∧ r.x0 < r.x1 ∧ r.y0 < r.y1

set_option maxHeartbeats 400000 in
set_option maxRecDepth 100000 in
theorem checkRects_any (v : Value) (rs : List R) (w : World) (h : RectsAt w v rs) :
    Calls Try.prog 44 #[v] w fun e w' => ∃ c : Int, e = .returned (.int .i64 c) ∧ (c = 0 ↔ rs.length ≤ 2000 ∧ ∀ r ∈ rs, RectOk r) ∧ Below w.heap.size w w' := by
  have hu := Try.underlying31
  obtain ⟨a, cap, rfl, hcap, hn, hc⟩ := h.open
  by_cases hbig : 2000 < rs.length
  · have hbig' : (2000 : Int) < (rs.length : Int) := by omega
    go_enter Try.func44, Try.ntmps44
    go_wp2
    go_ret
    exact ⟨2, rfl, by simp; omega, Below.refl _ _⟩
  · have hbig' : ¬ (2000 : Int) < (rs.length : Int) := by omega
    go_enter Try.func44, Try.ntmps44
    go_wp2
    go_loopw [10] (fun i wr => ∃ k : Nat, k ≤ rs.length ∧ i = .int .i64 k ∧ Below w.heap.size w wr ∧ Hid (∀ j (hj : j < k) (hl : j < rs.length), RectOk rs[j])) (fun i _ => rs.length - (intOf i).toNat)
    case atStart => exact ⟨0, Nat.zero_le _, rfl, Below.refl _ _, fun j hj => absurd hj (Nat.not_lt_zero _)⟩
    case round =>
      obtain ⟨k, hk, rfl, hb, HOK⟩ := hrel
      by_cases hlt : k < rs.length
      · obtain ⟨b, o, rfl, hbs, hcell⟩ := hc (by omega)
        obtain ⟨g0, g1, g2, g3⟩ := hcell k hlt
        have e0 := (hb.cell (p := ⟨b, o + k * 4, none⟩) hbs).trans g0
        have e1 := (hb.cell (p := ⟨b, o + k * 4 + 1, none⟩) hbs).trans g1
        have e2 := (hb.cell (p := ⟨b, o + k * 4 + 2, none⟩) hbs).trans g2
        have e3 := (hb.cell (p := ⟨b, o + k * 4 + 3, none⟩) hbs).trans g3
        clear hcell g0 g1 g2 g3 hc
        generalize hr : rs[k] = r at e0 e1 e2 e3
        have HR := Lib.hid hr
        clear hr
        have hmem : r ∈ rs := by rw [← HR.out]; exact List.getElem_mem hlt
        have HM := Lib.hid hmem
        clear hmem
        have cr := fun W => isRect_any r.x0 r.y0 r.x1 r.y1 W
        have er : rectB ⟨r.x0, r.y0, r.x1, r.y1⟩ = rectB r := rfl
        rw [er] at cr
        clear er
        have no : ¬ RectOk r → ∀ c : Int, c ≠ 0 → (c = 0 ↔ rs.length ≤ 2000 ∧ ∀ r ∈ rs, RectOk r) := fun h c hc => ⟨fun e => absurd e hc, fun e => absurd (e.2 r HM.out) h⟩
        have NO := Lib.hid no
        clear no
        cases hrb : rectB r with
        | false =>
          rw [hrb] at cr
          have CR := Lib.hid cr
          have HB := Lib.hid hrb
          clear cr hrb
          go_wp2_with (go_at_call 75; refine (CR.out _).mono ?_; rintro e w' ⟨rfl, hb'⟩)
          go_ret
          exact ⟨1, rfl, NO.out (by unfold RectOk; rw [HB.out]; simp) 1 (by decide), (hb.alloc hb.size _).trans (hb'.mono (by have := hb.size; simp; omega))⟩
        | true =>
          rw [hrb] at cr
          have CR := Lib.hid cr
          have HB := Lib.hid hrb
          clear cr hrb
          by_cases hx : r.x1 ≤ r.x0
          · go_wp2_with (go_at_call 75; refine (CR.out _).mono ?_; rintro e w' ⟨rfl, hb'⟩; have hb2 := (hb.alloc hb.size (.cells #[.int .i64 r.x0, .int .i64 r.y0, .int .i64 r.x1, .int .i64 r.y1] 31)).trans (hb'.mono (by have := hb.size; simp; omega)); obtain ⟨f0, f1, f2, f3⟩ := box4 hb'; clear hb')
            go_ret
            exact ⟨13, rfl, NO.out (by unfold RectOk; omega) 13 (by decide), hb2⟩
          · by_cases hy : r.y1 ≤ r.y0
            · have hx' : decide (r.x1 ≤ r.x0) = false := by simpa using hx
              go_wp2_with (go_at_call 75; refine (CR.out _).mono ?_; rintro e w' ⟨rfl, hb'⟩; have hb2 := (hb.alloc hb.size (.cells #[.int .i64 r.x0, .int .i64 r.y0, .int .i64 r.x1, .int .i64 r.y1] 31)).trans (hb'.mono (by have := hb.size; simp; omega)); obtain ⟨f0, f1, f2, f3⟩ := box4 hb'; clear hb')
              go_ret
              exact ⟨13, rfl, NO.out (by unfold RectOk; omega) 13 (by decide), hb2⟩
            · have hx' : decide (r.x1 ≤ r.x0) = false := by simpa using hx
              go_wp2_with (go_at_call 75; refine (CR.out _).mono ?_; rintro e w' ⟨rfl, hb'⟩; have hb2 := (hb.alloc hb.size (.cells #[.int .i64 r.x0, .int .i64 r.y0, .int .i64 r.x1, .int .i64 r.y1] 31)).trans (hb'.mono (by have := hb.size; simp; omega)); obtain ⟨f0, f1, f2, f3⟩ := box4 hb'; clear hb')
              go_round
              case rel =>
                refine ⟨k + 1, by omega, by go_num, hb2, ?_⟩
                intro j hj hl
                rcases Nat.lt_succ_iff_lt_or_eq.1 hj with h | h
                · exact HOK.out j h hl
                · subst h; rw [HR.out]; exact ⟨HB.out, by omega, by omega⟩
              case measure => simp [intOf]; omega
      · have hd : ¬ (k : Int) < (rs.length : Int) := by omega
        have HC := Lib.hid hc
        clear hc
        go_wp2
        go_ret
        refine ⟨0, rfl, ?_, hb⟩
        simp only [true_iff]
        refine ⟨by omega, fun r hr => ?_⟩
        obtain ⟨j, hj, rfl⟩ := List.getElem_of_mem hr
        exact HOK.out j (by omega) hj

end Go.Proofs.Yteokdmcdhalcfaa
