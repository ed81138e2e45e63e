/- Opening of a law's arguments: rectangles; and how a row is shut. -/
import Derived.Test.YteokdmcdhalcfaaRows
import Derived.Test.YteokdmcdhalcfaaWords
import Derived.ProofKit
import Derived.SizedLaws
import Derived.Lib.SmallJoins
import Derived.Deep.Slices
namespace Go.Proofs.Yteokdmcdhalcfaa
open Go.ChangeShapes Go.WideShapes Go.ChangeAt Go.RowKit Go.Deep Etch

theorem Try.own : ownKnob Try.prog.godebug = none := by kernel_rfl
theorem Try.laidOut : laidOutB Try.prog = true := by kernel_rfl
theorem Try.cellsR : Try.prog.cellsOf 31 = 4 := by kernel_rfl
theorem Try.cellsI : Try.prog.cellsOf 3 = 1 := by kernel_rfl
theorem Try.bytesR : Try.prog.bytesOf 31 = 32 := by kernel_rfl

theorem shut_bool {H : Type} {enc : TypeId × Value → H} {W : World} {base : Nat} {sp : Nat → Bool} {held : Bool} (b : Bool) : DataW.Trod enc Try.prog W base sp held 4 (.bool b) (.lit (.bool b)) [] := ⟨1, by simp [DataW.trod, Value.cells, Try.underlying4]⟩

set_option maxRecDepth 100000 in
/-- An argument that is a slice of rectangles. -/
theorem open_rects {H : Type} {enc : TypeId × Value → H} {W : World} {r : Reach} {base : Nat} {v : Value} {d : DataW H} {p : List MemPlace} (hval : Value.okWide Try.prog W r base 22 v) (h : DataW.Trod enc Try.prog W 0 (fun _ => true) true 22 v d p)
    (hlen : ∀ elems spare, d = .slice elems spare → (elems.length + spare.length) * Try.prog.bytesOf 31 ≤ reachBytes) : ∃ rs : List R, RectsAt W v rs ∧ rs.length * 32 ≤ 140737488351232 := by
  obtain ⟨a0, len, cap, rfl⟩ := okWide_slice Try.underlying22 hval
  obtain ⟨fuel, hf⟩ := h
  rcases open_slice Try.underlying22 hf with ⟨hcs, hx⟩ | ⟨a, len', cap', m, n, D, Pl, hcs, _, hl, hm, hmm, hx, hel⟩
  · simp [Value.cells] at hcs
    obtain ⟨rfl, rfl, rfl⟩ := hcs
    exact ⟨[], ⟨none, 0, rfl, Nat.le_refl _, by simp, fun h => absurd h (by simp [csR])⟩, by simp⟩
  · simp [Value.cells] at hcs
    obtain ⟨rfl, rfl, rfl⟩ := hcs
    simp only [if_true] at hmm
    subst hmm
    have hd : d = .slice ((List.range len).map D) ((List.range (m - len)).map fun j => D (len + j)) := congrArg Prod.fst hx
    have hb := hlen _ _ hd
    rw [Try.bytesR] at hb
    simp only [List.length_map, List.length_range, reachBytes] at hb
    have hb2 : len * 32 ≤ 140737488351232 := by omega
    have each : ∀ i, i < m → ∃ q : R, ∀ j u, (cR q)[j]? = some u → W.cell? (a.add (i * 4 + j)) = some u := by
      intro i hi
      obtain ⟨cs', h1, h2⟩ := hel i hi
      rw [Try.cellsR] at h1
      obtain ⟨_, hlen', hcell⟩ := World.cells?_some h1
      obtain ⟨y0, y1, y2, y3, k, hxy, _, u0, u1, u2, u3⟩ := Go.Joins.trod_struct4 Try.underlying31 h2
      match cs', hlen' with
      | [v0, v1, v2, v3], _ =>
        simp only [Try.cellsI, List.drop, List.take] at u0 u1 u2 u3
        obtain ⟨q0, e0, d0, _⟩ := DataW.trod_int Try.underlying3 u0
        obtain ⟨q1, e1, d1, _⟩ := DataW.trod_int Try.underlying3 u1
        obtain ⟨q2, e2, d2, _⟩ := DataW.trod_int Try.underlying3 u2
        obtain ⟨q3, e3, d3, _⟩ := DataW.trod_int Try.underlying3 u3
        simp only [List.cons.injEq, and_true] at e0 e1 e2 e3
        subst e0; subst e1; subst e2; subst e3
        refine ⟨⟨q0, q1, q2, q3⟩, fun j u hu => ?_⟩
        have hj : j < 4 := by
          have := (List.getElem?_eq_some_iff.1 hu).1
          simpa [cR] using this
        have := hcell j hj
        rw [Go.Deep.add_add] at this
        rw [this]
        exact hu
    obtain ⟨q, hq⟩ := choose_lt (α := R) each
    refine ⟨(List.range len).map q, ⟨some a, m, by simp, by simpa using hl, by simp; omega, fun hpos => ?_⟩, by simpa using hb2⟩
    have hlen0 : 0 < len := by simpa [csR_length] using hpos
    obtain ⟨b, off, spot⟩ := a
    have c0 := hq 0 (by omega) 0 _ rfl
    have hspot : spot = none := by simpa [Addr.add] using World.cell?_spot c0
    subst hspot
    refine ⟨b, off, rfl, ?_, fun i u hu => ?_⟩
    · have := World.block_lt_of_cell? W _ c0
      simpa [Addr.add] using this
    · have hi : i < len * 4 := by
        have := (List.getElem?_eq_some_iff.1 hu).1
        simpa [csR_length] using this
      have hi4 : i % 4 < 4 := Nat.mod_lt _ (by omega)
      have hdm := Nat.div_add_mod i 4
      have hid : i / 4 < len := by omega
      have e : (csR ((List.range len).map q))[i]? = (cR (q (i / 4)))[i % 4]? := by
        have := csR_get ((List.range len).map q) (i / 4) (by simpa using hid) (i % 4) hi4
        rw [show i / 4 * 4 + i % 4 = i by omega] at this
        rw [this]
        simp
      rw [e] at hu
      have := hq (i / 4) (by omega) (i % 4) u hu
      rw [show i / 4 * 4 + i % 4 = i by omega] at this
      rw [← add_plain]
      exact this

end Go.Proofs.Yteokdmcdhalcfaa
