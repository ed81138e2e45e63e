/- The walks of wDo's methods: is, union, both, minus, told. -/
import Derived.Test.YteokdmcdhalcfaaWalkK
namespace Go.Proofs.Yteokdmcdhalcfaa
open Go.RowKit Go.Lib Go.Shelf Go.Sort Etch
attribute [local go_sem ↓] Go.wp_at_zero Go.wp_at_succ

/-- The cell of a wDo. -/
def Dat (w : World) (D : Nat) (bad : Bool) : Prop := w.heap[D]? = some (.cells #[.bool bad] 25 (0, 0))

/-- A region that lies aside of a wDo. -/
structure Rg (D : Nat) (w : World) (v : Value) (rs : List R) : Prop where
  at_ : RectsAt w v rs
  ne : rs ≠ [] → v.ownBlock ≠ some D

theorem Rg.grown {D : Nat} {w w' : World} {v : Value} {rs : List R} (h : Rg D w v rs) (hg : w.grownBy w' (some D)) : Rg D w' v rs := by
  refine ⟨?_, h.ne⟩
  by_cases h0 : rs = []
  · subst h0
    obtain ⟨a, cap, rfl, h1, h2, -⟩ := h.at_
    exact ⟨a, cap, rfl, h1, h2, fun h => absurd h (by simp [csR])⟩
  · exact Cells.grown h.at_ hg (Or.inr (h.ne h0))

theorem Rg.shape {D : Nat} {w : World} {v : Value} {rs : List R} (h : Rg D w v rs) : ∃ a c, v = .slice a rs.length c := by
  obtain ⟨a, cap, rfl, -⟩ := h.at_
  exact ⟨a, cap, rfl⟩

/-- Regions that a law holds. -/
def Held (D : Nat) (w : World) (l : List (Value × List R)) : Prop := ∀ p, p ∈ l → Rg D w p.1 p.2

theorem Held.step {D : Nat} {w w' : World} {l : List (Value × List R)} {v : Value} {rs : List R} (h : Held D w l) (hg : w.grownBy w' (some D)) (hr : Rg D w' v rs) : Held D w' ((v, rs) :: l) := by
  intro p hp
  rcases List.mem_cons.1 hp with rfl | hp
  · exact hr
  · exact (h p hp).grown hg

/-- Each one equals the next one. -/
def Pairs : List (List R) → Prop
  | a :: b :: r => a = b ∧ Pairs r
  | _ => True

theorem Pairs.get : ∀ {l : List (List R)}, Pairs l → ∀ i (h : i + 1 < l.length), i % 2 = 0 → l[i] = l[i + 1]
  | [], _, i, h, _ => absurd h (by simp)
  | [_], _, i, h, _ => absurd h (by simp)
  | a :: b :: r, hp, 0, _, _ => hp.1
  | a :: b :: r, hp, 1, _, h2 => by omega
  | a :: b :: r, hp, i + 2, h, h2 => by
    have := Pairs.get hp.2 i (by simp at h; omega) (by omega)
    simpa using this

/-- What a method of wDo gives. -/
def Made (D : Nat) (bad : Bool) (w : World) (P : List R → Prop) (e : Ending) (w' : World) : Prop :=
  ∃ (v : Value) (rs : List R) (bad' : Bool), e = .returned v ∧ Rg D w' v rs ∧ Dat w' D bad' ∧ w.grownBy w' (some D) ∧ (bad' = false → bad = false ∧ P rs)

theorem is_any (D : Nat) (bad : Bool) (v : Value) (c : Int) (rs : List R) (w : World) (hd : Dat w D bad) (hv : Rg D w v rs) :
    Calls Try.prog 20 #[.pointer (some ⟨D, 0, none⟩), v, .int .i64 c] w fun e w' => e = .returned v ∧ ∃ bad', w' = w.setCell ⟨D, 0, none⟩ (.bool bad') ∧ (bad' = false → bad = false ∧ c = 0) := by
  have hub := Try.underlying25
  have hc := box_cell hd
  have hf := box_free hd
  have hl := (Array.getElem?_eq_some_iff.1 hd).1
  obtain ⟨a, ca, rfl, -⟩ := hv.at_
  clear hd hv
  cases bad with
  | true =>
    go_enter Try.func20, Try.ntmps20
    go_wp2
    go_ret
    exact ⟨rfl, true, rfl, by simp⟩
  | false =>
    by_cases h0 : c = 0
    · subst h0
      go_enter Try.func20, Try.ntmps20
      go_wp2
      go_ret
      exact ⟨rfl, false, rfl, by simp⟩
    · go_enter Try.func20, Try.ntmps20
      go_wp2
      go_ret
      exact ⟨rfl, (c != 0), rfl, by simp⟩

theorem Made.of {D : Nat} {bad bad' : Bool} {w w1 w2 : World} {P : List R → Prop} {v : Value} {c : Int} {rs : List R} (hd : Dat w D bad) (ho : w1.ownsRow w.heap.size 31 4 v rs.length (csR rs)) (hl : rs.length ≤ 17592186044416) (hb : Below w.heap.size w w1) (hc : c = 0 → P rs)
    (h2 : w2 = w1.setCell ⟨D, 0, none⟩ (.bool bad')) (hbad : bad' = false → bad = false ∧ c = 0) : Made D bad w P (.returned v) w2 := by
  subst h2
  have hd1 : Dat w1 D bad := box_grown hd (grownBy_of_below none hb) (by simp)
  have hne := own_ne_type ho hd1 (by decide)
  have hg := grownBy_setCell w1 D 0 (.bool bad')
  exact ⟨v, rs, bad', rfl, ⟨Cells.own (ho.kept hg (Or.inr hne)) hl, fun _ => hne⟩, box_set hd1 _, (grown_of_below hb).trans' hg, fun h => ⟨(hbad h).1, hc (hbad h).2⟩⟩

theorem rg_of {D : Nat} {bad : Bool} {w w1 : World} {v : Value} {rs : List R} (hd : Dat w D bad) (ho : w1.ownsRow w.heap.size 31 4 v rs.length (csR rs)) (hl : rs.length ≤ 17592186044416) (hb : Below w.heap.size w w1) : Dat w1 D bad ∧ Rg D w1 v rs :=
  have hd1 : Dat w1 D bad := box_grown hd (grownBy_of_below none hb) (by simp)
  ⟨hd1, Cells.own ho hl, fun _ => own_ne_type ho hd1 (by decide)⟩

theorem dunion_any (D : Nat) (bad : Bool) (va vb : Value) (a b : List R) (w : World) (hd : Dat w D bad) (ha : Rg D w va a) (hb : Rg D w vb b) :
    Calls Try.prog 15 #[.pointer (some ⟨D, 0, none⟩), va, vb] w (Made D bad w (TwoGave (fun p q => p ∨ q) a b)) := by
  have HT := Lib.hid (union_any va vb a b w ha.at_ hb.at_)
  have HD := Lib.hid hd
  obtain ⟨aa, ca, rfl, -, -, -⟩ := ha.at_.open
  obtain ⟨ab, cb, rfl, -, -, -⟩ := hb.at_.open
  clear ha hb hd
  go_enter Try.func15, Try.ntmps15
  go_wp2_with fail
  refine HT.out.mono ?_
  rintro e w1 ⟨v, c, rs, rfl, ho, hl, hb, hc, -⟩
  obtain ⟨hd1, hr1⟩ := rg_of HD.out ho hl hb
  have HI := Lib.hid (is_any D bad v c rs w1 hd1 hr1)
  have HM := Lib.hid (fun (w2 : World) (bad' : Bool) h2 hbad => Made.of (bad' := bad') (w2 := w2) HD.out ho hl hb hc h2 hbad)
  obtain ⟨a1, c1, rfl⟩ := own_shape ho
  clear ho hl hb hc hd1 hr1
  go_wp2_with fail
  refine HI.out.mono ?_
  rintro e w2 ⟨rfl, bad', h2, hbad⟩
  have HF := Lib.hid (HM.out w2 bad' h2 hbad)
  clear h2 hbad
  go_wp2
  go_ret
  exact HF.out

theorem dboth_any (D : Nat) (bad : Bool) (va vb : Value) (a b : List R) (w : World) (hd : Dat w D bad) (ha : Rg D w va a) (hb : Rg D w vb b) :
    Calls Try.prog 16 #[.pointer (some ⟨D, 0, none⟩), va, vb] w (Made D bad w (TwoGave (fun p q => p ∧ q) a b)) := by
  have HT := Lib.hid (both_any va vb a b w ha.at_ hb.at_)
  have HD := Lib.hid hd
  obtain ⟨aa, ca, rfl, -, -, -⟩ := ha.at_.open
  obtain ⟨ab, cb, rfl, -, -, -⟩ := hb.at_.open
  clear ha hb hd
  go_enter Try.func16, Try.ntmps16
  go_wp2_with fail
  refine HT.out.mono ?_
  rintro e w1 ⟨v, c, rs, rfl, ho, hl, hb, hc, -⟩
  obtain ⟨hd1, hr1⟩ := rg_of HD.out ho hl hb
  have HI := Lib.hid (is_any D bad v c rs w1 hd1 hr1)
  have HM := Lib.hid (fun (w2 : World) (bad' : Bool) h2 hbad => Made.of (bad' := bad') (w2 := w2) HD.out ho hl hb hc h2 hbad)
  obtain ⟨a1, c1, rfl⟩ := own_shape ho
  clear ho hl hb hc hd1 hr1
  go_wp2_with fail
  refine HI.out.mono ?_
  rintro e w2 ⟨rfl, bad', h2, hbad⟩
  have HF := Lib.hid (HM.out w2 bad' h2 hbad)
  clear h2 hbad
  go_wp2
  go_ret
  exact HF.out

theorem dminus_any (D : Nat) (bad : Bool) (va vb : Value) (a b : List R) (w : World) (hd : Dat w D bad) (ha : Rg D w va a) (hb : Rg D w vb b) :
    Calls Try.prog 17 #[.pointer (some ⟨D, 0, none⟩), va, vb] w (Made D bad w (TwoGave (fun p q => p ∧ ¬ q) a b)) := by
  have HT := Lib.hid (minus_any va vb a b w ha.at_ hb.at_)
  have HD := Lib.hid hd
  obtain ⟨aa, ca, rfl, -, -, -⟩ := ha.at_.open
  obtain ⟨ab, cb, rfl, -, -, -⟩ := hb.at_.open
  clear ha hb hd
  go_enter Try.func17, Try.ntmps17
  go_wp2_with fail
  refine HT.out.mono ?_
  rintro e w1 ⟨v, c, rs, rfl, ho, hl, hb, hc, -⟩
  obtain ⟨hd1, hr1⟩ := rg_of HD.out ho hl hb
  have HI := Lib.hid (is_any D bad v c rs w1 hd1 hr1)
  have HM := Lib.hid (fun (w2 : World) (bad' : Bool) h2 hbad => Made.of (bad' := bad') (w2 := w2) HD.out ho hl hb hc h2 hbad)
  obtain ⟨a1, c1, rfl⟩ := own_shape ho
  clear ho hl hb hc hd1 hr1
  go_wp2_with fail
  refine HI.out.mono ?_
  rintro e w2 ⟨rfl, bad', h2, hbad⟩
  have HF := Lib.hid (HM.out w2 bad' h2 hbad)
  clear h2 hbad
  go_wp2
  go_ret
  exact HF.out

set_option maxHeartbeats 1000000 in
set_option maxRecDepth 100000 in
theorem wtold_any (D : Nat) (bad : Bool) (blk n : Nat) (vals : List Value) (ps : List (List R)) (w : World) (hd : Dat w D bad) (hn : ps.length = n) (hblk : w.heap[blk]? = some (.cells vals.toArray 22 (0, 0))) (hl : vals.length = ps.length)
    (hv : ∀ i (h : i < vals.length) (h' : i < ps.length), RectsAt w vals[i] ps[i]) (hp : bad = false → ∀ i (h : i + 1 < ps.length), i % 2 = 0 → ps[i] = ps[i + 1]) (hmax : n ≤ 1000) :
    Calls Try.prog 14 #[.pointer (some ⟨D, 0, none⟩), .slice (some ⟨blk, 0, none⟩) n n] w fun e w' => e = .returned (.bool true) ∧ Below w.heap.size w w' := by
  have hub := Try.underlying25
  have HAL := Lib.hid (alive_any w)
  have HD := Lib.hid hd
  have HBK := Lib.hid hblk
  have HV := Lib.hid hv
  have HP := Lib.hid hp
  clear hd hblk hv hp
  go_enter Try.func14, Try.ntmps14
  go_wp2_with fail
  refine HAL.out.mono ?_
  rintro e w1 ⟨rfl, hb1⟩
  have HB1 := Lib.hid hb1
  have hc := box_cell (box_grown HD.out (grownBy_of_below none hb1) (by simp))
  clear hb1 HAL
  cases bad with
  | true =>
    go_wp2
    go_ret
    exact ⟨rfl, HB1.out⟩
  | false =>
    go_wp2_with fail
    go_loopw [5] (fun v5 wr => ∃ k : Nat, v5 = .int .i64 k ∧ k % 2 = 0 ∧ k ≤ n + 2 ∧ Below w.heap.size w wr) (fun v5 _ => n + 2 - (intOf v5).toNat)
    case atStart => exact ⟨0, rfl, rfl, by omega, HB1.out⟩
    case round =>
      obtain ⟨k, rfl, hk2, hkn, hbl⟩ := hrel
      have HBL := Lib.hid hbl
      by_cases hlt : k + 1 < n
      · have hlti : (k : Int) + 1 < (n : Int) := by omega
        have hblt := (Array.getElem?_eq_some_iff.1 HBK.out).1
        have c0 : w.cell? ⟨blk, k, none⟩ = some (vals[k]'(by omega)) := by unfold World.cell?; rw [HBK.out]; simp [show k < vals.length by omega]
        have c1 : w.cell? ⟨blk, k + 1, none⟩ = some (vals[k + 1]'(by omega)) := by unfold World.cell?; rw [HBK.out]; simp [show k + 1 < vals.length by omega]
        have d0 := (hbl.cell (p := ⟨blk, k, none⟩) hblt).trans c0
        have d1 := (hbl.cell (p := ⟨blk, k + 1, none⟩) hblt).trans c1
        have r0 := (HV.out k (by omega) (by omega)).below hbl (Nat.le_refl _)
        have r1 := (HV.out (k + 1) (by omega) (by omega)).below hbl (Nat.le_refl _)
        have hpe := HP.out (by trivial) k (by omega) hk2
        rw [← hpe] at r1
        have EQ : Hid (∀ q, Calls Try.prog 37 #[vals[k]'(by omega), vals[k + 1]'(by omega)] (wr.drewN q) fun e w' => e = .returned (.bool true) ∧ ∃ q', w' = (wr.drewN q).drewN q') := fun q => by
          refine (eqRects _ _ _ _ _ (r0.below (below_drewN (Below.refl wr.heap.size wr) q) (Nat.le_refl _)) (r1.below (below_drewN (Below.refl wr.heap.size wr) q) (Nat.le_refl _))).mono ?_
          rintro e w' ⟨b, rfl, hb, q', rfl⟩
          exact ⟨by rw [hb.2 rfl], q', rfl⟩
        clear c0 c1 r0 r1 hpe hbl
        generalize vals[k]'(by omega) = u0 at d0 EQ
        generalize vals[k + 1]'(by omega) = u1 at d1 EQ
        have hz0 : (0 : Int) ≤ (k : Int) := by omega
        have hz1 : (k : Int) < (n : Int) := by omega
        have hz2 : (0 : Int) ≤ (k : Int) + 1 := by omega
        have hw0 : IntKind.i64.wrap ((k : Int) + 1) = (k : Int) + 1 := IntWalk.i64_in _ (by omega)
        have hw1 : ((k : Int) + 1).toNat = k + 1 := by omega
        go_wp2_with fail
        go_quiet ((go_at_call 37; exact Calls.quiet_of (EQ.out _)))
        clear hw0 hw1
        go_wp2
        go_roundw
        case rel => exact ⟨k + 2, by go_num, by omega, by omega, below_drewN HBL.out nq⟩
        case measure => simp [intOf]; omega
      · have hlti : ¬ (k : Int) + 1 < (n : Int) := by omega
        clear hbl
        go_wp2
        go_ret
        exact ⟨rfl, HBL.out⟩

theorem wtold_held (D : Nat) (bad : Bool) (blk n : Nat) (l : List (Value × List R)) (w : World) (hd : Dat w D bad) (hn : l.length = n) (hblk : w.heap[blk]? = some (.cells (l.map (·.1)).toArray 22 (0, 0)))
    (hv : ∀ p, p ∈ l → RectsAt w p.1 p.2) (hp : bad = false → Pairs (l.map (·.2))) (hmax : n ≤ 1000) :
    Calls Try.prog 14 #[.pointer (some ⟨D, 0, none⟩), .slice (some ⟨blk, 0, none⟩) n n] w fun e w' => e = .returned (.bool true) ∧ Below w.heap.size w w' := by
  refine wtold_any D bad blk n (l.map (·.1)) (l.map (·.2)) w hd (by simpa using hn) hblk (by simp) (fun i h h' => ?_) (fun hb => (hp hb).get) hmax
  have h1 : i < l.length := by simpa using h
  simpa using hv _ (List.getElem_mem h1)

end Go.Proofs.Yteokdmcdhalcfaa
