/- The walks of CheckRegion, Or, And, Less, two, Union, Both, Minus. -/
import Derived.Test.YteokdmcdhalcfaaWalkI
import Derived.Test.YteokdmcdhalcfaaPlainH
namespace Go.Proofs.Yteokdmcdhalcfaa
open Go.RowKit Go.Lib Go.Shelf Go.Sort Etch
attribute [local go_sem ↓] Go.wp_at_zero Go.wp_at_succ

theorem keepsOr : Keeps 97 (fun p q => p || q) where
  enters := enters_of Try.func97 (by kernel_rfl) rfl
  gives p q W := by
    cases p <;> cases q <;>
    · go_enter Try.func97, Try.ntmps97
      go_wp2
      go_ret
      exact ⟨rfl, rfl⟩

theorem keepsAnd : Keeps 98 (fun p q => p && q) where
  enters := enters_of Try.func98 (by kernel_rfl) rfl
  gives p q W := by
    cases p <;> cases q <;>
    · go_enter Try.func98, Try.ntmps98
      go_wp2
      go_ret
      exact ⟨rfl, rfl⟩

theorem keepsLess : Keeps 85 (fun p q => p && !q) where
  enters := enters_of Try.func85 (by kernel_rfl) rfl
  gives p q W := by
    cases p <;> cases q <;>
    · go_enter Try.func85, Try.ntmps85
      go_wp2
      go_ret
      exact ⟨rfl, rfl⟩

/-- A function value that merges two sets. -/
structure Merges (g : Nat) (kp : Bool → Bool → Bool) : Prop where
  enters : ∀ args w, (callFunc g args).run Try.prog w = .ok (.enter g args) w
  gives : ∀ (va vb : Value) (a b : List Band) (w : World), BandsAt w va a → BandsAt w vb b → Canon a → Canon b → BndBy 1099511627776 a → BndBy 1099511627776 b →
    Calls Try.prog g #[va, vb] w (GaveSet w (MergeGives kp a b))

theorem mergesOr : Merges 63 (fun p q => p || q) where
  enters := enters_of Try.func63 (by kernel_rfl) rfl
  gives va vb a b w ha hb ca cb ba bb := by
    have HM := Lib.hid (merge_any eqInts _ _ keepsOr rfl va vb a b w ha hb ca cb ba bb)
    clear ha hb ca cb ba bb
    go_enter Try.func63, Try.ntmps63
    go_wp2_with fail
    refine HM.out.mono ?_
    rintro e w1 ⟨v1, s, rfl, h1, h2, h3⟩
    go_wp2
    go_ret
    exact ⟨v1, s, rfl, h1, h2, h3⟩

theorem mergesAnd : Merges 64 (fun p q => p && q) where
  enters := enters_of Try.func64 (by kernel_rfl) rfl
  gives va vb a b w ha hb ca cb ba bb := by
    have HM := Lib.hid (merge_any eqInts _ _ keepsAnd rfl va vb a b w ha hb ca cb ba bb)
    clear ha hb ca cb ba bb
    go_enter Try.func64, Try.ntmps64
    go_wp2_with fail
    refine HM.out.mono ?_
    rintro e w1 ⟨v1, s, rfl, h1, h2, h3⟩
    go_wp2
    go_ret
    exact ⟨v1, s, rfl, h1, h2, h3⟩

theorem mergesLess : Merges 56 (fun p q => p && !q) where
  enters := enters_of Try.func56 (by kernel_rfl) rfl
  gives va vb a b w ha hb ca cb ba bb := by
    have HM := Lib.hid (merge_any eqInts _ _ keepsLess rfl va vb a b w ha hb ca cb ba bb)
    clear ha hb ca cb ba bb
    go_enter Try.func56, Try.ntmps56
    go_wp2_with fail
    refine HM.out.mono ?_
    rintro e w1 ⟨v1, s, rfl, h1, h2, h3⟩
    go_wp2
    go_ret
    exact ⟨v1, s, rfl, h1, h2, h3⟩

/-- A canonical region within the range. -/
def Rgn (a : List R) : Prop := a.length ≤ 2000 ∧ (∀ r ∈ a, RectOk r) ∧ Reg a

theorem RectOk.at_ {r : R} (h : RectOk r) : (-1000000 ≤ r.x0 ∧ r.x0 ≤ 1000000) ∧ (-1000000 ≤ r.y0 ∧ r.y0 ≤ 1000000) ∧ (-1000000 ≤ r.x1 ∧ r.x1 ≤ 1000000) ∧ (-1000000 ≤ r.y1 ∧ r.y1 ≤ 1000000) := by
  have := h.1
  unfold rectB isAtB at this
  simp only [Bool.and_eq_true, decide_eq_true_eq] at this
  omega

theorem RectOk.good {r : R} (h : RectOk r) : Good r := by
  have := h.at_
  exact ⟨by unfold InB; omega, h.2⟩

theorem covBy_ok {rs : List R} (h : ∀ r ∈ rs, RectOk r) : CovBy 1000000 rs := fun r hr => by
  have := (h r hr).at_
  omega

theorem bnd_ok {rs : List R} (h : ∀ r ∈ rs, RectOk r) {s : List Band} (hs : SetGives rs s) : BndBy 1000000 s := bnd_of_sq hs.1 ((covBy_ok h).sq hs.2)

theorem two_boxes (w : World) (A B : Obj) : ((w.alloc A).alloc B).drew.heap[w.heap.size]? = some A ∧ ((w.alloc A).alloc B).drew.heap[w.heap.size + 1]? = some B ∧ Below w.heap.size w ((w.alloc A).alloc B).drew := by
  refine ⟨?_, ?_, (((Below.refl _ _).alloc (Nat.le_refl _) _).alloc (by simp) _).drew⟩
  · show ((w.alloc A).alloc B).heap[w.heap.size]? = _
    rw [Below.heap_alloc _ _ _ (by simp)]
    exact heap_alloc_new w A
  · show ((w.alloc A).alloc B).heap[w.heap.size + 1]? = _
    have := heap_alloc_new (w.alloc A) B
    simpa using this

set_option maxHeartbeats 2000000 in
set_option maxRecDepth 100000 in
theorem checkRegion_any (v : Value) (rs : List R) (w : World) (h : RectsAt w v rs) :
    Calls Try.prog 30 #[v] w fun e w' => ∃ c : Int, e = .returned (.int .i64 c) ∧ Below w.heap.size w w' ∧ (c = 0 → Rgn rs) ∧ (rs.length ≤ 1 → Rgn rs → c = 0) := by
  have hub := Try.underlying31
  have HCH := Lib.hid (checkRects_any v rs w h)
  obtain ⟨a, cap, rfl, hcap, hn, hc⟩ := h.open
  have HC := Lib.hid hc
  have HA := Lib.hid h
  clear hc h
  go_enter Try.func30, Try.ntmps30
  go_wp2_with fail
  refine HCH.out.mono ?_
  rintro e w1 ⟨c1, rfl, hiff, hb1⟩
  have HB1 := Lib.hid hb1
  have HIFF := Lib.hid hiff
  clear hb1 hiff HCH
  by_cases hc1 : c1 = 0
  · subst hc1
    obtain ⟨hl2, hok⟩ := HIFF.out.1 rfl
    have HOK := Lib.hid hok
    clear hok HIFF
    go_wp2_with fail
    go_loopw [4] (fun v4 wr => ∃ m : Nat, v4 = .int .i64 ((m : Int) + 1) ∧ Below w.heap.size w wr) (fun v4 _ => rs.length - (intOf v4).toNat)
    case atStart => exact ⟨0, rfl, HB1.out⟩
    case round =>
      obtain ⟨m, rfl, hbl⟩ := hrel
      have HBL := Lib.hid hbl
      by_cases hlt : m + 1 < rs.length
      · obtain ⟨b, off, rfl, hbs, hcell⟩ := HC.out (by omega)
        obtain ⟨e0, e1, e2, e3⟩ := hcell m (by omega)
        obtain ⟨d0, d1, d2, d3⟩ := hcell (m + 1) hlt
        have f0 := (hbl.cell (p := ⟨b, off + m * 4, none⟩) hbs).trans e0
        have f1 := (hbl.cell (p := ⟨b, off + m * 4 + 1, none⟩) hbs).trans e1
        have f2 := (hbl.cell (p := ⟨b, off + m * 4 + 2, none⟩) hbs).trans e2
        have f3 := (hbl.cell (p := ⟨b, off + m * 4 + 3, none⟩) hbs).trans e3
        have g0 := (hbl.cell (p := ⟨b, off + (m + 1) * 4, none⟩) hbs).trans d0
        have g1 := (hbl.cell (p := ⟨b, off + (m + 1) * 4 + 1, none⟩) hbs).trans d1
        have g2 := (hbl.cell (p := ⟨b, off + (m + 1) * 4 + 2, none⟩) hbs).trans d2
        have g3 := (hbl.cell (p := ⟨b, off + (m + 1) * 4 + 3, none⟩) hbs).trans d3
        clear e0 e1 e2 e3 d0 d1 d2 d3 hcell hbl
        generalize rs[m] = ra at f0 f1 f2 f3
        generalize rs[m + 1] = rb at g0 g1 g2 g3
        have hz0 : (0 : Int) ≤ (m : Int) := by omega
        have hz1 : (m : Int) < (rs.length : Int) := by omega
        have hz2 : (0 : Int) ≤ (m : Int) + 1 := by omega
        have hz3 : (m : Int) + 1 < (rs.length : Int) := by omega
        have hw0 : IntKind.i64.wrap (m : Int) = (m : Int) := IntWalk.i64_in _ (by omega)
        have hwn : ((m : Int) + 1).toNat = m + 1 := by omega
        go_upto_region 7 with fail
        go_cut [5, 6] from 12 to 45 (fun v5 v6 wx => ∃ n5 n6 : Nat, v5 = .pointer (some ⟨n5, 0, none⟩) ∧ v6 = .pointer (some ⟨n6, 0, none⟩) ∧ wx.heap[n5]? = some (.cells #[.int .i64 ra.x0, .int .i64 ra.y0, .int .i64 ra.x1, .int .i64 ra.y1] 31 (0, 0)) ∧ wx.heap[n6]? = some (.cells #[.int .i64 rb.x0, .int .i64 rb.y0, .int .i64 rb.x1, .int .i64 rb.y1] 31 (0, 0)) ∧ Below wr.heap.size wr wx)
        case first =>
          go_wp2_with fail
          go_region_held3 (fun w' => w'.cell? ⟨b, off + m * 4, none⟩ = some (.int .i64 ra.x0) ∧ w'.cell? ⟨b, off + m * 4 + 1, none⟩ = some (.int .i64 ra.y0) ∧ w'.cell? ⟨b, off + m * 4 + 2, none⟩ = some (.int .i64 ra.x1) ∧ w'.cell? ⟨b, off + m * 4 + 3, none⟩ = some (.int .i64 ra.y1) ∧
              w'.cell? ⟨b, off + (m + 1) * 4, none⟩ = some (.int .i64 rb.x0) ∧ w'.cell? ⟨b, off + (m + 1) * 4 + 1, none⟩ = some (.int .i64 rb.y0) ∧ w'.cell? ⟨b, off + (m + 1) * 4 + 2, none⟩ = some (.int .i64 rb.x1) ∧ w'.cell? ⟨b, off + (m + 1) * 4 + 3, none⟩ = some (.int .i64 rb.y1)) (go_keep) (fail)
          all_goals
            go_wp2_with fail
            go_meet
            first
              | exact ⟨_, _, rfl, rfl, (two_boxes wr _ _).1, (two_boxes wr _ _).2.1, (two_boxes wr _ _).2.2⟩
              | exact ⟨_, _, rfl, rfl, (two_boxes wr _ _).2.1, (two_boxes wr _ _).1, (two_boxes wr _ _).2.2⟩
        case rest =>
          obtain ⟨n5, n6, rfl, rfl, h5, h6, hbc⟩ := hcut
          have q0 : wc.cell? ⟨n5, 0, none⟩ = some (.int .i64 ra.x0) := by unfold World.cell?; rw [h5]; rfl
          have q1 : wc.cell? ⟨n5, 1, none⟩ = some (.int .i64 ra.y0) := by unfold World.cell?; rw [h5]; rfl
          have s0 : wc.cell? ⟨n6, 0, none⟩ = some (.int .i64 rb.x0) := by unfold World.cell?; rw [h6]; rfl
          have s1 : wc.cell? ⟨n6, 1, none⟩ = some (.int .i64 rb.y0) := by unfold World.cell?; rw [h6]; rfl
          have HBC := Lib.hid (HBL.out.trans (hbc.mono HBL.out.size))
          clear h5 h6 hbc f0 f1 f2 f3 g0 g1 g2 g3
          by_cases hp1 : rb.y0 < ra.y0
          · go_wp2
            go_ret
            exact ⟨8, rfl, HBC.out, fun h => absurd h (by omega), fun h => by omega⟩
          · by_cases hp2 : rb.y0 = ra.y0
            · have hp2b : (rb.y0 == ra.y0) = true := beq_iff_eq.2 hp2
              by_cases hp3 : rb.x0 ≤ ra.x0
              · go_wp2
                go_ret
                exact ⟨8, rfl, HBC.out, fun h => absurd h (by omega), fun h => by omega⟩
              · go_wp2
                go_roundw
                case rel => exact ⟨m + 1, by go_num, HBC.out⟩
                case measure => simp [intOf]; omega
            · have hp2b : (rb.y0 == ra.y0) = false := beq_eq_false_iff_ne.2 hp2
              go_wp2
              go_roundw
              case rel => exact ⟨m + 1, by go_num, HBC.out⟩
              case measure => simp [intOf]; omega
      · have hd : ¬ (m : Int) + 1 < (rs.length : Int) := by omega
        clear hbl
        have HSET := Lib.hid (setOf_any _ rs wr (HA.out.below HBL.out (Nat.le_refl _)) (fun r hr => (HOK.out r hr).good) (by omega))
        go_wp2_with fail
        refine HSET.out.mono ?_
        rintro e w3 ⟨vs, s, rfl, hs3, hb3, hgv⟩
        have HRS := Lib.hid (rects_any vs s w3 hs3 hgv.1.evens (rects_few hgv.1 ((bnd_ok HOK.out hgv).mono (by omega))))
        have HGV := Lib.hid hgv
        have HB3 := Lib.hid (HBL.out.trans (hb3.mono HBL.out.size))
        have hlen := rects_few hgv.1 ((bnd_ok HOK.out hgv).mono (by omega))
        clear hs3 hgv hb3 HSET
        go_wp2_with fail
        refine HRS.out.mono ?_
        rintro e w4 ⟨vr, rfl, hown4, hb4⟩
        have HB4 := Lib.hid (HB3.out.trans (hb4.mono HB3.out.size))
        have HEQ := Lib.hid (eqRects vr _ (rects s) rs w4 (Cells.own hown4 (by omega)) (HA.out.below HB4.out (Nat.le_refl _)))
        obtain ⟨ar, cr, rfl⟩ := own_shape hown4
        clear hown4 hb4 HRS
        go_wp2_with fail
        refine HEQ.out.mono ?_
        rintro e w5 ⟨q, rfl, hq, n, rfl⟩
        have HB5 := Lib.hid (below_drewN HB4.out n)
        have HQ := Lib.hid hq
        clear hq HEQ
        cases q with
        | true =>
          go_wp2
          go_ret
          exact ⟨0, rfl, HB5.out, fun _ => ⟨hl2, HOK.out, ⟨s, HGV.out.1, HQ.out.1 (by trivial)⟩⟩, fun _ _ => by trivial⟩
        | false =>
          go_wp2
          go_ret
          exact ⟨3, rfl, HB5.out, fun h => absurd h (by omega), fun _ hr => absurd (HQ.out.2 (reg_rects hr.2.2 HGV.out)) (by simp)⟩
  · have hcb : (c1 == 0) = false := beq_eq_false_iff_ne.2 hc1
    go_wp2
    go_ret
    exact ⟨c1, rfl, HB1.out, fun h => absurd h hc1, fun _ hr => HIFF.out.2 ⟨hr.1, hr.2.1⟩⟩

set_option maxHeartbeats 2000000 in
set_option maxRecDepth 100000 in
theorem two_any (g : Nat) (kp : Bool → Bool → Bool) (hM : Merges g kp) (hk0 : kp false false = false) (Q : Prop → Prop → Prop) (hQ : ∀ p q, kp p q = true ↔ Q (p = true) (q = true)) (va vb : Value) (a b : List R) (w : World) (ha : RectsAt w va a) (hb : RectsAt w vb b) :
    Calls Try.prog 62 #[va, vb, .func (.func g) #[] #[]] w (Gave w fun rs => Rgn a ∧ Rgn b ∧ Reg rs ∧ ∀ x y, cov rs x y ↔ Q (cov a x y) (cov b x y)) := by
  have HA := Lib.hid ha
  have HB := Lib.hid hb
  have HM := Lib.hid hM.gives
  have hen := hM.enters
  have HC1 := Lib.hid (checkRegion_any va a w ha)
  obtain ⟨aa, ca, rfl, -, -, -⟩ := ha.open
  obtain ⟨ab, cb, rfl, -, -, -⟩ := hb.open
  clear ha hb hM
  go_enter Try.func62, Try.ntmps62
  go_wp2_with fail
  refine HC1.out.mono ?_
  rintro e w1 ⟨c1, rfl, hb1, hc1, -⟩
  have HB1 := Lib.hid hb1
  have HRA := Lib.hid hc1
  clear hb1 hc1 HC1
  by_cases hz1 : c1 = 0
  · subst hz1
    have HC2 := Lib.hid (checkRegion_any _ b w1 (HB.out.below HB1.out (Nat.le_refl _)))
    go_wp2_with fail
    refine HC2.out.mono ?_
    rintro e w2 ⟨c2, rfl, hb2, hc2, -⟩
    have HB2 := Lib.hid (HB1.out.trans (hb2.mono HB1.out.size))
    have HRB := Lib.hid hc2
    clear hb2 hc2 HC2
    by_cases hz2 : c2 = 0
    · subst hz2
      have HRA1 := Lib.hid (HRA.out (by trivial))
      have HRB1 := Lib.hid (HRB.out (by trivial))
      clear HRA HRB
      have HS1 := Lib.hid (setOf_any _ a w2 (HA.out.below HB2.out (Nat.le_refl _)) (fun r hr => (HRA1.out.2.1 r hr).good) (by have := HRA1.out.1; omega))
      go_wp2_with fail
      refine HS1.out.mono ?_
      rintro e w3 ⟨vs, s, rfl, hs3, hb3, hgv3⟩
      have HB3 := Lib.hid (HB2.out.trans (hb3.mono HB2.out.size))
      have HGA := Lib.hid hgv3
      have HSA := Lib.hid hs3
      obtain ⟨asx, csx, rfl, -, -, -⟩ := hs3.open
      have HS2 := Lib.hid (setOf_any _ b w3 (HB.out.below HB3.out (Nat.le_refl _)) (fun r hr => (HRB1.out.2.1 r hr).good) (by have := HRB1.out.1; omega))
      clear hs3 hgv3 hb3 HS1
      go_wp2_with fail
      refine HS2.out.mono ?_
      rintro e w4 ⟨vt, t, rfl, hs4, hb4, hgv4⟩
      have HB4 := Lib.hid (HB3.out.trans (hb4.mono HB3.out.size))
      have HGB := Lib.hid hgv4
      have HSB := Lib.hid hs4
      obtain ⟨at', ct, rfl, -, -, -⟩ := hs4.open
      have HBA := Lib.hid (bnd_ok HRA1.out.2.1 HGA.out)
      have HBB := Lib.hid (bnd_ok HRB1.out.2.1 HGB.out)
      have HMM := Lib.hid (HM.out _ _ s t w4 (HSA.out.below hb4 (Nat.le_refl _)) hs4 HGA.out.1 HGB.out.1 (HBA.out.mono (by omega)) (HBB.out.mono (by omega)))
      clear hs4 hgv4 hb4 HS2
      go_wp2_with fail
      refine HMM.out.mono ?_
      rintro e w5 ⟨vm, m, rfl, hs5, hb5, hgv5⟩
      have HB5 := Lib.hid (HB4.out.trans (hb5.mono HB4.out.size))
      have HBM : Hid (BndBy 1000000 m) := bnd_of_sq hgv5.can (hgv5.sq hk0 (sq_of_bnd HGA.out.1 HBA.out) (sq_of_bnd HGB.out.1 HBB.out))
      have HT := Lib.hid (told_any vm m w5 hs5 hgv5.can.evens (rects_few hgv5.can (HBM.out.mono (by omega))))
      have HGM := Lib.hid hgv5
      obtain ⟨am, cm, rfl, -, -, -⟩ := hs5.open
      clear hs5 hgv5 hb5 HMM
      go_wp2_with fail
      refine HT.out.mono ?_
      rintro e w6 ⟨v6, c6, rs, rfl, hown, hl, hb6, hc6, hn6⟩
      have HR : Hid (∃ (v' : Value) (c : Int) (rs' : List R), Ending.returned (.tuple #[v6, .int .i64 c6]) = .returned (.tuple #[v', .int .i64 c]) ∧ w6.ownsRow w.heap.size 31 4 v' rs'.length (csR rs') ∧ rs'.length ≤ 17592186044416 ∧ Below w.heap.size w w6 ∧ (c = 0 → Rgn a ∧ Rgn b ∧ Reg rs' ∧ ∀ x y, cov rs' x y ↔ Q (cov a x y) (cov b x y)) ∧ (c ≠ 0 → v' = .slice none 0 0 ∧ rs' = [])) := by
        refine ⟨v6, c6, rs, rfl, hown.rebase HB5.out.size, hl, HB5.out.trans (hb6.mono HB5.out.size), fun h => ?_, hn6⟩
        obtain ⟨rfl, -⟩ := hc6 h
        exact ⟨HRA1.out, HRB1.out, reg_of_set HGM.out.can, mixed_of hQ HGA.out HGB.out HGM.out⟩
      obtain ⟨a6, c6', rfl⟩ := own_shape hown
      clear hown hl hb6 hc6 hn6 HT
      go_wp2
      go_ret2
      exact HR.out
    · have hcb : (c2 == 0) = false := beq_eq_false_iff_ne.2 hz2
      go_wp2
      go_ret2
      exact ⟨_, c2, [], rfl, World.ownsRow_nil _ _ _ _, by simp, HB2.out, fun h => absurd h hz2, fun _ => ⟨rfl, rfl⟩⟩
  · have hcb : (c1 == 0) = false := beq_eq_false_iff_ne.2 hz1
    go_wp2
    go_ret2
    exact ⟨_, c1, [], rfl, World.ownsRow_nil _ _ _ _, by simp, HB1.out, fun h => absurd h hz1, fun _ => ⟨rfl, rfl⟩⟩

end Go.Proofs.Yteokdmcdhalcfaa
