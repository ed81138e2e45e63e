/- The walks of at and Merge. -/
import Derived.Test.YteokdmcdhalcfaaWalkD
import Derived.Test.YteokdmcdhalcfaaPlainE
import Derived.Deep.CutBlock
import Derived.Deep.DeepCutAuto
namespace Go.Proofs.Yteokdmcdhalcfaa
open Go.RowKit Go.Lib Go.Shelf Etch
attribute [local go_sem ↓] Go.wp_at_zero Go.wp_at_succ

theorem ret_two {u : Value} {k : IntKind} {a b : Int} (h : a = b) : Ending.returned (.tuple #[u, .int k a]) = .returned (.tuple #[u, .int k b]) := by rw [h]

theorem BandsAt.nil (w : World) : BandsAt w (.slice none 0 0) [] := ⟨[], rfl, Cells.nil w, fun i h => absurd h (Nat.not_lt_zero _)⟩

theorem BandsAt.nil' {w : World} {v : Value} (h : BandsAt w v []) : BandsAt w v [] := h

theorem IntsAt.nil (w : World) : IntsAt w (.slice none 0 0) [] := Cells.nil w

/-- The first band of a set, and the set behind it. -/
theorem BandsAt.uncons {w : World} {v : Value} {c : Band} {r : List Band} (h : BandsAt w v (c :: r)) :
    ∃ b o cap v' u, v = .slice (some ⟨b, o, none⟩) (r.length + 1) cap ∧ b < w.heap.size ∧ w.cell? ⟨b, o, none⟩ = some (.int .i64 c.y0) ∧ w.cell? ⟨b, o + 1, none⟩ = some (.int .i64 c.y1) ∧ w.cell? ⟨b, o + 2, none⟩ = some u ∧ IntsAt w u c.xs ∧
      (∀ W, (Instr.slice 69 (.slice (some ⟨b, o, none⟩) (r.length + 1) cap) (some (.int .i64 1)) none none).run Try.prog W = .ok v' W) ∧ BandsAt w v' r ∧ lenV v' = r.length ∧ (r.length : Int) + 1 ≤ 17592186044416 := by
  obtain ⟨us, hl, ⟨a, cap, rfl, h1, h2, h3⟩, hu⟩ := h
  obtain ⟨u, us, rfl⟩ : ∃ u us', us = u :: us' := by
    cases us with
    | nil => simp at hl
    | cons u us => exact ⟨u, us, rfl⟩
  obtain ⟨b, o, rfl, hb, hc⟩ := h3 (by rw [csB_length _ _ hl]; simp)
  simp only [List.length_cons] at h1 h2
  have hl' : us.length = r.length := by simpa using hl
  refine ⟨b, o, cap, .slice (some ⟨b, if cap = 1 then o else o + 3, none⟩) r.length (cap - 1), u, rfl, hb, hc 0 _ rfl, hc 1 _ rfl, hc 2 _ rfl, hu 0 (by simp) (by simp), fun W => ?_, ?_, rfl, by omega⟩
  · have hs : ∀ W, (sizeOf (Try.prog.elem 69)).run Try.prog W = .ok 3 W := fun W => by kernel_rfl
    rw [run_slice_l (P := Try.prog) (w := W) 69 _ _ _ (by kernel_rfl) .i64 1 (by omega) (by omega), hs]
    by_cases e : cap = 1
    · subst e; simp [Result.andThen, sliced]
    · simp [Result.andThen, sliced, e, Addr.add]
  · refine ⟨us, hl', ⟨_, _, rfl, by omega, by omega, fun hp => ⟨b, _, rfl, hb, fun i x hx => ?_⟩⟩, fun i h h' => hu (i + 1) (by simpa using h) (by simpa using h')⟩
    rw [csB_length _ _ hl'] at hp
    rw [if_neg (by omega)]
    have := hc (i + 3) x (by show (cB c u ++ csB r us)[i + 3]? = _; rw [List.getElem?_append_right (by simp [cB])]; simpa [cB] using hx)
    rw [show o + 3 + i = o + (i + 3) by omega]
    exact this

set_option maxHeartbeats 1000000 in
set_option maxRecDepth 100000 in
theorem at_any (v : Value) (s : List Band) (y z : Int) (w : World) (h : BandsAt w v s) :
    Calls Try.prog 108 #[v, .int .i64 y, .int .i64 z] w fun e w' => ∃ u, e = .returned (.tuple #[u, .int .i64 (atN s y z)]) ∧ IntsAt w' u (atX s y) ∧ Below w.heap.size w w' := by
  have hub := Try.underlying100
  cases s with
  | nil =>
    obtain ⟨a, cap, rfl, -, -, -⟩ := h.open
    clear h
    go_enter Try.func108, Try.ntmps108
    go_wp2
    go_ret2
    exact ⟨_, rfl, IntsAt.nil _, Below.refl _ _⟩
  | cons c r =>
    obtain ⟨b, o, cap, v', u, rfl, hb, e0, e1, e2, hu, -, -, -, hr⟩ := h.uncons
    have hz : ((r.length : Int) + 1 == 0) = false := beq_eq_false_iff_ne.2 (by omega)
    have hz2 : (0 : Int) < (r.length : Int) + 1 := by omega
    have HU := Lib.hid hu
    rw [atN_cons, atX_cons]
    clear h hu hr
    generalize c.y0 = c0 at e0
    generalize c.y1 = c1 at e1
    generalize c.xs = xs at HU
    by_cases hy : y < c0
    · rw [if_pos hy, if_pos hy]
      go_enter Try.func108, Try.ntmps108
      go_wp2
      go_quiet (fail)
      go_wp2
      all_goals
        go_ret2
        exact ⟨_, ret_two (by omega), IntsAt.nil _, below_drewN (Below.refl _ _) _⟩
    · have hyb : decide (y < c0) = false := decide_eq_false hy
      rw [if_neg hy, if_neg hy]
      go_enter Try.func108, Try.ntmps108
      go_wp2
      go_quiet (fail)
      go_wp2
      all_goals
        go_ret2
        exact ⟨_, ret_two (by omega), HU.out.below (below_drewN (Below.refl _ _) _) (Nat.le_refl _), below_drewN (Below.refl _ _) _⟩

/-- The numbers of a set that are looked at first: where it begins and ends. -/
theorem BandsAt.ends {w : World} {v : Value} {c : Band} {r : List Band} (h : BandsAt w v (c :: r)) :
    ∃ b o cap, v = .slice (some ⟨b, o, none⟩) (r.length + 1) cap ∧ b < w.heap.size ∧ w.cell? ⟨b, o, none⟩ = some (.int .i64 c.y0) ∧ w.cell? ⟨b, o + r.length * 3 + 1, none⟩ = some (.int .i64 ((c :: r)[r.length]).y1) ∧ (r.length : Int) + 1 ≤ 17592186044416 := by
  obtain ⟨a, cap, rfl, h1, h2, h3⟩ := h.open
  obtain ⟨b, o, rfl, hb, hc⟩ := h3 (by simp)
  obtain ⟨u, -, e0, -, -⟩ := hc 0 (by simp)
  obtain ⟨u', -, -, e1, -⟩ := hc r.length (by simp)
  simp only [List.length_cons] at h1 h2
  exact ⟨b, o, cap, rfl, hb, by simpa using e0, e1, by omega⟩

/-- What a function gives that hands back a set. -/
def GaveSet (w : World) (P : List Band → Prop) (e : Ending) (w' : World) : Prop := ∃ (v' : Value) (s : List Band), e = .returned v' ∧ BandsAt w' v' s ∧ Below w.heap.size w w' ∧ P s

set_option maxHeartbeats 4000000 in
set_option maxRecDepth 100000 in
theorem merge_any (hEq : EqInts) (g : Nat) (kp : Bool → Bool → Bool) (hg : Keeps g kp) (hk0 : kp false false = false) (va vb : Value) (a b : List Band) (w : World)
    (ha : BandsAt w va a) (hb : BandsAt w vb b) (ca : Canon a) (cb : Canon b) (ba : BndBy 1099511627776 a) (bb : BndBy 1099511627776 b) :
    Calls Try.prog 84 #[va, vb, .func (.func g) #[] #[]] w (GaveSet w (MergeGives kp a b)) := by
  have hub := Try.underlying100
  have HA := Lib.hid ha
  have HB := Lib.hid hb
  have HCA := Lib.hid ca
  have HCB := Lib.hid cb
  have HBA := Lib.hid ba
  have HBB := Lib.hid bb
  obtain ⟨aa, capa, rfl, hcapa, hna, -⟩ := ha.open
  obtain ⟨ab, capb, rfl, hcapb, hnb, -⟩ := hb.open
  clear ha hb ca cb ba bb
  by_cases hz : a.length + b.length = 0
  · have ea : a = [] := List.eq_nil_of_length_eq_zero (by omega)
    have eb : b = [] := List.eq_nil_of_length_eq_zero (by omega)
    subst ea; subst eb
    go_enter Try.func84, Try.ntmps84
    go_wp2
    go_ret
    exact ⟨_, [], rfl, BandsAt.nil _, Below.refl _ _, merge_nil hk0⟩
  · have hzb : (((a.length : Int) + (b.length : Int)) == 0) = false := beq_eq_false_iff_ne.2 (by omega)
    go_enter Try.func84, Try.ntmps84
    go_wp2
    go_loopw [8, 9, 27] (fun v8 v9 v27 wr => ∃ (k : Nat) (y e : Int), k ≤ 2 ∧ v27 = .int .i64 k ∧ v8 = .int .i64 y ∧ v9 = .int .i64 e ∧ Hid (StartInv a b k y e) ∧ wr.heap[w.heap.size]? = some (.cells #[.slice aa a.length capa, .slice ab b.length capb] 69 (0, 0)) ∧ Below w.heap.size w wr)
      (fun _ _ v27 _ => 2 - (intOf v27).toNat)
    case atStart => exact ⟨0, 0, 0, by omega, rfl, rfl, rfl, ⟨fun h => by omega, fun h => by omega, by omega, by omega⟩, heap_alloc_new w _, (Below.refl _ _).alloc (Nat.le_refl _) _⟩
    case round =>
      obtain ⟨k, y, e, hk, rfl, rfl, rfl, HS, hbx, hbl⟩ := hrel
      have q0 : wr.cell? ⟨w.heap.size, 0, none⟩ = some (.slice aa a.length capa) := by unfold World.cell?; rw [hbx]; rfl
      have q1 : wr.cell? ⟨w.heap.size, 1, none⟩ = some (.slice ab b.length capb) := by unfold World.cell?; rw [hbx]; rfl
      rcases (by omega : k = 0 ∨ k = 1 ∨ k = 2) with rfl | rfl | rfl
      · cases a with
        | nil =>
          go_wp2
          go_roundw
          case rel => exact ⟨1, y, e, by omega, rfl, rfl, rfl, ⟨fun _ c hc => absurd hc (List.not_mem_nil), fun h => absurd h (by omega), HS.out.2.2⟩, hbx, hbl⟩
          case measure => simp [intOf]
        | cons c r =>
          obtain ⟨bk, o, cap, hv, hbk, e0, e1, hr⟩ := HA.out.ends
          have f0 := (hbl.cell (p := ⟨bk, o, none⟩) hbk).trans e0
          have f1 := (hbl.cell (p := ⟨bk, o + r.length * 3 + 1, none⟩) hbk).trans e1
          obtain ⟨rfl, rfl⟩ : aa = some ⟨bk, o, none⟩ ∧ capa = cap := by simpa using hv
          have hz0 : (0 : Int) ≤ (r.length : Int) := by omega
          have hE := canon_ends HCA.out (Nat.lt_succ_self _)
          have hB0 := HBA.out c List.mem_cons_self
          have hB1 := HBA.out ((c :: r)[r.length]'(Nat.lt_succ_self _)) (List.getElem_mem _)
          clear hv e0 e1
          generalize ((c :: r)[r.length]'(Nat.lt_succ_self _)).y1 = z1 at f1 hE hB1
          have HE := Lib.hid hE
          have HB0 := Lib.hid (And.intro hB0.1 hB1.2.1)
          clear hE hB0 hB1
          go_wp2_with fail
          go_quiet (fail)
          go_wp2_with fail
          go_quiet (fail)
          go_wp2
          go_roundw
          case rel => exact ⟨1, c.y0, z1, by omega, rfl, rfl, rfl, ⟨fun _ d hd => HE.out d hd, fun h => absurd h (by omega), HB0.out.1, HB0.out.2⟩, hbx, below_drewN hbl _⟩
          case measure => simp [intOf]
      · cases b with
        | nil =>
          go_wp2
          go_roundw
          case rel => exact ⟨2, y, e, by omega, rfl, rfl, rfl, ⟨fun _ => HS.out.1 (by omega), fun _ c hc => absurd hc (List.not_mem_nil), HS.out.2.2⟩, hbx, hbl⟩
          case measure => simp [intOf]
        | cons c r =>
          obtain ⟨bk, o, cap, hv, hbk, e0, e1, hr⟩ := HB.out.ends
          have f0 := (hbl.cell (p := ⟨bk, o, none⟩) hbk).trans e0
          have f1 := (hbl.cell (p := ⟨bk, o + r.length * 3 + 1, none⟩) hbk).trans e1
          obtain ⟨rfl, rfl⟩ : ab = some ⟨bk, o, none⟩ ∧ capb = cap := by simpa using hv
          have hz0 : (0 : Int) ≤ (r.length : Int) := by omega
          have hE := canon_ends HCB.out (Nat.lt_succ_self _)
          have hB0 := HBB.out c List.mem_cons_self
          have hB1 := HBB.out ((c :: r)[r.length]'(Nat.lt_succ_self _)) (List.getElem_mem _)
          clear hv e0 e1
          generalize ((c :: r)[r.length]'(Nat.lt_succ_self _)).y1 = z1 at f1 hE hB1
          have HE := Lib.hid hE
          have HB0 := Lib.hid (And.intro hB0.1 hB1.2.1)
          clear hE hB0 hB1
          by_cases ha0 : a = []
          · subst ha0
            go_wp2_with fail
            go_quiet (fail)
            go_wp2_with fail
            go_quiet (fail)
            go_wp2
            go_roundw
            case rel => exact ⟨2, c.y0, z1, by omega, rfl, rfl, rfl, ⟨fun _ d hd => absurd hd (List.not_mem_nil), fun _ d hd => HE.out d hd, HB0.out.1, HB0.out.2⟩, hbx, below_drewN hbl _⟩
            case measure => simp [intOf]
          · have hza : ((a.length : Int) == 0) = false := beq_eq_false_iff_ne.2 (by have := List.length_pos_iff.2 ha0; omega)
            clear ha0
            go_wp2_with fail
            go_quiet (fail)
            go_wp2
            go_roundw
            case rel =>
              refine ⟨2, _, _, by omega, rfl, rfl, rfl, ⟨fun _ d hd => ?_, fun _ d hd => ?_, ?_, ?_⟩, hbx, below_drewN hbl _⟩
              · have := HS.out.1 (by omega) d hd
                exact ⟨by split <;> omega, by split <;> omega⟩
              · have := HE.out d hd
                exact ⟨by split <;> omega, by split <;> omega⟩
              · have := HB0.out.1; have := HS.out.2.2.1; split <;> omega
              · have := HB0.out.2; have := HS.out.2.2.2; split <;> omega
            case measure => simp [intOf]
      · have HYA := Lib.hid (HS.out.1 (by omega))
        have HYB := Lib.hid (HS.out.2.1 (by omega))
        have hye := HS.out.2.2
        clear HS q0 q1 hbx
        obtain ⟨wo, rfl⟩ : ∃ wo : World, wo = wr := ⟨_, rfl⟩
        rw [show ((2 : Nat) : Int) = 2 from rfl]
        go_wp2
        go_loopw [0, 1, 7, 8] (fun v0 v1 v7 v8 wr => ∃ (a' b' out : List Band) (yy : Int), BandsAt w v0 a' ∧ BandsAt w v1 b' ∧ v8 = .int .i64 yy ∧ OwnBands wr w.heap.size v7 out ∧ Below w.heap.size w wr ∧ (yy = y ∨ yy ≤ e) ∧ (out.length : Int) ≤ yy - y ∧ Hid (Seen a a' yy ∧ Seen b b' yy ∧ MergeInv kp a b out yy))
          (fun _ _ _ v8 _ => (e - intOf v8).toNat)
        case atStart => exact ⟨a, b, [], y, HA.out, HB.out, rfl, OwnBands.nil _ _, hbl, Or.inl rfl, by simp, ⟨Seen.start _ _, Seen.start _ _, MergeInv.start hk0 (fun c hc => (HYA.out c hc).1) (fun c hc => (HYB.out c hc).1)⟩⟩
        case round =>
          clear hbl
          obtain ⟨a', b', out, yy, h0, h1, rfl, hown, hbl, hyy, hol, HI⟩ := hrel
          by_cases hlt : yy < e
          · have HSA := Lib.hid HI.out.1
            have HSB := Lib.hid HI.out.2.1
            have HMI := Lib.hid HI.out.2.2
            clear HI
            go_upto_block 4 with fail
            go_cut [0] from 69 to 124 (fun v wx => wx = wr ∧ ∃ t : List Band, BandsAt w v t ∧ Seen a t yy ∧ Fresh t yy)
            case first =>
              go_wp2_with fail
              go_loop [0] (fun v => ∃ t : List Band, BandsAt w v t ∧ Hid (Seen a t yy)) (fun v => lenV v)
              case atStart => exact ⟨_, h0, HSA.out⟩
              case round =>
                obtain ⟨t, ht, HT⟩ := hrel
                cases t with
                | nil =>
                  obtain ⟨at1, cat, rfl, -, -, -⟩ := ht.open
                  go_wp2_with fail
                  go_meet
                  exact ⟨rfl, [], BandsAt.nil' ht, HT.out, fun c r h => by cases h⟩
                | cons c r =>
                  obtain ⟨bk, o, cap, v', u, rfl, hbk, e0, e1, e2, hu, hsl, hv', hlen, hr⟩ := ht.uncons
                  have f1 := (hbl.cell (p := ⟨bk, o + 1, none⟩) hbk).trans e1
                  have hr0 : (0 : Int) < (r.length : Int) + 1 := by omega
                  have HCC : Hid (c.y1 ≤ yy → Seen a r yy) := fun h => HT.out.drop h
                  have HFF : Hid (¬ c.y1 ≤ yy → Fresh (c :: r) yy) := fun h d q e => by cases e; omega
                  clear e0 e1 e2 hu
                  generalize c.y1 = c1 at f1 HCC HFF
                  by_cases hc1 : c1 ≤ yy
                  · go_wp2_with fail
                    go_round
                    case rel => exact ⟨r, hv', HCC.out hc1⟩
                    case measure => show lenV v' < lenV _; rw [hlen]; simp only [lenV]; omega
                  · have hcb : decide (c1 ≤ yy) = false := decide_eq_false hc1
                    go_wp2_with fail
                    go_meet
                    exact ⟨rfl, c :: r, ht, HT.out, HFF.out hc1⟩
            case rest =>
              obtain ⟨rfl, t0, h0, hs0, hf0⟩ := hcut
              go_upto_block 6 with fail
              go_cut [1] from 69 to 124 (fun v wx => wx = wc ∧ ∃ t : List Band, BandsAt w v t ∧ Seen b t yy ∧ Fresh t yy)
              case first =>
                go_wp2_with fail
                go_loop [1] (fun v => ∃ t : List Band, BandsAt w v t ∧ Hid (Seen b t yy)) (fun v => lenV v)
                case atStart => exact ⟨_, h1, HSB.out⟩
                case round =>
                  obtain ⟨t, ht, HT⟩ := hrel
                  cases t with
                  | nil =>
                    obtain ⟨at1, cat, rfl, -, -, -⟩ := ht.open
                    go_wp2_with fail
                    go_meet
                    exact ⟨rfl, [], BandsAt.nil' ht, HT.out, fun c r h => by cases h⟩
                  | cons c r =>
                    obtain ⟨bk, o, cap, v', u, rfl, hbk, e0, e1, e2, hu, hsl, hv', hlen, hr⟩ := ht.uncons
                    have f1 := (hbl.cell (p := ⟨bk, o + 1, none⟩) hbk).trans e1
                    have hr0 : (0 : Int) < (r.length : Int) + 1 := by omega
                    have HCC : Hid (c.y1 ≤ yy → Seen b r yy) := fun h => HT.out.drop h
                    have HFF : Hid (¬ c.y1 ≤ yy → Fresh (c :: r) yy) := fun h d q e => by cases e; omega
                    clear e0 e1 e2 hu
                    generalize c.y1 = c1 at f1 HCC HFF
                    by_cases hc1 : c1 ≤ yy
                    · go_wp2_with fail
                      go_round
                      case rel => exact ⟨r, hv', HCC.out hc1⟩
                      case measure => show lenV v' < lenV _; rw [hlen]; simp only [lenV]; omega
                    · have hcb : decide (c1 ≤ yy) = false := decide_eq_false hc1
                      go_wp2_with fail
                      go_meet
                      exact ⟨rfl, c :: r, ht, HT.out, HFF.out hc1⟩
              case rest =>
                obtain ⟨rfl, t1, h1, hs1, hf1⟩ := hcut
                have HF := Lib.hid (And.intro (And.intro hs0 hs1) (And.intro hf0 hf1))
                have g0 := h0.below hbl (Nat.le_refl _)
                have g1 := h1.below hbl (Nat.le_refl _)
                have G0 := Lib.hid g0
                have G1 := Lib.hid g1
                clear hs0 hs1 hf0 hf1 g0 g1
                obtain ⟨_, _, rfl, -, -, -⟩ := h0.open
                obtain ⟨_, _, rfl, -, -, -⟩ := h1.open
                have HA0 := Lib.hid h0
                have HA1 := Lib.hid h1
                clear h0 h1
                go_wp2_with fail
                refine (at_any _ _ _ _ _ G0.out).mono ?_
                rintro e1 w1 ⟨u0, rfl, hu0, hb1⟩
                have G1' := Lib.hid (G1.out.below hb1 (Nat.le_refl _))
                go_wp2_with fail
                refine (at_any _ _ _ _ _ G1'.out).mono ?_
                rintro e2 w2 ⟨u1, rfl, hu1, hb2⟩
                have hbl2 := hbl.trans ((hb1.trans (hb2.mono hb1.size)).mono hbl.size)
                have hown2 := (hown.below hb1).below hb2
                have hu0' := hu0.below hb2 (Nat.le_refl _)
                have OWN := Lib.hid hown2
                clear hown hb1 hb2 hbl hu0 hown2
                have LG := Lib.hid (line_any g kp hg hk0 u0 u1 (atX t0 yy) (atX t1 yy) w2 hu0' hu1)
                clear hu0' hu1
                have HN0 := Lib.hid (And.intro (atN_gt (e := e) HF.out.2.1 hlt) (atN_gt (e := e) HF.out.2.2 hlt))
                have HN1 := Lib.hid (And.intro (atN_le t0 yy e) (atN_le t1 yy e))
                have HSTEP := Lib.hid (fun o ho => HMI.out.step (e := e) (o := o) HCA.out HCB.out HF.out.1.1 HF.out.1.2 HF.out.2.1 HF.out.2.2 hlt ho)
                generalize atN t0 yy e = n0 at HN0 HN1 HSTEP ⊢
                generalize atN t1 yy e = n1 at HN0 HN1 HSTEP ⊢
                go_upto_region 20 with fail
                go_cut [16] from 69 to 124 (fun v wx => wx = w2 ∧ v = .int .i64 (min n0 n1))
                case first =>
                  go_wp2_with fail
                  all_goals
                    go_meet
                    exact ⟨rfl, congrArg (Value.int .i64) (by omega)⟩
                case rest =>
                  obtain ⟨rfl, rfl⟩ := hcut
                  have hmn0 : yy < min n0 n1 := by have := HN0.out; omega
                  have hmn1 : min n0 n1 ≤ e := by have := HN1.out; omega
                  generalize min n0 n1 = nn at hmn0 hmn1 HSTEP ⊢
                  clear HN0 HN1
                  have hx0 := atX_ok (HF.out.1.1.canon HCA.out) yy
                  have hx1 := atX_ok (HF.out.1.2.canon HCB.out) yy
                  have hll : (atX t0 yy).length + (atX t1 yy).length ≤ 17592186044416 := by
                    have := HF.out.1.1.len HCA.out HBA.out (by omega)
                    have := HF.out.1.2.len HCB.out HBB.out (by omega)
                    omega
                  have lg := LG.out hx0.2 hx1.2 hx0.1 hx1.1 hll
                  have HLL := Lib.hid hll
                  clear LG hx0 hx1 hll
                  go_wp2_with fail
                  refine lg.mono ?_
                  rintro e3 w3 ⟨v3, o, rfl, hown3, hb3, hgv⟩
                  have hol3 : o.length ≤ 17592186044416 := Nat.le_trans hgv.len HLL.out
                  have hI3 : IntsAt w3 v3 o := Cells.own hown3 hol3
                  obtain ⟨a3, c3, rfl, -, -, -⟩ := hI3.open
                  have hne3 : 0 < o.length → Typed w3 (.slice a3 o.length c3) := fun hp => Typed.own hown3 hp
                  have hpu := push_any hEq w.heap.size u7 _ out yy nn o w3 (OWN.out.below hb3) (by omega) hI3 hne3 (Nat.le_trans hbl2.size hb3.size)
                  have HBL3 := Lib.hid (hbl2.trans (hb3.mono hbl2.size))
                  have HGV := Lib.hid hgv
                  clear lg hown3 hb3 hgv hI3 hne3 hbl2
                  have HPU := Lib.hid hpu
                  have HSZ := Lib.hid (pushB_length out ⟨yy, nn, o⟩)
                  clear hpu
                  go_wp2_with fail
                  refine HPU.out.mono ?_
                  rintro e4 w4 ⟨v4, rfl, hown4, hg4, hat4⟩
                  go_wp2
                  go_roundw
                  case rel =>
                    have h4 : Below w.heap.size w w4 := HBL3.out.grown hg4 HBL3.out.size (fun k hk => by obtain ⟨us, _, ho, _⟩ := OWN.out; exact (ho.lt k hk).1)
                    refine ⟨t0, t1, pushB out ⟨yy, nn, o⟩, nn, HA0.out, HA1.out, rfl, hown4, h4, Or.inr hmn1, by have := HSZ.out; omega, HF.out.1.1.later (by omega), HF.out.1.2.later (by omega), HSTEP.out o HGV.out⟩
                  case measure => simp [intOf]; omega
          · have hd : ¬ yy < e := hlt
            have hno : out.length ≤ 17592186044416 := by omega
            go_wp2
            go_ret
            exact ⟨_, out, rfl, hown.at_ hno, hbl, by
              have := HI.out.2.2.done hk0 (fun c hc => by have := (HYA.out c hc).2; omega) (fun c hc => by have := (HYB.out c hc).2; omega)
              exact ⟨this.1, this.2⟩⟩

end Go.Proofs.Yteokdmcdhalcfaa
