/- The walk of line: two rows of stretches, merged by whether to keep what is in the one, in the other. -/
import Derived.Test.YteokdmcdhalcfaaWalkB
import Derived.Test.YteokdmcdhalcfaaPlainC
import Derived.Shelf.Abstract
import Derived.Deep.QuietTactic
import Derived.BigQuiet
import Derived.WalkSmall
namespace Go.Proofs.Yteokdmcdhalcfaa
open Go.RowKit Go.Lib Go.Shelf Etch
attribute [local go_sem ↓] Go.wp_at_zero Go.wp_at_succ

/-- A function value of two bools. -/
structure Keeps (g : Nat) (kp : Bool → Bool → Bool) : Prop where
  enters : ∀ args w, (callFunc g args).run Try.prog w = .ok (.enter g args) w
  gives : ∀ (p q : Bool) (W : World), Calls Try.prog g #[.bool p, .bool q] W fun e w' => e = .returned (.bool (kp p q)) ∧ W = w'

def lenV : Value → Nat | .slice _ n _ => n | _ => 0

theorem infoI : (Try.prog.info? 3).map (fun i => (i.zero, i.size, i.bytes)) = some (some (.int .i64 0), 1, 8) := by kernel_rfl

/-- The first number of a row, and the row behind it. -/
theorem IntsAt.uncons {w : World} {v : Value} {x : Int} {r : List Int} (h : IntsAt w v (x :: r)) :
    ∃ b o cap v', v = .slice (some ⟨b, o, none⟩) (r.length + 1) cap ∧ b < w.heap.size ∧ w.cell? ⟨b, o, none⟩ = some (.int .i64 x) ∧
      (∀ W, (Instr.slice 92 (.slice (some ⟨b, o, none⟩) (r.length + 1) cap) (some (.int .i64 1)) none none).run Try.prog W = .ok v' W) ∧ IntsAt w v' r ∧ lenV v' = r.length ∧ (r.length : Int) + 1 ≤ 17592186044416 := by
  obtain ⟨a, cap, rfl, h1, h2, h3⟩ := h.open
  obtain ⟨b, o, rfl, hb, hc⟩ := h3 (by simp)
  simp only [List.length_cons] at h1 h2 hc
  refine ⟨b, o, cap, .slice (some ⟨b, if cap = 1 then o else o + 1, none⟩) r.length (cap - 1), rfl, hb, by simpa using hc 0 (by simp), fun W => ?_, ?_, rfl, by omega⟩
  · have hs : ∀ W, (sizeOf (Try.prog.elem 92)).run Try.prog W = .ok 1 W := fun W => by kernel_rfl
    rw [run_slice_l (P := Try.prog) (w := W) 92 _ _ _ (by kernel_rfl) .i64 1 (by omega) (by omega), hs]
    by_cases e : cap = 1
    · subst e; simp [Result.andThen, sliced]
    · simp [Result.andThen, sliced, e, Addr.add]
  · refine ⟨_, _, rfl, by omega, by omega, fun hl => ⟨b, _, rfl, hb, fun i u hu => ?_⟩⟩
    have hl' : 0 < r.length := by simpa using hl
    rw [if_neg (by omega)]
    have hi : i < r.length := by
      have := (List.getElem?_eq_some_iff.1 hu).1
      simpa using this
    have := hc (i + 1) (by simpa using hi)
    rw [show o + 1 + i = o + (i + 1) by omega, this]
    simp [hi, vI] at hu
    simp [hu]

set_option maxHeartbeats 2000000 in
set_option maxRecDepth 100000 in
theorem line_any (g : Nat) (kp : Bool → Bool → Bool) (hg : Keeps g kp) (hk0 : kp false false = false) (va vb : Value) (a b : List Int) (w : World)
    (ha : IntsAt w va a) (hb : IntsAt w vb b) (hea : a.length % 2 = 0) (heb : b.length % 2 = 0) (haa : Asc a) (hab : Asc b) (hla : a.length + b.length ≤ 17592186044416) :
    Calls Try.prog 109 #[va, vb, .func (.func g) #[] #[]] w fun e w' => ∃ (v' : Value) (o : List Int), e = .returned v' ∧ w'.ownsRow w.heap.size 3 1 v' o.length (o.map vI) ∧ Below w.heap.size w w' ∧ LineGives kp a b o := by
  obtain ⟨i0, hi0, hz0, hz1, hz2⟩ := info_parts infoI
  have eg := hg.enters
  have KG := Lib.hid hg.gives
  have HST := Lib.hid (LineInv.start kp a b hk0)
  have HDN := Lib.hid (fun a0 b0 o p q is (h : LineInv kp a b a0 [] b0 [] o p q is) => h.done hk0 hea heb)
  have HLA := Lib.hid hla
  have HSA := Lib.hid (And.intro haa hab)
  have HA := Lib.hid ha
  have HB := Lib.hid hb
  obtain ⟨aa, ca, rfl, -, -, -⟩ := ha.open
  obtain ⟨ab, cb, rfl, -, -, -⟩ := hb.open
  clear ha hb hg hea heb hla hk0 haa hab
  go_enter Try.func109, Try.ntmps109
  go_wp2
  go_loopw [0, 1, 7, 8, 9, 10] (fun v0 v1 v7 v8 v9 v10 wr => ∃ (a' b' a0 b0 o : List Int) (p q is : Bool), IntsAt w v0 a' ∧ IntsAt w v1 b' ∧ v8 = .bool p ∧ v9 = .bool q ∧ v10 = .bool is ∧
      wr.ownsRow w.heap.size 3 1 v7 o.length (o.map vI) ∧ Below w.heap.size w wr ∧ Hid (LineInv kp a b a0 a' b0 b' o p q is)) (fun v0 v1 _ _ _ _ _ => lenV v0 + lenV v1)
  case atStart => exact ⟨a, b, [], [], [], false, false, false, HA.out, HB.out, rfl, rfl, rfl, World.ownsRow_nil _ _ _ _, Below.refl _ _, HST.out⟩
  case round =>
    obtain ⟨a', b', a0, b0, o, p, q, is, h0, h1, rfl, rfl, rfl, hown, hbl, HI⟩ := hrel
    clear HA HB HST
    have hroom := HI.out.room
    have hA1 : 0 < a'.length + b'.length → o.length + 1 ≤ maxLen := fun h => by have := HLA.out; unfold maxLen; omega
    have hA2 : 0 < a'.length + b'.length → (o.length + 1) * 8 ≤ 140737488355328 := fun h => by have := HLA.out; omega
    have hA3 : w.heap.size ≤ wr.heap.size + 1 := by have := hbl.size; omega
    clear hroom
    cases a' with
    | nil =>
      obtain ⟨aa', ca', rfl, -, -, -⟩ := h0.open
      cases b' with
      | nil =>
        obtain ⟨ab', cb', rfl, -, -, -⟩ := h1.open
        go_wp2
        go_ret
        exact ⟨_, o, rfl, hown, hbl, HDN.out _ _ _ _ _ _ HI.out⟩
      | cons y rb =>
        obtain ⟨bb, ob, capb, v1', rfl, hbb, hyb, hslb, h1', hlenb, hrlb⟩ := h1.uncons
        have hy := (hbl.cell (p := ⟨bb, ob, none⟩) hbb).trans hyb
        clear hyb
        have hzb : (0 : Int) ≤ (rb.length : Int) := by omega
        replace hA1 := hA1 (by simp only [List.length_cons]; omega)
        replace hA2 := hA2 (by simp only [List.length_cons]; omega)
        have hd0 : decide ((0 : Int) < (([] : List Int).length : Int)) = false := rfl
        have hd1 : (((rb.length : Int) + 1) == 0) = false := beq_eq_false_iff_ne.2 (by omega)
        have c := KG.out (p) (!q)
        generalize hnow : kp (p) (!q) = now at c
        have CN := Lib.hid c
        have HN := Lib.hid hnow
        clear c hnow KG
        rcases (by cases now <;> cases is <;> simp : is = now ∨ is = !now) with rfl | rfl
        · go_wp2_with fail
          go_quiet (fail)
          go_wp2_with (first | (go_at_fn g; refine (CN.out _).mono ?_; rintro e w' ⟨rfl, rfl⟩))
          go_roundw
          case rel =>
            have HS := HI.out.stepB HSA.out.2 (by simp) HN.out
            refine ⟨[], rb, a0, b0 ++ [y], o, p, !q, is, h0, h1', rfl, rfl, rfl, hown, below_drewN hbl _, ?_⟩
            show LineInv _ _ _ _ _ _ _ _ _ _ _
            simpa using HS
          case measure => show lenV _ + lenV v1' < lenV _ + lenV _; rw [hlenb]; simp only [lenV]; omega
        · go_wp2_with fail
          go_quiet (fail)
          go_wp2_with (first | (go_at_fn g; refine (CN.out _).mono ?_; rintro e w' ⟨rfl, rfl⟩) | (at_builtin; refine wpList_append_lies _ rfl _ _ _ rfl w.heap.size 3 i0 _ 1 8 Try.underlying92 hi0 hz0 hz1 hz2 rfl (by decide) u7 o.length (o.map vI) (by rfl) (World.ownsRow.alloc (w := wr.drewN nq) hown _) ⟨wr.heap.size, 0, none⟩ 1 1 [.int .i64 y] (by rfl) (by rfl) (cell_one_new _ _ _) (by simp [Value.oneCell']) (by decide) hA1 hA2 (by simpa using hA3) (wr.heap.size + 1) (by simp) ?_; intro gg cap1 w1 hown3 hgrow hat hlt1))
          go_roundw
          case rel =>
            have HS := HI.out.stepB HSA.out.2 (by simp) HN.out
            refine ⟨[], rb, a0, b0 ++ [y], o ++ [y], p, !q, now, h0, h1', rfl, rfl, rfl, by simpa [vI] using hown3, ((below_drewN hbl nq).alloc hbl.size _).grown hgrow (by simpa using hA3) (fun k hk => (hown.lt k hk).1), ?_⟩
            show LineInv _ _ _ _ _ _ _ _ _ _ _
            simpa using HS
          case measure => show lenV _ + lenV v1' < lenV _ + lenV _; rw [hlenb]; simp only [lenV]; omega
    | cons x r =>
      cases b' with
      | nil =>
        obtain ⟨ab', cb', rfl, -, -, -⟩ := h1.open
        obtain ⟨ba, oa, capa, v0', rfl, hba, hxa, hsl, h0', hlen, hrl⟩ := h0.uncons
        have hx := (hbl.cell (p := ⟨ba, oa, none⟩) hba).trans hxa
        clear hxa
        have hz : (0 : Int) ≤ (r.length : Int) := by omega
        replace hA1 := hA1 (by simp only [List.length_cons]; omega)
        replace hA2 := hA2 (by simp only [List.length_cons]; omega)
        have hb0 : ((([] : List Int).length : Int) == 0) = true := rfl
        have c := KG.out (!p) (q)
        generalize hnow : kp (!p) (q) = now at c
        have CN := Lib.hid c
        have HN := Lib.hid hnow
        clear c hnow KG
        rcases (by cases now <;> cases is <;> simp : is = now ∨ is = !now) with rfl | rfl
        · go_wp2_with fail
          go_quiet (fail)
          go_wp2_with (first | (go_at_fn g; refine (CN.out _).mono ?_; rintro e w' ⟨rfl, rfl⟩))
          go_roundw
          case rel =>
            have HS := HI.out.stepA HSA.out.1 (by simp) HN.out
            refine ⟨r, [], a0 ++ [x], b0, o, !p, q, is, h0', h1, rfl, rfl, rfl, hown, below_drewN hbl _, ?_⟩
            show LineInv _ _ _ _ _ _ _ _ _ _ _
            simpa using HS
          case measure => show lenV v0' + lenV _ < lenV _ + lenV _; rw [hlen]; simp only [lenV]; omega
        · go_wp2_with fail
          go_quiet (fail)
          go_wp2_with (first | (go_at_fn g; refine (CN.out _).mono ?_; rintro e w' ⟨rfl, rfl⟩) | (at_builtin; refine wpList_append_lies _ rfl _ _ _ rfl w.heap.size 3 i0 _ 1 8 Try.underlying92 hi0 hz0 hz1 hz2 rfl (by decide) u7 o.length (o.map vI) (by rfl) (World.ownsRow.alloc (w := wr.drewN nq) hown _) ⟨wr.heap.size, 0, none⟩ 1 1 [.int .i64 x] (by rfl) (by rfl) (cell_one_new _ _ _) (by simp [Value.oneCell']) (by decide) hA1 hA2 (by simpa using hA3) (wr.heap.size + 1) (by simp) ?_; intro gg cap1 w1 hown3 hgrow hat hlt1))
          go_roundw
          case rel =>
            have HS := HI.out.stepA HSA.out.1 (by simp) HN.out
            refine ⟨r, [], a0 ++ [x], b0, o ++ [x], !p, q, now, h0', h1, rfl, rfl, rfl, by simpa [vI] using hown3, ((below_drewN hbl nq).alloc hbl.size _).grown hgrow (by simpa using hA3) (fun k hk => (hown.lt k hk).1), ?_⟩
            show LineInv _ _ _ _ _ _ _ _ _ _ _
            simpa using HS
          case measure => show lenV v0' + lenV _ < lenV _ + lenV _; rw [hlen]; simp only [lenV]; omega
      | cons y rb =>
        obtain ⟨ba, oa, capa, v0', rfl, hba, hxa, hsl, h0', hlen, hrl⟩ := h0.uncons
        have hx := (hbl.cell (p := ⟨ba, oa, none⟩) hba).trans hxa
        clear hxa
        have hz : (0 : Int) ≤ (r.length : Int) := by omega
        obtain ⟨bb, ob, capb, v1', rfl, hbb, hyb, hslb, h1', hlenb, hrlb⟩ := h1.uncons
        have hy := (hbl.cell (p := ⟨bb, ob, none⟩) hbb).trans hyb
        clear hyb
        have hzb : (0 : Int) ≤ (rb.length : Int) := by omega
        replace hA1 := hA1 (by simp only [List.length_cons]; omega)
        replace hA2 := hA2 (by simp only [List.length_cons]; omega)
        have hd1 : (((rb.length : Int) + 1) == 0) = false := beq_eq_false_iff_ne.2 (by omega)
        rcases Int.lt_trichotomy x y with hxy | hxy | hxy
        · have hd2 : decide (x ≤ y) = true := decide_eq_true (by omega)
          have hd3 : (y == x) = false := beq_eq_false_iff_ne.2 (by omega)
          have c := KG.out (!p) (q)
          generalize hnow : kp (!p) (q) = now at c
          have CN := Lib.hid c
          have HN := Lib.hid hnow
          clear c hnow KG
          rcases (by cases now <;> cases is <;> simp : is = now ∨ is = !now) with rfl | rfl
          · go_wp2_with fail
            go_quiet (fail)
            go_wp2_with (first | (go_at_fn g; refine (CN.out _).mono ?_; rintro e w' ⟨rfl, rfl⟩))
            go_roundw
            case rel =>
              have HS := HI.out.stepA HSA.out.1 (HI.out.before rfl HSA.out.2 hxy) HN.out
              refine ⟨r, y :: rb, a0 ++ [x], b0, o, !p, q, is, h0', h1, rfl, rfl, rfl, hown, below_drewN hbl _, ?_⟩
              show LineInv _ _ _ _ _ _ _ _ _ _ _
              simpa using HS
            case measure => show lenV v0' + lenV _ < lenV _ + lenV _; rw [hlen]; simp only [lenV]; omega
          · go_wp2_with fail
            go_quiet (fail)
            go_wp2_with (first | (go_at_fn g; refine (CN.out _).mono ?_; rintro e w' ⟨rfl, rfl⟩) | (at_builtin; refine wpList_append_lies _ rfl _ _ _ rfl w.heap.size 3 i0 _ 1 8 Try.underlying92 hi0 hz0 hz1 hz2 rfl (by decide) u7 o.length (o.map vI) (by rfl) (World.ownsRow.alloc (w := wr.drewN nq) hown _) ⟨wr.heap.size, 0, none⟩ 1 1 [.int .i64 x] (by rfl) (by rfl) (cell_one_new _ _ _) (by simp [Value.oneCell']) (by decide) hA1 hA2 (by simpa using hA3) (wr.heap.size + 1) (by simp) ?_; intro gg cap1 w1 hown3 hgrow hat hlt1))
            go_roundw
            case rel =>
              have HS := HI.out.stepA HSA.out.1 (HI.out.before rfl HSA.out.2 hxy) HN.out
              refine ⟨r, y :: rb, a0 ++ [x], b0, o ++ [x], !p, q, now, h0', h1, rfl, rfl, rfl, by simpa [vI] using hown3, ((below_drewN hbl nq).alloc hbl.size _).grown hgrow (by simpa using hA3) (fun k hk => (hown.lt k hk).1), ?_⟩
              show LineInv _ _ _ _ _ _ _ _ _ _ _
              simpa using HS
            case measure => show lenV v0' + lenV _ < lenV _ + lenV _; rw [hlen]; simp only [lenV]; omega
        · subst hxy
          have hd2 : decide (x ≤ x) = true := decide_eq_true (by omega)
          have c := KG.out (!p) (!q)
          generalize hnow : kp (!p) (!q) = now at c
          have CN := Lib.hid c
          have HN := Lib.hid hnow
          clear c hnow KG
          rcases (by cases now <;> cases is <;> simp : is = now ∨ is = !now) with rfl | rfl
          · go_wp2_with fail
            go_quiet (fail)
            go_wp2_with (first | (go_at_fn g; refine (CN.out _).mono ?_; rintro e w' ⟨rfl, rfl⟩))
            go_roundw
            case rel =>
              have HS := HI.out.stepAB HSA.out.1 HSA.out.2 HN.out
              refine ⟨r, rb, a0 ++ [x], b0 ++ [x], o, !p, !q, is, h0', h1', rfl, rfl, rfl, hown, below_drewN hbl _, ?_⟩
              show LineInv _ _ _ _ _ _ _ _ _ _ _
              simpa using HS
            case measure => show lenV v0' + lenV v1' < lenV _ + lenV _; rw [hlen, hlenb]; simp only [lenV]; omega
          · go_wp2_with fail
            go_quiet (fail)
            go_wp2_with (first | (go_at_fn g; refine (CN.out _).mono ?_; rintro e w' ⟨rfl, rfl⟩) | (at_builtin; refine wpList_append_lies _ rfl _ _ _ rfl w.heap.size 3 i0 _ 1 8 Try.underlying92 hi0 hz0 hz1 hz2 rfl (by decide) u7 o.length (o.map vI) (by rfl) (World.ownsRow.alloc (w := wr.drewN nq) hown _) ⟨wr.heap.size, 0, none⟩ 1 1 [.int .i64 x] (by rfl) (by rfl) (cell_one_new _ _ _) (by simp [Value.oneCell']) (by decide) hA1 hA2 (by simpa using hA3) (wr.heap.size + 1) (by simp) ?_; intro gg cap1 w1 hown3 hgrow hat hlt1))
            go_roundw
            case rel =>
              have HS := HI.out.stepAB HSA.out.1 HSA.out.2 HN.out
              refine ⟨r, rb, a0 ++ [x], b0 ++ [x], o ++ [x], !p, !q, now, h0', h1', rfl, rfl, rfl, by simpa [vI] using hown3, ((below_drewN hbl nq).alloc hbl.size _).grown hgrow (by simpa using hA3) (fun k hk => (hown.lt k hk).1), ?_⟩
              show LineInv _ _ _ _ _ _ _ _ _ _ _
              simpa using HS
            case measure => show lenV v0' + lenV v1' < lenV _ + lenV _; rw [hlen, hlenb]; simp only [lenV]; omega
        · have hd2 : decide (x ≤ y) = false := decide_eq_false (by omega)
          have hd3 : (x == y) = false := beq_eq_false_iff_ne.2 (by omega)
          have c := KG.out (p) (!q)
          generalize hnow : kp (p) (!q) = now at c
          have CN := Lib.hid c
          have HN := Lib.hid hnow
          clear c hnow KG
          rcases (by cases now <;> cases is <;> simp : is = now ∨ is = !now) with rfl | rfl
          · go_wp2_with fail
            go_quiet (fail)
            go_wp2_with (first | (go_at_fn g; refine (CN.out _).mono ?_; rintro e w' ⟨rfl, rfl⟩))
            go_roundw
            case rel =>
              have HS := HI.out.stepB HSA.out.2 (HI.out.before' rfl HSA.out.1 hxy) HN.out
              refine ⟨x :: r, rb, a0, b0 ++ [y], o, p, !q, is, h0, h1', rfl, rfl, rfl, hown, below_drewN hbl _, ?_⟩
              show LineInv _ _ _ _ _ _ _ _ _ _ _
              simpa using HS
            case measure => show lenV _ + lenV v1' < lenV _ + lenV _; rw [hlenb]; simp only [lenV]; omega
          · go_wp2_with fail
            go_quiet (fail)
            go_wp2_with (first | (go_at_fn g; refine (CN.out _).mono ?_; rintro e w' ⟨rfl, rfl⟩) | (at_builtin; refine wpList_append_lies _ rfl _ _ _ rfl w.heap.size 3 i0 _ 1 8 Try.underlying92 hi0 hz0 hz1 hz2 rfl (by decide) u7 o.length (o.map vI) (by rfl) (World.ownsRow.alloc (w := wr.drewN nq) hown _) ⟨wr.heap.size, 0, none⟩ 1 1 [.int .i64 y] (by rfl) (by rfl) (cell_one_new _ _ _) (by simp [Value.oneCell']) (by decide) hA1 hA2 (by simpa using hA3) (wr.heap.size + 1) (by simp) ?_; intro gg cap1 w1 hown3 hgrow hat hlt1))
            go_roundw
            case rel =>
              have HS := HI.out.stepB HSA.out.2 (HI.out.before' rfl HSA.out.1 hxy) HN.out
              refine ⟨x :: r, rb, a0, b0 ++ [y], o ++ [y], p, !q, now, h0, h1', rfl, rfl, rfl, by simpa [vI] using hown3, ((below_drewN hbl nq).alloc hbl.size _).grown hgrow (by simpa using hA3) (fun k hk => (hown.lt k hk).1), ?_⟩
              show LineInv _ _ _ _ _ _ _ _ _ _ _
              simpa using HS
            case measure => show lenV _ + lenV v1' < lenV _ + lenV _; rw [hlenb]; simp only [lenV]; omega

end Go.Proofs.Yteokdmcdhalcfaa
