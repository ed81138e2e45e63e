/- The walks of Union, Both, Minus, AreaOf, Area, alive. -/
import Derived.Test.YteokdmcdhalcfaaWalkJ
namespace Go.Proofs.Yteokdmcdhalcfaa
open Go.RowKit Go.Lib Go.Shelf Go.Sort Etch
attribute [local go_sem ↓] Go.wp_at_zero Go.wp_at_succ

/-- What Union, Both, Minus give. -/
def TwoGave (Q : Prop → Prop → Prop) (a b rs : List R) : Prop := Rgn a ∧ Rgn b ∧ Reg rs ∧ ∀ x y, cov rs x y ↔ Q (cov a x y) (cov b x y)

theorem union_any (va vb : Value) (a b : List R) (w : World) (ha : RectsAt w va a) (hb : RectsAt w vb b) :
    Calls Try.prog 38 #[va, vb] w (Gave w (TwoGave (fun p q => p ∨ q) a b)) := by
  have HT := Lib.hid (two_any _ _ mergesOr rfl (fun p q => p ∨ q) (by intro p q; simp) va vb a b w ha hb)
  obtain ⟨aa, ca, rfl, -, -, -⟩ := ha.open
  obtain ⟨ab, cb, rfl, -, -, -⟩ := hb.open
  clear ha hb
  go_enter Try.func38, Try.ntmps38
  go_wp2_with fail
  refine HT.out.mono ?_
  rintro e w1 ⟨v', c, rs, rfl, h⟩
  obtain ⟨a', c', rfl⟩ := own_shape h.1
  have H := Lib.hid h
  clear h
  go_wp2
  go_ret2
  exact ⟨_, c, rs, rfl, H.out⟩

theorem both_any (va vb : Value) (a b : List R) (w : World) (ha : RectsAt w va a) (hb : RectsAt w vb b) :
    Calls Try.prog 39 #[va, vb] w (Gave w (TwoGave (fun p q => p ∧ q) a b)) := by
  have HT := Lib.hid (two_any _ _ mergesAnd rfl (fun p q => p ∧ q) (by intro p q; simp) va vb a b w ha hb)
  obtain ⟨aa, ca, rfl, -, -, -⟩ := ha.open
  obtain ⟨ab, cb, rfl, -, -, -⟩ := hb.open
  clear ha hb
  go_enter Try.func39, Try.ntmps39
  go_wp2_with fail
  refine HT.out.mono ?_
  rintro e w1 ⟨v', c, rs, rfl, h⟩
  obtain ⟨a', c', rfl⟩ := own_shape h.1
  have H := Lib.hid h
  clear h
  go_wp2
  go_ret2
  exact ⟨_, c, rs, rfl, H.out⟩

theorem minus_any (va vb : Value) (a b : List R) (w : World) (ha : RectsAt w va a) (hb : RectsAt w vb b) :
    Calls Try.prog 40 #[va, vb] w (Gave w (TwoGave (fun p q => p ∧ ¬ q) a b)) := by
  have HT := Lib.hid (two_any _ _ mergesLess rfl (fun p q => p ∧ ¬ q) (by intro p q; simp) va vb a b w ha hb)
  obtain ⟨aa, ca, rfl, -, -, -⟩ := ha.open
  obtain ⟨ab, cb, rfl, -, -, -⟩ := hb.open
  clear ha hb
  go_enter Try.func40, Try.ntmps40
  go_wp2_with fail
  refine HT.out.mono ?_
  rintro e w1 ⟨v', c, rs, rfl, h⟩
  obtain ⟨a', c', rfl⟩ := own_shape h.1
  have H := Lib.hid h
  clear h
  go_wp2
  go_ret2
  exact ⟨_, c, rs, rfl, H.out⟩

/-- How many squares a rectangle has. -/
def areaR (r : R) : Int := (r.x1 - r.x0) * (r.y1 - r.y0)
def areaL : List R → Int
  | [] => 0
  | r :: l => areaR r + areaL l

theorem areaL_append (a b : List R) : areaL (a ++ b) = areaL a + areaL b := by
  induction a with
  | nil => simp [areaL]
  | cons r a ih => simp only [List.cons_append, areaL, ih]; omega

theorem areaR_ok {r : R} (h : RectOk r) : 0 ≤ areaR r ∧ areaR r ≤ 4000000000000 := by
  have h1 := h.at_
  have h2 := h.2
  constructor
  · exact Int.mul_nonneg (by omega) (by omega)
  · exact Int.le_trans (Int.mul_le_mul (by omega : r.x1 - r.x0 ≤ 2000000) (by omega : r.y1 - r.y0 ≤ 2000000) (by omega) (by omega)) (by decide)

theorem areaL_ok : ∀ {l : List R}, (∀ r ∈ l, RectOk r) → 0 ≤ areaL l ∧ areaL l ≤ 4000000000000 * l.length
  | [], _ => by simp [areaL]
  | r :: l, h => by
    have ih := areaL_ok (l := l) fun x hx => h x (by simp [hx])
    have := areaR_ok (h r (by simp))
    simp only [areaL, List.length_cons]
    omega

set_option maxHeartbeats 1000000 in
set_option maxRecDepth 100000 in
theorem areaOf_any (v : Value) (rs : List R) (w : World) (h : RectsAt w v rs) (hok : ∀ r ∈ rs, RectOk r) (hn2 : rs.length ≤ 2000) :
    Calls Try.prog 65 #[v] w fun e w' => e = .returned (.int .i64 (areaL rs)) ∧ Below w.heap.size w w' := by
  have hub := Try.underlying31
  obtain ⟨a, cap, rfl, hcap, hn, hc⟩ := h.open
  have HC := Lib.hid hc
  have HOK := Lib.hid hok
  clear hc h hok
  go_enter Try.func65, Try.ntmps65
  go_wp2_with fail
  go_loopw [3, 8] (fun v3 v8 wr => ∃ k : Nat, k ≤ rs.length ∧ v8 = .int .i64 k ∧ v3 = .int .i64 (areaL (rs.take k)) ∧ Below w.heap.size w wr) (fun _ v8 _ => rs.length - (intOf v8).toNat)
  case atStart => exact ⟨0, Nat.zero_le _, rfl, rfl, Below.refl _ _⟩
  case round =>
    obtain ⟨k, hk, rfl, rfl, hbl⟩ := hrel
    have HBL := Lib.hid hbl
    by_cases hlt : k < rs.length
    · obtain ⟨b, off, rfl, hbs, hcell⟩ := HC.out (by omega)
      obtain ⟨e0, e1, e2, e3⟩ := hcell k hlt
      have f0 := (hbl.cell (p := ⟨b, off + k * 4, none⟩) hbs).trans e0
      have f1 := (hbl.cell (p := ⟨b, off + k * 4 + 1, none⟩) hbs).trans e1
      have f2 := (hbl.cell (p := ⟨b, off + k * 4 + 2, none⟩) hbs).trans e2
      have f3 := (hbl.cell (p := ⟨b, off + k * 4 + 3, none⟩) hbs).trans e3
      have hat := (HOK.out _ (List.getElem_mem hlt)).at_
      have har := areaR_ok (HOK.out _ (List.getElem_mem hlt))
      have hal := areaL_ok (l := rs.take k) (fun r hr => HOK.out r (List.mem_of_mem_take hr))
      rw [List.length_take] at hal
      have HTK : Hid (areaL (rs.take (k + 1)) = areaL (rs.take k) + areaR rs[k]) := by
        show _ = _
        rw [List.take_succ_eq_append_getElem hlt, areaL_append]; simp [areaL]
      clear e0 e1 e2 e3 hcell hbl
      generalize areaL (rs.take k) = acc at hal HTK ⊢
      generalize rs[k] = r at f0 f1 f2 f3 hat har HTK
      unfold areaR at har HTK
      have hs0 : IntKind.i64.wrap (r.x1 - r.x0) = r.x1 - r.x0 := IntWalk.i64_in _ (by omega)
      have hs1 : IntKind.i64.wrap (r.y1 - r.y0) = r.y1 - r.y0 := IntWalk.i64_in _ (by omega)
      have hacc : 0 ≤ acc ∧ acc ≤ 8000000000000000 := by omega
      generalize hpp : (r.x1 - r.x0) * (r.y1 - r.y0) = p at har HTK
      have hs2 : IntKind.i64.wrap p = p := IntWalk.i64_in _ (by omega)
      have hs3 : IntKind.i64.wrap (acc + p) = acc + p := IntWalk.i64_in _ (by omega)
      clear hal
      go_wp2
      go_roundw
      case rel => exact ⟨k + 1, by omega, by go_num, congrArg (Value.int .i64) (by rw [HTK.out]), ((HBL.out.alloc HBL.out.size _))⟩
      case measure => simp [intOf]; omega
    · have hke : k = rs.length := by omega
      subst hke
      rw [List.take_length]
      clear hbl
      go_wp2
      go_ret
      exact ⟨rfl, HBL.out⟩

theorem area_any (v : Value) (rs : List R) (w : World) (h : RectsAt w v rs) :
    Calls Try.prog 41 #[v] w fun e w' => ∃ n c : Int, e = .returned (.tuple #[.int .i64 n, .int .i64 c]) ∧ Below w.heap.size w w' ∧ (c = 0 → Rgn rs ∧ n = areaL rs) ∧ (rs.length ≤ 1 → Rgn rs → c = 0) := by
  have HA := Lib.hid h
  have HC1 := Lib.hid (checkRegion_any v rs w h)
  obtain ⟨aa, ca, rfl, -, -, -⟩ := h.open
  clear h
  go_enter Try.func41, Try.ntmps41
  go_wp2_with fail
  refine HC1.out.mono ?_
  rintro e w1 ⟨c1, rfl, hb1, hc1, hd1⟩
  have HB1 := Lib.hid hb1
  have HR := Lib.hid (And.intro hc1 hd1)
  clear hb1 hc1 hd1 HC1
  by_cases hz1 : c1 = 0
  · subst hz1
    have hr := HR.out.1 rfl
    have HAR := Lib.hid (areaOf_any _ rs w1 (HA.out.below HB1.out (Nat.le_refl _)) hr.2.1 hr.1)
    have HRR := Lib.hid hr
    clear hr HR
    go_wp2_with fail
    refine HAR.out.mono ?_
    rintro e w2 ⟨rfl, hb2⟩
    have HB2 := Lib.hid (HB1.out.trans (hb2.mono HB1.out.size))
    clear hb2 HAR
    go_wp2
    go_ret2
    exact ⟨_, 0, rfl, HB2.out, fun _ => ⟨HRR.out, rfl⟩, fun _ _ => rfl⟩
  · have hcb : (c1 == 0) = false := beq_eq_false_iff_ne.2 hz1
    go_wp2
    go_ret2
    exact ⟨0, c1, rfl, HB1.out, fun h => absurd h hz1, HR.out.2⟩

theorem rgn_one : Rgn [⟨0, 0, 2, 3⟩] := by
  refine ⟨by simp, fun r hr => ?_, ⟨[⟨0, 3, [0, 2]⟩], ?_, rfl⟩⟩
  · simp at hr; subst hr; exact ⟨by decide, by decide, by decide⟩
  · exact ⟨by decide, by simp, by unfold Asc; simp, by decide⟩

theorem rectsAt_new (w : World) (x0 y0 x1 y1 : Int) : RectsAt (w.alloc (.cells #[.int .i64 x0, .int .i64 y0, .int .i64 x1, .int .i64 y1] 31)) (.slice (some ⟨w.heap.size, 0, none⟩) 1 1) [⟨x0, y0, x1, y1⟩] := by
  refine ⟨some ⟨w.heap.size, 0, none⟩, 1, rfl, Nat.le_refl _, by simp, fun _ => ⟨w.heap.size, 0, rfl, by simp, fun i u hu => ?_⟩⟩
  have hi : i < 4 := by
    have := (List.getElem?_eq_some_iff.1 hu).1
    simpa [csR, cR] using this
  have e : (csR [⟨x0, y0, x1, y1⟩])[i]? = (#[.int .i64 x0, .int .i64 y0, .int .i64 x1, .int .i64 y1] : Array Value)[i]? := by
    rcases i with _ | _ | _ | _ | i
    · rfl
    · rfl
    · rfl
    · rfl
    · omega
  rw [e] at hu
  unfold World.cell?
  rw [show (w.alloc _).heap[w.heap.size]? = _ from heap_alloc_new w _]
  simpa using hu

theorem alive_any (w : World) : Calls Try.prog 18 #[] w fun e w' => e = .returned (.bool true) ∧ Below w.heap.size w w' := by
  have HAR := Lib.hid (area_any _ _ _ (rectsAt_new w 0 0 2 3))
  go_enter Try.func18, Try.ntmps18
  go_wp2_with fail
  refine HAR.out.mono ?_
  rintro e w1 ⟨n, c, rfl, hb1, hc1, hd1⟩
  have HB1 := Lib.hid (((Below.refl w.heap.size w).alloc (Nat.le_refl _) _).trans (hb1.mono (by simp)))
  have h0 := hd1 (by simp) rgn_one
  subst h0
  obtain rfl : n = 6 := (hc1 rfl).2
  clear hb1 hc1 hd1 HAR
  go_wp2
  go_ret
  exact ⟨rfl, HB1.out⟩

end Go.Proofs.Yteokdmcdhalcfaa
