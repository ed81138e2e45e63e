/- The walks of stretches and of the comparisons that are handed to the sort. -/
import Derived.Test.YteokdmcdhalcfaaWalkG
import Derived.Test.YteokdmcdhalcfaaPlainF
import Derived.RegionTactic
import Derived.BigRegion
namespace Go.Proofs.Yteokdmcdhalcfaa
open Go.RowKit Go.Lib Go.Shelf Go.Sort Etch
attribute [local go_sem ↓] Go.wp_at_zero Go.wp_at_succ

theorem cmpY : Cmps 68 (fun r => r.y0) where
  enters := enters_of Try.func68 (by kernel_rfl) rfl
  gives x y W hx hy := by
    unfold InB at hx hy
    obtain ⟨x0, x1, x2, x3⟩ := x
    obtain ⟨y0, y1, y2, y3⟩ := y
    simp only at hx hy
    have hub := Try.underlying31
    have h1 : -2199023255552 ≤ x1 - y1 := by omega
    have h2 : x1 - y1 ≤ 2199023255552 := by omega
    clear hx hy
    show Calls Try.prog _ #[.agg #[.int .i64 x0, .int .i64 x1, .int .i64 x2, .int .i64 x3], .agg #[.int .i64 y0, .int .i64 y1, .int .i64 y2, .int .i64 y3]] W _
    go_enter Try.func68, Try.ntmps68
    go_wp2
    go_ret
    exact ⟨rfl, 0, _, by rw [alloc_eq_grow, alloc_eq_grow, grow_grow]; rfl⟩

theorem cmpX : Cmps 103 (fun r => r.x0) where
  enters := enters_of Try.func103 (by kernel_rfl) rfl
  gives x y W hx hy := by
    unfold InB at hx hy
    obtain ⟨x0, x1, x2, x3⟩ := x
    obtain ⟨y0, y1, y2, y3⟩ := y
    simp only at hx hy
    have hub := Try.underlying31
    have h1 : -2199023255552 ≤ x0 - y0 := by omega
    have h2 : x0 - y0 ≤ 2199023255552 := by omega
    clear hx hy
    show Calls Try.prog _ #[.agg #[.int .i64 x0, .int .i64 x1, .int .i64 x2, .int .i64 x3], .agg #[.int .i64 y0, .int .i64 y1, .int .i64 y2, .int .i64 y3]] W _
    go_enter Try.func103, Try.ntmps103
    go_wp2
    go_ret
    exact ⟨rfl, 0, _, by rw [alloc_eq_grow, alloc_eq_grow, grow_grow]; rfl⟩

theorem asc_last {init : List Int} {s t x : Int} (h : Asc (init ++ [s, t])) (hx : t < x) : ∀ u ∈ init ++ [s, t], u < x := by
  intro u hu
  have h1 := List.pairwise_append.1 h
  rcases List.mem_append.1 hu with hu | hu
  · have := h1.2.2 u hu t (by simp); omega
  · have h2 := h1.2.1
    simp at hu h2
    rcases hu with rfl | rfl <;> omega

/-- What stretches gives. -/
def Stretched (w : World) (base : Nat) (v : Value) (ds : List R) (e : Ending) (w' : World) : Prop :=
  ∃ (u : Value) (xs : List Int) (ds' : List R), e = .returned u ∧ ds'.Perm ds ∧ w'.ownsRow base 31 4 v ds'.length (csR ds') ∧ w'.ownsRow w.heap.size 3 1 u xs.length (xs.map vI) ∧ w.grownBy w' v.ownBlock ∧
    XsOk xs ∧ (∀ x, odd xs x = true ↔ ∃ r, r ∈ ds ∧ r.x0 ≤ x ∧ x < r.x1) ∧ (∀ t ∈ xs, ∃ r, r ∈ ds ∧ (t = r.x0 ∨ t = r.x1)) ∧ xs.length ≤ 2 * ds.length

set_option maxHeartbeats 2000000 in
set_option maxRecDepth 100000 in
theorem stretches_any (base : Nat) (v : Value) (ds : List R) (w : World) (ho : w.ownsRow base 31 4 v ds.length (csR ds)) (hb : ∀ r ∈ ds, InB r) (hx : ∀ r ∈ ds, r.x0 < r.x1) (hn : ds.length ≤ 4398046511104) :
    Calls Try.prog 74 #[v] w (Stretched w base v ds) := by
  obtain ⟨i0, hi0, hy0, hy1, hy2⟩ := info_parts infoI
  have hub := Try.underlying31
  have HS := Lib.hid (sort_any 103 (fun r => r.x0) cmpX base v ds w ho hb (by omega))
  obtain ⟨av, cv, rfl⟩ : ∃ av cv, v = .slice av ds.length cv := by
    rcases ho.2 with ⟨rfl, h⟩ | ⟨b, cap, cur, rfl, _⟩
    · exact ⟨none, 0, by rw [h]⟩
    · exact ⟨_, cap, rfl⟩
  have HX := Lib.hid hx
  clear ho hb hx
  go_enter Try.func74, Try.ntmps74
  go_wp2_with (go_at_call 67; refine HS.out.mono ?_; rintro e w1 ⟨ds', rfl, hperm, hsort, hown, hg⟩)
  have hl : ds'.length = ds.length := hperm.length_eq
  have hR : RectsAt w1 (.slice av ds.length cv) ds' := by
    have := Cells.own hown (by omega)
    rw [← hl] at this ⊢
    exact this
  obtain ⟨a1, c1, hv1, -, -, hcl⟩ := hR.open
  obtain ⟨rfl, rfl⟩ : av = a1 ∧ cv = c1 := by simpa [hl] using hv1
  have HC := Lib.hid hcl
  have HP := Lib.hid hperm
  have HSO := Lib.hid hsort
  have HOWN := Lib.hid hown
  have HG := Lib.hid hg
  have HG0 := Lib.hid hg.size
  clear hv1 hcl hR hperm hsort hown hg
  go_loopw [3, 11] (fun v3 v11 wr => ∃ (k : Nat) (o : List Int), k ≤ ds.length ∧ v11 = .int .i64 k ∧ wr.ownsRow w1.heap.size 3 1 v3 o.length (o.map vI) ∧ Below w1.heap.size w1 wr ∧ Hid (StrInv (ds'.take k) o)) (fun _ v11 _ => ds.length - (intOf v11).toNat)
  case atStart => exact ⟨0, [], Nat.zero_le _, rfl, World.ownsRow_nil _ _ _ _, Below.refl _ _, StrInv.start⟩
  case round =>
    obtain ⟨k, o, hk, rfl, hown2, hbl, HI⟩ := hrel
    by_cases hlt : k < ds.length
    · obtain ⟨b, off, rfl, hbs, hcell⟩ := HC.out (by omega)
      obtain ⟨g0, g1, g2, g3⟩ := hcell k (by omega)
      have e0 := (hbl.cell (p := ⟨b, off + k * 4, none⟩) hbs).trans g0
      have e1 := (hbl.cell (p := ⟨b, off + k * 4 + 1, none⟩) hbs).trans g1
      have e2 := (hbl.cell (p := ⟨b, off + k * 4 + 2, none⟩) hbs).trans g2
      have e3 := (hbl.cell (p := ⟨b, off + k * 4 + 3, none⟩) hbs).trans g3
      have HTK : Hid (ds'.take (k + 1) = ds'.take k ++ [ds'[k]'(by omega)]) := List.take_succ_eq_append_getElem (by omega)
      have HRX : Hid ((ds'[k]'(by omega)).x0 < (ds'[k]'(by omega)).x1) := HX.out _ (HP.out.mem_iff.1 (List.getElem_mem _))
      have HLE : Hid (∀ q ∈ ds'.take k, q.x0 ≤ (ds'[k]'(by omega)).x0) := by
        intro q hq
        obtain ⟨j, hj, rfl⟩ := List.getElem_of_mem hq
        have hj' : j < k := by simp at hj; omega
        have := List.pairwise_iff_getElem.1 HSO.out j k (by omega) (by omega) hj'
        simpa using this
      have hol := HI.out.len
      rw [List.length_take] at hol
      clear hcell g0 g1 g2 g3
      generalize ds'[k]'(by omega) = r at e0 e1 e2 e3 HTK HRX HLE
      have hA3 : w1.heap.size ≤ wr.heap.size + 1 + 1 := by have := hbl.size; omega
      by_cases hoe : o = []
      · subst hoe
        obtain ⟨a3, c3, rfl, -⟩ := Cells.own hown2 (by simp)
        have hA1 : 0 + 2 ≤ maxLen := by unfold maxLen; omega
        have hA2 : (0 + 2) * 8 ≤ 140737488355328 := by omega
        clear hol
        go_wp2_with fail
        go_quiet (fail)
        go_wp2_with (first | (at_builtin; refine wpList_append_lies _ rfl _ _ _ rfl w1.heap.size 3 i0 _ 1 8 Try.underlying92 hi0 hy0 hy1 hy2 rfl (by decide) _ 0 (([] : List Int).map vI) (by rfl) (World.ownsRow.alloc (w := (wr.alloc (.cells #[.int .i64 r.x0, .int .i64 r.y0, .int .i64 r.x1, .int .i64 r.y1] 31)).drewN nq) (hown2.alloc (.cells #[.int .i64 r.x0, .int .i64 r.y0, .int .i64 r.x1, .int .i64 r.y1] 31)) _) ⟨wr.heap.size + 1, 0, none⟩ 2 2 [.int .i64 r.x0, .int .i64 r.x1] (by rfl) (by rfl) (World.news_of_block (cs := #[.int .i64 r.x0, .int .i64 r.x1]) (t := 3) (fr := (0, 0)) (by simpa using heap_alloc_new ((wr.alloc (.cells #[.int .i64 r.x0, .int .i64 r.y0, .int .i64 r.x1, .int .i64 r.y1] 31)).drewN nq) (.cells #[.int .i64 r.x0, .int .i64 r.x1] 3))) (by simp [Value.oneCell']) (by decide) hA1 hA2 (by simpa using hA3) (wr.heap.size + 2) (by simp) ?_; intro gg cap1 w2 hown3 hgrow hat hlt1))
        go_roundw
        case rel =>
          refine ⟨k + 1, [] ++ [r.x0, r.x1], by omega, by go_num, by simpa [vI] using hown3, ?_, ?_⟩
          · exact ((below_drewN (hbl.alloc hbl.size _) nq).alloc (by have := hbl.size; simp; omega) _).grown hgrow (by have := hbl.size; simp; omega) (fun q hq => (hown2.lt q hq).1)
          · show StrInv _ _
            rw [HTK.out]; exact HI.out.put r HRX.out (fun u hu => by cases hu)
        case measure => simp [intOf]; omega
      · obtain ⟨init, s, t, rfl⟩ := even_split HI.out.even hoe
        obtain ⟨L, hL⟩ : ∃ L, init.length + 1 = L := ⟨_, rfl⟩
        have hil : (init ++ [s, t]).length = L + 1 := by simp; omega
        rw [hil] at hown2
        have hil2 : L + 1 ≤ 2 * ds.length := by rw [hil] at hol; omega
        obtain ⟨gb, c3, rfl, hgb1, hgb2⟩ := hown2.form (by omega)
        have ht : wr.cell? ⟨gb, L, none⟩ = some (.int .i64 t) := by
          rw [hown2.cellAt _ (by omega), ← hL]; simp [vI]
        have hfz := hown2.frozenAt L
        have hA1 : L + 1 + 2 ≤ maxLen := by unfold maxLen; omega
        have hA2 : (L + 1 + 2) * 8 ≤ 140737488355328 := by omega
        have hz0 : (0 : Int) ≤ (L : Int) := by omega
        have hz2 : (L : Int) < (L : Int) + 1 := by omega
        have HL := Lib.hid hL
        clear hol hil hoe hL
        by_cases htr : r.x0 ≤ t
        · have htb : decide (r.x0 ≤ t) = true := decide_eq_true htr
          go_wp2_with fail
          go_quiet (fail)
          go_wp2_with fail
          have hw1 := World.new_ne wr ⟨gb, L, none⟩ ht
          have p2 : ((wr.alloc (.cells #[.int .i64 r.x0, .int .i64 r.y0, .int .i64 r.x1, .int .i64 r.y1] 31)).drewN nq).cell? ⟨wr.heap.size, 2, none⟩ = some (.int .i64 r.x1) := by
            show (wr.alloc _).cell? _ = _
            unfold World.cell?; rw [heap_alloc_new]; rfl
          have pt : ((wr.alloc (.cells #[.int .i64 r.x0, .int .i64 r.y0, .int .i64 r.x1, .int .i64 r.y1] 31)).drewN nq).cell? ⟨gb, L, none⟩ = some (.int .i64 t) :=
            (Below.cell (p := ⟨gb, L, none⟩) (below_drewN ((Below.refl wr.heap.size wr).alloc (Nat.le_refl _) _) nq) hgb2).trans ht
          have pf : ((wr.alloc (.cells #[.int .i64 r.x0, .int .i64 r.y0, .int .i64 r.x1, .int .i64 r.y1] 31)).drewN nq).frozen? ⟨gb, L, none⟩ = false :=
            (Below.frozen (p := ⟨gb, L, none⟩) (below_drewN ((Below.refl wr.heap.size wr).alloc (Nat.le_refl _) _) nq) hgb2).trans hfz
          have hownx : ((wr.alloc (.cells #[.int .i64 r.x0, .int .i64 r.y0, .int .i64 r.x1, .int .i64 r.y1] 31)).drewN nq).ownsRow w1.heap.size 3 1 (.slice (some ⟨gb, 0, none⟩) (L + 1) c3) (L + 1) ((init ++ [s, t]).map vI) := hown2.alloc _
          have hblx : Below w1.heap.size w1 ((wr.alloc (.cells #[.int .i64 r.x0, .int .i64 r.y0, .int .i64 r.x1, .int .i64 r.y1] 31)).drewN nq) := below_drewN (hbl.alloc hbl.size _) nq
          have hbxs : wr.heap.size < ((wr.alloc (.cells #[.int .i64 r.x0, .int .i64 r.y0, .int .i64 r.x1, .int .i64 r.y1] 31)).drewN nq).heap.size := by show _ < (wr.alloc _).heap.size; simp
          have hgne : gb ≠ wr.heap.size := by omega
          generalize ((wr.alloc (.cells #[.int .i64 r.x0, .int .i64 r.y0, .int .i64 r.x1, .int .i64 r.y1] 31)).drewN nq) = wx at p2 pt pf hownx hblx hbxs ⊢
          clear e0 e1 e2 e3 ht hfz hown2 hbl hw1
          go_region
          go_wp2
          go_roundw
          case rel =>
            obtain ⟨k1, k2⟩ := hownx.stored L (.int .i64 (max t r.x1))
            have em : (if t < r.x1 then r.x1 else t) = max t r.x1 := by split <;> omega
            have el : (init ++ [s, max t r.x1]).length = L + 1 := by have := HL.out; simp; omega
            have es : ((init ++ [s, t]).map vI).set L (.int .i64 (max t r.x1)) = (init ++ [s, max t r.x1]).map vI := by
              have := HL.out
              subst this
              simp [vI, List.set_append_right]
            rw [es] at k1
            refine ⟨k + 1, init ++ [s, max t r.x1], by omega, by go_num, by rw [el]; exact k1, (hblx.grown k2 hblx.size (fun q hq => by cases hq; exact hgb1)).drew, ?_⟩
            show StrInv _ _
            have := HI.out.join r HRX.out HLE.out htr
            rw [em] at this
            rw [HTK.out]; exact this
          case measure => simp [intOf]; omega
        · have htb : decide (r.x0 ≤ t) = false := decide_eq_false htr
          go_wp2_with fail
          go_quiet (fail)
          go_wp2_with (first | (at_builtin; refine wpList_append_lies _ rfl _ _ _ rfl w1.heap.size 3 i0 _ 1 8 Try.underlying92 hi0 hy0 hy1 hy2 rfl (by decide) _ (L + 1) ((init ++ [s, t]).map vI) (by rfl) (World.ownsRow.alloc (w := (wr.alloc (.cells #[.int .i64 r.x0, .int .i64 r.y0, .int .i64 r.x1, .int .i64 r.y1] 31)).drewN nq) (hown2.alloc (.cells #[.int .i64 r.x0, .int .i64 r.y0, .int .i64 r.x1, .int .i64 r.y1] 31)) _) ⟨wr.heap.size + 1, 0, none⟩ 2 2 [.int .i64 r.x0, .int .i64 r.x1] (by rfl) (by rfl) (World.news_of_block (cs := #[.int .i64 r.x0, .int .i64 r.x1]) (t := 3) (fr := (0, 0)) (by simpa using heap_alloc_new ((wr.alloc (.cells #[.int .i64 r.x0, .int .i64 r.y0, .int .i64 r.x1, .int .i64 r.y1] 31)).drewN nq) (.cells #[.int .i64 r.x0, .int .i64 r.x1] 3))) (by simp [Value.oneCell']) (by decide) hA1 hA2 (by simpa using hA3) (wr.heap.size + 2) (by simp) ?_; intro gg cap1 w2 hown3 hgrow hat hlt1))
          go_roundw
          case rel =>
            refine ⟨k + 1, (init ++ [s, t]) ++ [r.x0, r.x1], by omega, by go_num, by rw [show (init ++ [s, t] ++ [r.x0, r.x1]).length = L + 1 + 2 from by have := HL.out; simp; omega]; simpa [vI] using hown3, ?_, ?_⟩
            · exact ((below_drewN (hbl.alloc hbl.size _) nq).alloc (by have := hbl.size; simp; omega) _).grown hgrow (by have := hbl.size; simp; omega) (fun q hq => (hown2.lt q hq).1)
            · show StrInv _ _
              rw [HTK.out]; exact HI.out.put r HRX.out (asc_last HI.out.asc (by omega))
          case measure => simp [intOf]; omega
    · have hd : ¬ (k : Int) < (ds.length : Int) := by omega
      have hke : k = ds.length := by omega
      have HF : Hid (StrInv ds' o) := by
        have := HI.out
        rwa [List.take_of_length_le (by omega)] at this
      have HH : Hid (wr.ownsRow base 31 4 (.slice av ds.length cv) ds'.length (csR ds')) := by
        have := HOWN.out.kept (grownBy_of_below none hbl) (by cases hv : (Value.slice av ds.length cv).ownBlock <;> simp)
        rwa [hl]
      have HGG := Lib.hid (grownBy_below HG.out hbl)
      clear HI HOWN HG hke
      go_wp2
      go_ret
      refine ⟨_, o, ds', rfl, HP.out, HH.out, hown2.rebase HG0.out, HGG.out, ⟨HF.out.asc, HF.out.even⟩, fun x => ?_, fun t ht => ?_, ?_⟩
      · rw [HF.out.spec]; constructor
        · rintro ⟨r, hr, h⟩; exact ⟨r, HP.out.mem_iff.1 hr, h⟩
        · rintro ⟨r, hr, h⟩; exact ⟨r, HP.out.mem_iff.2 hr, h⟩
      · obtain ⟨r, hr, h⟩ := HF.out.sub t ht
        exact ⟨r, HP.out.mem_iff.1 hr, h⟩
      · have := HF.out.len; omega

end Go.Proofs.Yteokdmcdhalcfaa
