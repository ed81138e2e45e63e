/- The walk of SetOf: what rectangles cover together. -/
import Derived.Test.YteokdmcdhalcfaaWalkH
import Derived.Test.YteokdmcdhalcfaaPlainG
namespace Go.Proofs.Yteokdmcdhalcfaa
open Go.RowKit Go.Lib Go.Shelf Go.Sort Etch
attribute [local go_sem ↓] Go.wp_at_zero Go.wp_at_succ

set_option maxHeartbeats 1000000 in
set_option maxRecDepth 100000 in
theorem pred_any (x0 y0 x1 y1 : Int) (pb kb : Nat) (yv : Value) (ys : List Int) (k : Nat) (hk : k < ys.length) (W : World) (h1 : W.cell? ⟨pb, 0, none⟩ = some yv) (h2 : W.cell? ⟨kb, 0, none⟩ = some (.int .i64 k)) (h3 : IntsAt W yv ys) :
    Calls Try.prog 72 #[.agg #[.int .i64 x0, .int .i64 y0, .int .i64 x1, .int .i64 y1], .pointer (some ⟨pb, 0, none⟩), .pointer (some ⟨kb, 0, none⟩)] W fun e w' => e = .returned (.bool (decide (y1 ≤ ys[k]))) ∧ Below W.heap.size W w' := by
  have hub := Try.underlying31
  obtain ⟨a, cap, rfl, hcap, hn, hc⟩ := h3.open
  obtain ⟨b, o, rfl, hb, hcell⟩ := hc (by omega)
  have hyk := hcell k hk
  have l1 := World.block_lt_of_cell? W _ h1
  have l2 := World.block_lt_of_cell? W _ h2
  have n1 := (Below.cell (p := ⟨pb, 0, none⟩) ((Below.refl W.heap.size W).alloc (Nat.le_refl _) (.cells #[.int .i64 x0, .int .i64 y0, .int .i64 x1, .int .i64 y1] 31)) l1).trans h1
  have n2 := (Below.cell (p := ⟨kb, 0, none⟩) ((Below.refl W.heap.size W).alloc (Nat.le_refl _) (.cells #[.int .i64 x0, .int .i64 y0, .int .i64 x1, .int .i64 y1] 31)) l2).trans h2
  have n3 := (Below.cell (p := ⟨b, o + k, none⟩) ((Below.refl W.heap.size W).alloc (Nat.le_refl _) (.cells #[.int .i64 x0, .int .i64 y0, .int .i64 x1, .int .i64 y1] 31)) hb).trans hyk
  have hk0 : (0 : Int) ≤ (k : Int) := by omega
  have hk1 : (k : Int) < (ys.length : Int) := by omega
  clear hc hcell h3 h1 h2 hyk
  generalize ys[k] = yk at n3 ⊢
  go_enter Try.func72, Try.ntmps72
  go_wp2_with fail
  go_quiet (fail)
  go_wp2
  go_ret
  exact ⟨rfl, below_drewN ((Below.refl _ _).alloc (Nat.le_refl _) _) _⟩

theorem grownBy_setCell (w : World) (g o : Nat) (u : Value) : w.grownBy (w.setCell ⟨g, o, none⟩ u) (some g) :=
  ⟨rfl, rfl, rfl, by simp [World.setCell], fun k hk hne => Below.heap_setCell _ _ _ _ (fun e => hne (by rw [e]))⟩

theorem box_set {w : World} {g : Nat} {v : Value} {t : TypeId} (h : w.heap[g]? = some (.cells #[v] t (0, 0))) (u : Value) : (w.setCell ⟨g, 0, none⟩ u).heap[g]? = some (.cells #[u] t (0, 0)) := by
  simp [World.setCell, Array.getElem?_modify, h]

theorem box_cell {w : World} {g : Nat} {v : Value} {t : TypeId} (h : w.heap[g]? = some (.cells #[v] t (0, 0))) : w.cell? ⟨g, 0, none⟩ = some v := by unfold World.cell?; rw [h]; rfl
theorem box_free {w : World} {g : Nat} {v : Value} {t : TypeId} (h : w.heap[g]? = some (.cells #[v] t (0, 0))) : w.frozen? ⟨g, 0, none⟩ = false := by unfold World.frozen?; rw [h]; simp
theorem box_grown {w w' : World} {g : Nat} {v : Value} {t : TypeId} {row : Option Nat} (h : w.heap[g]? = some (.cells #[v] t (0, 0))) (hg : w.grownBy w' row) (hne : row ≠ some g) : w'.heap[g]? = some (.cells #[v] t (0, 0)) :=
  (hg.block g (Array.getElem?_eq_some_iff.1 h).1 (fun e => hne e.symm)).trans h

theorem own_shape {w : World} {base : Nat} {e : TypeId} {size : Nat} {v : Value} {n : Nat} {xs : List Value} (h : w.ownsRow base e size v n xs) : ∃ a c, v = .slice a n c := by
  rcases h.2 with ⟨rfl, rfl⟩ | ⟨g, cap, cur, rfl, _⟩
  · exact ⟨none, 0, rfl⟩
  · exact ⟨_, cap, rfl⟩

theorem own_ne_own {w : World} {b1 b2 : Nat} {e1 e2 : TypeId} {s1 s2 : Nat} {v1 v2 : Value} {n1 n2 : Nat} {x1 x2 : List Value} (h1 : w.ownsRow b1 e1 s1 v1 n1 x1) (h2 : w.ownsRow b2 e2 s2 v2 n2 x2) (hne : e1 ≠ e2) : v1.ownBlock = none ∨ v1.ownBlock ≠ v2.ownBlock := by
  rcases h2.2 with ⟨rfl, _⟩ | ⟨g, cap, cur, rfl, _, hg, _⟩
  · cases h : v1.ownBlock with
    | none => exact Or.inl rfl
    | some q => exact Or.inr (by simp [Value.ownBlock])
  · exact Or.inr (own_ne_type h1 hg (fun e => hne e.symm))

/-- A rectangle of which something can be built. -/
def Good (r : R) : Prop := InB r ∧ r.x0 < r.x1 ∧ r.y0 < r.y1

/-- What holds at the head of SetOf's main loop, but for the plain law. -/
structure St (w : World) (lv : Value) (l : List R) (By : Nat) (yv : Value) (ys : List Int) (kb k : Nat) (v6 : Value) (out : List Band) (v7 : Value) (now : List R) (wr : World) : Prop where
  bx : wr.heap[By]? = some (.cells #[yv] 92 (0, 0))
  kx : wr.heap[kb]? = some (.cells #[.int .i64 k] 3 (0, 0))
  yo : wr.ownsRow w.heap.size 3 1 yv ys.length (ys.map vI)
  lo : wr.ownsRow w.heap.size 31 4 lv l.length (csR l)
  no : wr.ownsRow w.heap.size 31 4 v7 now.length (csR now)
  ol : v7.ownBlock = none ∨ v7.ownBlock ≠ lv.ownBlock
  ob : OwnBands wr w.heap.size v6 out
  bl : Below w.heap.size w wr
  bb : w.heap.size ≤ kb

theorem ne_swap {a b : Option Nat} (h : a = none ∨ a ≠ b) : b = none ∨ b ≠ a := by
  rcases h with rfl | h
  · cases b
    · exact Or.inl rfl
    · exact Or.inr (by simp)
  · exact Or.inr (Ne.symm h)

theorem kept_below {w w' : World} {base : Nat} {e : TypeId} {size : Nat} {v : Value} {n : Nat} {xs : List Value} (h : w.ownsRow base e size v n xs) (hb : Below w.heap.size w w') : w'.ownsRow base e size v n xs :=
  h.kept (grownBy_of_below none hb) (by cases hv : v.ownBlock <;> simp)

section
variable {w : World} {lv : Value} {l : List R} {By : Nat} {yv : Value} {ys : List Int} {kb k : Nat} {v6 : Value} {out : List Band} {v7 : Value} {now : List R} {wr w' : World}

theorem St.below (h : St w lv l By yv ys kb k v6 out v7 now wr) (hb : Below wr.heap.size wr w') : St w lv l By yv ys kb k v6 out v7 now w' where
  bx := box_grown h.bx (grownBy_of_below none hb) (by simp)
  kx := box_grown h.kx (grownBy_of_below none hb) (by simp)
  yo := kept_below h.yo hb
  lo := kept_below h.lo hb
  no := kept_below h.no hb
  ol := h.ol
  ob := h.ob.below hb
  bl := h.bl.trans (hb.mono h.bl.size)
  bb := h.bb

theorem St.next (h : St w lv l By yv ys kb k v6 out v7 now wr) (hb : Below wr.heap.size wr w') {kb' k' : Nat} (hk : w'.heap[kb']? = some (.cells #[.int .i64 k'] 3 (0, 0))) (hkb : wr.heap.size ≤ kb') : St w lv l By yv ys kb' k' v6 out v7 now w' :=
  { h.below hb with kx := hk, bb := Nat.le_trans h.bl.size hkb }

theorem own_other {w : World} {base : Nat} {v6 v7 : Value} {out : List Band} {b : Nat} {n : Nat} {xs : List Value} (h : OwnBands w base v6 out) (h7 : w.ownsRow b 31 4 v7 n xs) : v6.ownBlock = none ∨ v6.ownBlock ≠ v7.ownBlock := by
  obtain ⟨us, _, ho, _⟩ := h
  exact own_ne_own ho h7 (by decide)

theorem St.nowd (h : St w lv l By yv ys kb k v6 out v7 now wr) {v7' : Value} {now' : List R} (hg : wr.grownBy w' v7.ownBlock) (hn : w'.ownsRow w.heap.size 31 4 v7' now'.length (csR now')) (hv : v7'.ownBlock = v7.ownBlock ∨ ∃ g, v7'.ownBlock = some g ∧ wr.heap.size ≤ g) :
    St w lv l By yv ys kb k v6 out v7' now' w' where
  bx := box_grown h.bx hg (own_ne_type h.no h.bx (by decide))
  kx := box_grown h.kx hg (own_ne_type h.no h.kx (by decide))
  yo := h.yo.kept hg (own_ne_own h.yo h.no (by decide))
  lo := h.lo.kept hg (ne_swap h.ol)
  no := hn
  ol := by
    rcases hv with e | ⟨g, e, hg'⟩
    · rw [e]; exact h.ol
    · right
      rw [e]
      intro e2
      have := (h.lo.lt _ e2.symm).2
      omega
  ob := h.ob.grown hg (own_other h.ob h.no) (other_own h.no (by decide))
  bl := h.bl.grown hg h.bl.size (fun q hq => (h.no.lt q hq).1)
  bb := h.bb

theorem St.push (h : St w lv l By yv ys kb k v6 out v7 now wr) {v6' : Value} {out' : List Band} (hg : wr.grownBy w' v6.ownBlock) (hn : OwnBands w' w.heap.size v6' out') :
    St w lv l By yv ys kb k v6' out' v7 now w' := by
  obtain ⟨us, hl, ho, hx⟩ := h.ob
  exact {
    bx := box_grown h.bx hg (own_ne_type ho h.bx (by decide))
    kx := box_grown h.kx hg (own_ne_type ho h.kx (by decide))
    yo := h.yo.kept hg (own_ne_own h.yo ho (by decide))
    lo := h.lo.kept hg (own_ne_own h.lo ho (by decide))
    no := h.no.kept hg (own_ne_own h.no ho (by decide))
    ol := h.ol
    ob := hn
    bl := h.bl.grown hg h.bl.size (fun q hq => (ho.lt q hq).1)
    bb := h.bb }

end

theorem _root_.Etch.TakeInv.perm {l : List R} {yk : Int} {next : Nat} {now now' : List R} (h : TakeInv l yk next now) (hp : now'.Perm now) : TakeInv l yk next now' where
  le := h.le
  nlen := by rw [hp.length_eq]; exact h.nlen
  taken := h.taken
  left := h.left
  now := fun r => by rw [hp.mem_iff]; exact h.now r

theorem tests_set {w : World} {lv : Value} {l : List R} {By : Nat} {yv : Value} {ys : List Int} {kb k : Nat} {v6 : Value} {out : List Band} {v7 : Value} {now : List R} {wr : World} (h : St w lv l By yv ys kb k v6 out v7 now wr) (hk : k < ys.length) (hl : ys.length ≤ 17592186044416) :
    Tests wr v7.ownBlock 72 #[.pointer (some ⟨By, 0, none⟩), .pointer (some ⟨kb, 0, none⟩)] (fun r => decide (r.y1 ≤ ys[k])) := by
  refine ⟨enters_of Try.func72 (by kernel_rfl) rfl, fun W r hg => ?_⟩
  exact pred_any r.x0 r.y0 r.x1 r.y1 By kb yv ys k hk W (box_cell (box_grown h.bx hg (own_ne_type h.no h.bx (by decide)))) (box_cell (box_grown h.kx hg (own_ne_type h.no h.kx (by decide))))
    (Cells.own (h.yo.kept hg (own_ne_own h.yo h.no (by decide))) hl)

set_option maxHeartbeats 4000000 in
set_option maxRecDepth 100000 in
theorem setOf_any (v : Value) (rs : List R) (w : World) (h : RectsAt w v rs) (hgood : ∀ r ∈ rs, Good r) (hn : rs.length * 32 ≤ 140737488355328) :
    Calls Try.prog 42 #[v] w (GaveSet w (SetGives rs)) := by
  obtain ⟨i0, hi0, hy0, hy1, hy2⟩ := info_parts infoI
  obtain ⟨i1, hi1, hw0, hw1, hw2⟩ := info_parts infoR
  have hub := Try.underlying31
  have HC := Lib.hid (clone_any v rs w h hn)
  have HGD := Lib.hid hgood
  obtain ⟨av, cv, rfl, -⟩ := h
  clear hgood
  go_enter Try.func42, Try.ntmps42
  go_wp2_with fail
  refine HC.out.mono ?_
  rintro e w1 ⟨v1, rfl, ho1, hb1⟩
  have hn' : rs.length ≤ 4398046511104 := by omega
  have HS := Lib.hid (sort_any 68 (fun r => r.y0) cmpY w.heap.size v1 rs w1 ho1 (fun r hr => (HGD.out r hr).1) (by omega))
  have HV1 : Hid (∀ k, v1.ownBlock = some k → w.heap.size ≤ k) := fun k hk => (ho1.lt k hk).1
  have HB1 := Lib.hid hb1
  clear ho1 hb1
  go_wp2_with fail
  refine HS.out.mono ?_
  rintro e w2 ⟨l, rfl, hperm, hsort, ho2, hg2⟩
  have hll : l.length = rs.length := hperm.length_eq
  have HP := Lib.hid hperm
  have HSO := Lib.hid hsort
  have HB2 : Hid (Below w.heap.size w w2) := HB1.out.grown hg2 HB1.out.size HV1.out
  obtain ⟨a1, c1, rfl⟩ : ∃ a1 c1, v1 = .slice a1 l.length c1 := by
    rcases ho2.2 with ⟨rfl, h0⟩ | ⟨b, cap, cur, rfl, _⟩
    · exact ⟨none, 0, by rw [hll, h0]⟩
    · exact ⟨_, cap, by rw [hll]⟩
  have HO2 : Hid (w2.ownsRow w.heap.size 31 4 (.slice a1 l.length c1) l.length (csR l)) := by rw [hll] at ho2 ⊢; exact ho2
  have hll2 : l.length ≤ 4398046511104 := by omega
  have HLL := Lib.hid hll
  have HL2 := Lib.hid hll2
  clear hperm hsort hg2 ho2 HV1 HS HC HB1 hll hn hn'
  have HBY : Hid (w.heap.size ≤ w2.heap.size) := HB2.out.size
  have HBW : Hid (Below w.heap.size w (w2.alloc (.cells #[.slice none 0 0] 92))) := HB2.out.alloc HB2.out.size _
  have HOW : Hid ((w2.alloc (.cells #[.slice none 0 0] 92)).ownsRow w.heap.size 31 4 (.slice a1 l.length c1) l.length (csR l)) := HO2.out.alloc _
  have HBX : Hid ((w2.alloc (.cells #[.slice none 0 0] 92)).heap[w2.heap.size]? = some (.cells #[.slice none 0 0] 92 (0, 0))) := heap_alloc_new w2 _
  obtain ⟨By, hBy⟩ : ∃ By, By = w2.heap.size := ⟨_, rfl⟩
  rw [← hBy] at HBX HBY
  clear HO2 HB2
  go_wp2
  rw [← hBy]
  generalize w2.alloc (.cells #[.slice none 0 0] 92) = wa at HBW HOW HBX ⊢
  clear hBy
  go_loopw [16] (fun v16 wr => ∃ (k : Nat) (yv : Value), k ≤ l.length ∧ v16 = .int .i64 k ∧ wr.heap[By]? = some (.cells #[yv] 92 (0, 0)) ∧ wr.ownsRow w.heap.size 3 1 yv (yl (l.take k)).length ((yl (l.take k)).map vI) ∧
      wr.ownsRow w.heap.size 31 4 (.slice a1 l.length c1) l.length (csR l) ∧ Below w.heap.size w wr) (fun v16 _ => l.length - (intOf v16).toNat)
  case atStart => exact ⟨0, _, Nat.zero_le _, rfl, HBX.out, World.ownsRow_nil _ _ _ _, HOW.out, HBW.out⟩
  case round =>
    clear HBW HOW HBX
    obtain ⟨k, yv, hk, rfl, hbx, hown, howl, hbl⟩ := hrel
    by_cases hlt : k < l.length
    · have hR : RectsAt wr (.slice a1 l.length c1) l := Cells.own howl (by have := HL2.out; omega)
      obtain ⟨a1', c1', hv1, -, -, hcl⟩ := hR.open
      obtain ⟨rfl, rfl⟩ : a1 = a1' ∧ c1 = c1' := by simpa using hv1
      obtain ⟨b, off, rfl, hbs, hcell⟩ := hcl (by omega)
      obtain ⟨e0, e1, e2, e3⟩ := hcell k hlt
      have HTK : Hid (yl (l.take (k + 1)) = yl (l.take k) ++ [l[k].y0, l[k].y1]) := by
        show _ = _
        rw [List.take_succ_eq_append_getElem hlt, yl_append]; rfl
      have hyl : (yl (l.take k)).length = 2 * k := by rw [yl_length, List.length_take]; omega
      clear hR hv1 hcl hcell
      generalize l[k] = r at e0 e1 e2 e3 HTK
      rw [hyl] at hown
      have HYL := Lib.hid hyl
      clear hyl
      have hA1 : 2 * k + 2 ≤ maxLen := by have := HL2.out; unfold maxLen; omega
      have hA2 : (2 * k + 2) * 8 ≤ 140737488355328 := by have := HL2.out; omega
      have hA3 : w.heap.size ≤ wr.heap.size + 1 + 1 := by have := hbl.size; omega
      have hcy := box_cell hbx
      have hfy := box_free hbx
      have hlb := (Array.getElem?_eq_some_iff.1 hbx).1
      have hg0 : wr.grownBy ((wr.alloc (.cells #[.int .i64 r.x0, .int .i64 r.y0, .int .i64 r.x1, .int .i64 r.y1] 31)).alloc (.cells #[.int .i64 r.y0, .int .i64 r.y1] 3)) none := grownBy_trans (World.grownBy_alloc wr _ _) (World.grownBy_alloc _ _ _)
      have hbx0 := box_grown hbx hg0 (by simp)
      have hown0 := (hown.alloc (.cells #[.int .i64 r.x0, .int .i64 r.y0, .int .i64 r.x1, .int .i64 r.y1] 31)).alloc (.cells #[.int .i64 r.y0, .int .i64 r.y1] 3)
      have howl0 := (howl.alloc (.cells #[.int .i64 r.x0, .int .i64 r.y0, .int .i64 r.x1, .int .i64 r.y1] 31)).alloc (.cells #[.int .i64 r.y0, .int .i64 r.y1] 3)
      have hbl0 : Below w.heap.size w ((wr.alloc (.cells #[.int .i64 r.x0, .int .i64 r.y0, .int .i64 r.x1, .int .i64 r.y1] 31)).alloc (.cells #[.int .i64 r.y0, .int .i64 r.y1] 3)) := (hbl.alloc hbl.size _).alloc (by have := hbl.size; simp; omega) _
      have nby : yv.ownBlock ≠ some By := own_ne_type hown hbx (by decide)
      have nbl : yv.ownBlock ≠ some b := fun e => by
        rcases hown.2 with ⟨rfl, _⟩ | ⟨g, cap, cur, rfl, _, hg, _⟩
        · cases e
        · rcases howl.2 with ⟨h, _⟩ | ⟨g', cap', cur', h', _, hg', _⟩
          · cases h
          · simp [Value.ownBlock] at e h'
            rw [← e] at h'
            rw [h'.1.1] at hg
            rw [hg] at hg'
            simp at hg'
      have HX0 := Lib.hid hbx0
      have HO0 := Lib.hid hown0
      have HL0 := Lib.hid howl0
      have HB0 := Lib.hid hbl0
      have HNB := Lib.hid (And.intro nby nbl)
      clear hbx hown howl hbl hg0 hbx0 hown0 howl0 hbl0 nby nbl
      go_wp2_with (first | (at_builtin; refine wpList_append_lies _ rfl _ _ _ rfl w.heap.size 3 i0 _ 1 8 Try.underlying92 hi0 hy0 hy1 hy2 rfl (by decide) _ (2 * k) ((yl (l.take k)).map vI) (by rfl) HO0.out ⟨wr.heap.size + 1, 0, none⟩ 2 2 [.int .i64 r.y0, .int .i64 r.y1] (by rfl) (by rfl) (World.news_of_block (cs := #[.int .i64 r.y0, .int .i64 r.y1]) (t := 3) (fr := (0, 0)) (by simpa using heap_alloc_new (wr.alloc (.cells #[.int .i64 r.x0, .int .i64 r.y0, .int .i64 r.x1, .int .i64 r.y1] 31)) (.cells #[.int .i64 r.y0, .int .i64 r.y1] 3))) (by simp [Value.oneCell']) (by decide) hA1 hA2 (by simpa using hA3) (wr.heap.size + 2) (by simp) ?_; intro gg cap1 w3 hown3 hgrow hat hlt1; have hbx3 := box_grown HX0.out hgrow HNB.out.1; have hc3 := box_cell hbx3; have hf3 := box_free hbx3; have hl3 := (Array.getElem?_eq_some_iff.1 hbx3).1))
      go_wp2
      go_roundw
      case rel =>
        have hw : ∀ u, (w3.grownBy (w3.setCell ⟨By, 0, none⟩ u) (some By)) := fun u => grownBy_setCell w3 By 0 u
        refine ⟨k + 1, .slice (some ⟨gg, 0, none⟩) (2 * k + 2) cap1, by omega, by go_num, box_set hbx3 _, ?_, ?_, ?_⟩
        · refine World.ownsRow.kept ?_ (hw _) (Or.inr (own_ne_type hown3 hbx3 (by decide)))
          have e : (yl (l.take (k + 1))).length = 2 * k + 2 := by rw [HTK.out, List.length_append, HYL.out]; rfl
          rw [e, HTK.out, List.map_append]
          exact hown3
        · refine World.ownsRow.kept (HL0.out.kept hgrow (Or.inr (fun e => HNB.out.2 e.symm))) (hw _) (Or.inr ?_)
          exact own_ne_type (HL0.out.kept hgrow (Or.inr (fun e => HNB.out.2 e.symm))) hbx3 (by decide)
        · exact (HB0.out.grown hgrow HB0.out.size (fun q hq => (HO0.out.lt q hq).1)).setCell HBY.out _
      case measure => simp [intOf]; omega
    · have hd : ¬ (k : Int) < (l.length : Int) := by omega
      have hke : k = l.length := by omega
      subst hke
      rw [List.take_length] at hown
      have hcy := box_cell hbx
      have hyl : (yl l).length ≤ 8796093022208 := by rw [yl_length]; omega
      have nby : yv.ownBlock ≠ some By := own_ne_type hown hbx (by decide)
      have nbl : (Value.slice a1 l.length c1).ownBlock = none ∨ (Value.slice a1 l.length c1).ownBlock ≠ yv.ownBlock := own_ne_own howl hown (by decide)
      have hlo : ∀ q, yv.ownBlock = some q → w.heap.size ≤ q := fun q hq => (hown.lt q hq).1
      have HSRT := Lib.hid (sortI_any w.heap.size yv (yl l) wr hown (by omega))
      have HBX := Lib.hid hbx
      have HOL := Lib.hid howl
      have HBL := Lib.hid hbl
      clear hbx howl hbl hown
      go_wp2_with fail
      refine HSRT.out.mono ?_
      rintro e w4 ⟨ys0, rfl, hperm4, hsort4, hown4, hg4⟩
      have hbx4 := box_grown HBX.out hg4 nby
      have hcy4 := box_cell hbx4
      have hyl4 : ys0.length ≤ 17592186044416 := by rw [hperm4.length_eq]; omega
      have HP4 := Lib.hid hperm4
      have HCMP := Lib.hid (compactI_any w.heap.size yv ys0 w4 hown4 hsort4 hyl4)
      have HBX4 := Lib.hid hbx4
      have HOL4 := Lib.hid (HOL.out.kept hg4 nbl)
      have HBL4 := Lib.hid (HBL.out.grown hg4 HBL.out.size hlo)
      clear HSRT HBX HOL HBL hcy hperm4 hsort4 hown4 hg4 hbx4
      go_wp2_with fail
      refine HCMP.out.mono ?_
      rintro e w5 ⟨yv', ys, rfl, hasc, hmem, hylen, hown5, hg5⟩
      obtain ⟨ay, cy, rfl⟩ := own_shape hown5
      have hbx5 := box_grown HBX4.out hg5 nby
      have hcy5 := box_cell hbx5
      have hfy5 := box_free hbx5
      have hlb5 := (Array.getElem?_eq_some_iff.1 hbx5).1
      have HSW : Hid (Swept l ys) := ⟨hasc, fun y => by rw [hmem, HP4.out.mem_iff, mem_yl], HSO.out, fun r hr => (HGD.out r (HP.out.mem_iff.1 hr)).2.2, fun r hr => (HGD.out r (HP.out.mem_iff.1 hr)).2.1⟩
      have HW6 := Lib.hid (grownBy_setCell w5 By 0 (.slice ay ys.length cy))
      have HBX6 : Hid ((w5.setCell ⟨By, 0, none⟩ (.slice ay ys.length cy)).heap[By]? = some (.cells #[(.slice ay ys.length cy)] 92 (0, 0))) := box_set hbx5 (.slice ay ys.length cy)
      have HY6 : Hid ((w5.setCell ⟨By, 0, none⟩ (.slice ay ys.length cy)).ownsRow w.heap.size 3 1 (.slice ay ys.length cy) ys.length (ys.map vI)) := hown5.kept HW6.out (Or.inr (own_ne_type hown5 hbx5 (by decide)))
      have HOL5 := HOL4.out.kept hg5 nbl
      have HOL6 : Hid ((w5.setCell ⟨By, 0, none⟩ (.slice ay ys.length cy)).ownsRow w.heap.size 31 4 (.slice a1 l.length c1) l.length (csR l)) := HOL5.kept HW6.out (Or.inr (own_ne_type HOL5 hbx5 (by decide)))
      have HBL6 : Hid (Below w.heap.size w (w5.setCell ⟨By, 0, none⟩ (.slice ay ys.length cy))) := (HBL4.out.grown hg5 HBL4.out.size hlo).setCell HBY.out _
      have hyl6 : ys.length ≤ 17592186044416 := by omega
      clear HCMP HBX4 HOL4 HBL4 hcy4 hasc hmem hown5 hg5 hbx5 HOL5 HP4 hlo nby nbl hyl hyl4 hylen
      go_wp2_with fail
      go_loopg [6, 7, 8, 9] ys.length (fun gk v6 v7 v8 v9 wr => ∃ (k next kb : Nat) (now : List R) (out : List Band), v8 = .int .i64 next ∧ v9 = .pointer (some ⟨kb, 0, none⟩) ∧ (k = 0 ∨ k < ys.length) ∧ gk = ys.length - k ∧
        St w (.slice a1 l.length c1) l By (.slice ay ys.length cy) ys kb k v6 out v7 now wr ∧ Hid (SetInv l ys k next now out))
      case atStart =>
        refine ⟨0, 0, _, [], [], rfl, rfl, Or.inl rfl, rfl, ⟨?_, ?_, HY6.out.alloc _, HOL6.out.alloc _, World.ownsRow_nil _ _ _ _, Or.inl rfl, OwnBands.nil _ _, HBL6.out.alloc HBL6.out.size _, ?_⟩, SetInv.start HSW.out⟩
        · exact (Below.heap_alloc _ _ _ (Array.getElem?_eq_some_iff.1 HBX6.out).1).trans HBX6.out
        · simpa using heap_alloc_new (w5.setCell ⟨By, 0, none⟩ (.slice ay ys.length cy)) (.cells #[.int .i64 0] 3)
        · have := HBL6.out.size; simpa using this
      case round =>
        clear hcy5 hfy5 hlb5 HW6 HBX6 HY6 HOL6 HBL6
        obtain ⟨k, next, kb, now, out, rfl, rfl, hk2, rfl, hst, HI⟩ := hrel
        have hcB := box_cell hst.bx
        have hcK := box_cell hst.kx
        by_cases hlt : k + 1 < ys.length
        · have hlti : (k : Int) + 1 < (ys.length : Int) := by omega
          have hk0 : k < ys.length := by omega
          have HDEL := Lib.hid (deleteFunc_any _ _ _ w.heap.size u7 now wr hst.no (tests_set hst hk0 hyl6) (by have := HI.out.nlen; have := HI.out.le; have := HL2.out; omega))
          have HST := Lib.hid hst
          clear hst
          go_wp2_with fail
          refine HDEL.out.mono ?_
          rintro e w7 ⟨v7, rfl, hown7, hg7, hv7⟩
          have HS7 := Lib.hid (HST.out.nowd hg7 hown7 (Or.inl hv7))
          have HT7 := Lib.hid (HI.out.strike hk0)
          clear HST HDEL hown7 hg7 hv7
          generalize (now.filter fun r => !decide (r.y1 ≤ ys[k])) = now7 at HS7 HT7
          go_upto_block 4 with fail
          obtain ⟨gy, cy', hvy, -, -⟩ := HS7.out.yo.form (by omega)
          obtain ⟨rfl, rfl⟩ : ay = some ⟨gy, 0, none⟩ ∧ cy = cy' := by simpa using hvy
          clear hvy
          have HFY : Hid (∀ {kb' k' : Nat} {v6 : Value} {out : List Band} {v7 : Value} {now : List R} {W : World}, St w (.slice a1 l.length c1) l By (.slice (some ⟨gy, 0, none⟩) ys.length cy) ys kb' k' v6 out v7 now W → ∀ i (h : i < ys.length), W.cell? ⟨gy, i, none⟩ = some (.int .i64 ys[i])) := by
            intro kb' k' v6 out v7 now W h i hi
            rw [h.yo.cellAt _ (by omega)]; simp [vI, hi]
          clear hcB hcK
          go_cut [7, 8] from 32 to 81 (fun v7 v8 wx => ∃ (next : Nat) (now : List R), v8 = .int .i64 next ∧ St w (.slice a1 l.length c1) l By (.slice (some ⟨gy, 0, none⟩) ys.length cy) ys kb k u6 out v7 now wx ∧ TakeInv l ys[k] next now ∧ ∀ hn : next < l.length, ys[k] < l[next].y0)
          case first =>
            go_wp2_with fail
            go_loopw [7, 8] (fun v7 v8 wx => ∃ (next : Nat) (now : List R), v8 = .int .i64 next ∧ St w (.slice a1 l.length c1) l By (.slice (some ⟨gy, 0, none⟩) ys.length cy) ys kb k u6 out v7 now wx ∧ Hid (TakeInv l ys[k] next now)) (fun _ v8 _ => l.length - (intOf v8).toNat)
            case atStart => exact ⟨next, now7, rfl, HS7.out, HT7.out⟩
            case round =>
              obtain ⟨nx, nw, rfl, hst, HT⟩ := hrel
              have HST := Lib.hid hst
              by_cases hnx : nx < l.length
              · have hR : RectsAt wr (.slice a1 l.length c1) l := Cells.own hst.lo (by have := HL2.out; omega)
                obtain ⟨a1', c1', hv1, -, -, hcl⟩ := hR.open
                obtain ⟨rfl, rfl⟩ : a1 = a1' ∧ c1 = c1' := by simpa using hv1
                obtain ⟨b, off, rfl, hbs, hcell⟩ := hcl (by omega)
                obtain ⟨e0, e1, e2, e3⟩ := hcell nx hnx
                have hcB := box_cell hst.bx
                have hcK := box_cell hst.kx
                have hcY := HFY.out hst k hk0
                have hz0 : (0 : Int) ≤ (nx : Int) := by omega
                have hz1 : (nx : Int) < (l.length : Int) := by omega
                have hz2 : (0 : Int) ≤ (k : Int) := by omega
                have hz3 : (k : Int) < (ys.length : Int) := by omega
                have hTT : Hid (l[nx].y0 ≤ ys[k] → TakeInv l ys[k] (nx + 1) (nw ++ [l[nx]])) := fun h => HT.out.step hnx h (HSW.out.tall _ (List.getElem_mem hnx))
                have hTE : Hid (¬ l[nx].y0 ≤ ys[k] → ∀ hn : nx < l.length, ys[k] < l[nx].y0) := fun h _ => by omega
                have HNO := Lib.hid hst.no
                have hl3 : nw.length ≤ nx := HT.out.nlen
                have hA1 : nw.length + 1 ≤ maxLen := by have := HL2.out; unfold maxLen; omega
                have hA2 : (nw.length + 1) * 32 ≤ 140737488355328 := by have := HL2.out; omega
                have hA3 : w.heap.size ≤ wr.heap.size + 1 := by have := hst.bl.size; omega
                obtain ⟨a7, c7, rfl⟩ := own_shape hst.no
                clear hcell hcl hv1 hR hst
                generalize hrr : l[nx] = r at e0 e1 e2 e3 hTT hTE
                generalize hyy : ys[k] = yk at hcY hTT hTE HT ⊢
                have hrr := Lib.hid hrr
                have hyy := Lib.hid hyy
                by_cases hle : r.y0 ≤ yk
                · have hd1 : decide (r.y0 ≤ yk) = true := decide_eq_true hle
                  go_wp2_with fail
                  go_quiet (fail)
                  go_wp2_with (first | (at_builtin; refine wpList_append_lies _ rfl _ _ _ rfl w.heap.size 31 i1 _ 4 32 Try.underlying22 hi1 hw0 hw1 hw2 rfl (by decide) _ nw.length (csR nw) (by rfl) (World.ownsRow.alloc (w := wr.drewN nq) HNO.out _) ⟨wr.heap.size, 0, none⟩ 1 1 [.int .i64 r.x0, .int .i64 r.y0, .int .i64 r.x1, .int .i64 r.y1] (by rfl) (by rfl) (World.news_of_block (cs := #[.int .i64 r.x0, .int .i64 r.y0, .int .i64 r.x1, .int .i64 r.y1]) (t := 31) (fr := (0, 0)) (by simpa using heap_alloc_new (wr.drewN nq) (.cells #[.int .i64 r.x0, .int .i64 r.y0, .int .i64 r.x1, .int .i64 r.y1] 31))) (by simp [Value.oneCell']) (by decide) hA1 hA2 (by simpa using hA3) (wr.heap.size + 1) (by simp) ?_; intro gg cap1 w3 hown3 hgrow hat hlt1))
                  go_roundw
                  case rel =>
                    have hv : (Value.slice (some ⟨gg, 0, none⟩) (nw.length + 1) cap1).ownBlock = (Value.slice a7 nw.length c7).ownBlock ∨ ∃ g, (Value.slice (some ⟨gg, 0, none⟩) (nw.length + 1) cap1).ownBlock = some g ∧ (wr.drewN nq).heap.size ≤ g := by
                      rcases hat with h | h
                      · exact Or.inl h.symm
                      · exact Or.inr ⟨gg, rfl, by rw [h]; exact Nat.le_succ _⟩
                    have hst2 := HST.out.below (below_drewN (Below.refl _ _) nq)
                    have hg2 : (wr.drewN nq).grownBy w3 (Value.slice a7 nw.length c7).ownBlock := (grown_of_below ((Below.refl _ _).alloc (Nat.le_refl _) _)).trans' hgrow
                    refine ⟨nx + 1, nw ++ [r], by go_num, hst2.nowd hg2 (by rw [csR_append, List.length_append]; exact hown3) hv, ?_⟩
                    exact hTT.out hle
                  case measure => simp [intOf]; omega
                · have hd1 : decide (r.y0 ≤ yk) = false := decide_eq_false hle
                  go_wp2_with fail
                  go_quiet (fail)
                  go_wp2_with fail
                  go_meet
                  exact ⟨nx, nw, rfl, HST.out.below (below_drewN (Below.refl _ _) nq), by first | exact HT.out | (rw [hyy.out]; exact HT.out), by have := hTE.out hle; first | exact this | (rw [hyy.out]; exact this)⟩
              · have hnx0 : ¬ (nx : Int) < (l.length : Int) := by omega
                clear hst
                go_wp2_with fail
                go_quiet (fail)
                go_wp2_with fail
                go_meet
                exact ⟨nx, nw, rfl, HST.out.below (below_drewN (Below.refl _ _) nq), HT.out, fun h => absurd h hnx⟩
          case rest =>
            obtain ⟨nx, nw, rfl, hst, hti, hend⟩ := hcut
            have hsub : ∀ r, r ∈ nw → r ∈ l := fun r hr => List.mem_of_mem_take ((hti.now r).1 hr).1
            have hwl : nw.length ≤ 4398046511104 := by have := hti.nlen; have := hti.le; omega
            have hstd := hst.below ((Below.refl wc.heap.size wc).drew)
            have HSTR := Lib.hid (stretches_any w.heap.size _ nw wc.drew hstd.no (fun r hr => (HGD.out r (HP.out.mem_iff.1 (hsub r hr))).1) (fun r hr => HSW.out.wide r (hsub r hr)) hwl)
            have hysB : (ys.length : Int) ≤ 1099511627776 - -1099511627776 + 1 := asc_length ys (-1099511627776) 1099511627776 HSW.out.asc (by omega) (fun y hy => by
              obtain ⟨r, hr, h⟩ := (HSW.out.mem y).1 hy
              have := (HGD.out r (HP.out.mem_iff.1 hr)).1
              unfold InB at this
              omega)
            have hol : out.length + 1 ≤ 3298534883328 := by have := HI.out.olen; omega
            have HTI := Lib.hid hti
            have HEND := Lib.hid hend
            have hc1 := box_cell hst.bx
            have hc2 := box_cell hst.kx
            have hc3 := HFY.out hst k hk0
            have hc4 := HFY.out hst (k + 1) hlt
            have HST := Lib.hid hstd
            clear hst hstd hti hend hsub HT7 HS7
            generalize hyy0 : ys[k] = yk at hc3 HTI HEND ⊢
            generalize hyy1 : ys[k + 1] = yk1 at hc4
            have hyy0 := Lib.hid hyy0
            have hyy1 := Lib.hid hyy1
            have hz0 : (0 : Int) ≤ (k : Int) := by omega
            have hz1 : (k : Int) < (ys.length : Int) := by omega
            have hz2 : (0 : Int) ≤ (k : Int) + 1 := by omega
            have hz3 : (k : Int) + 1 < (ys.length : Int) := by omega
            have hwr : IntKind.i64.wrap ((k : Int) + 1) = (k : Int) + 1 := IntWalk.i64_in _ (by omega)
            have hwn : ((k : Int) + 1).toNat = k + 1 := by omega
            clear hysB
            go_wp2_with fail
            go_region_held3 (fun w' => w'.cell? ⟨By, 0, none⟩ = some (.slice (some ⟨gy, 0, none⟩) ys.length cy) ∧ w'.cell? ⟨kb, 0, none⟩ = some (.int .i64 k) ∧ w'.cell? ⟨gy, k, none⟩ = some (.int .i64 yk) ∧ w'.cell? ⟨gy, k + 1, none⟩ = some (.int .i64 yk1))
              (first
                | (refine ⟨?_, ?_, ?_, ?_⟩ <;> assumption)
                | (go_split_ands; refine ⟨?_, ?_, ?_, ?_⟩ <;> assumption))
              (first
                | (go_at_call 74
                   refine HSTR.out.mono ?_
                   rintro e w8 ⟨u, xs, nw', rfl, hpm, hown8, hu8, hg8, hxo, hodd, -, hxl⟩
                   have hst8 := HST.out.nowd hg8 hown8 (Or.inl rfl)
                   have hp1 := box_cell hst8.bx
                   have hp2 := box_cell hst8.kx
                   have hp3 := HFY.out hst8 k hk0
                   have hp4 := HFY.out hst8 (k + 1) hlt
                   rw [hyy0.out] at hp3
                   rw [hyy1.out] at hp4
                   have hI8 : IntsAt w8 u xs := Cells.own hu8 (by omega)
                   obtain ⟨au, cu, rfl⟩ := own_shape hu8
                   have HPU := Lib.hid (push_any eqInts w.heap.size _ _ out yk yk1 xs w8 hst8.ob hol hI8 (fun hp => Typed.own hu8 hp) hst8.bl.size)
                   have HS8 := Lib.hid hst8
                   have HXO := Lib.hid (And.intro hxo hodd)
                   have HPM := Lib.hid hpm
                   clear hpm hown8 hu8 hg8 hxo hodd hxl hst8 hI8)
                | (go_at_call 73
                   refine HPU.out.mono ?_
                   rintro e w9 ⟨v9, rfl, hob9, hg9, -⟩
                   have hst9 := HS8.out.push hg9 hob9
                   have hr1 := box_cell hst9.bx
                   have hr2 := box_cell hst9.kx
                   have hr3 := HFY.out hst9 k hk0
                   have hr4 := HFY.out hst9 (k + 1) hlt
                   rw [hyy0.out] at hr3
                   rw [hyy1.out] at hr4
                   have HS9 := Lib.hid hst9
                   clear hob9 hg9 hst9))
            clear hwr hwn hc1 hc2 hc3 hc4
            have hfz : ∀ W : World, ∀ u : Value, W.heap.size < (W.alloc (.cells #[u] 3)).heap.size := fun W u => by simp
            go_wp2
            go_roundg (ys.length - (k + 1))
            case rel =>
              refine ⟨k + 1, nx, _, nw', _, rfl, rfl, Or.inr hlt, rfl, HS9.out.next (kb' := _) ?_ ?_ ?_, ?_⟩
              · exact (Below.refl _ _).alloc (Nat.le_refl _) _
              · exact heap_alloc_new w9 (.cells #[.int .i64 ((k : Int) + 1)] 3)
              · exact Nat.le_refl _
              · show SetInv _ _ _ _ _ _
                have hst := HI.out.step HSW.out hlt (by rw [hyy0.out]; exact HTI.out.perm HPM.out) (by rw [hyy0.out]; exact HEND.out) HXO.out.1 (fun x => by rw [HXO.out.2]; constructor <;> (rintro ⟨r, hr, h⟩; exact ⟨r, by first | exact HPM.out.mem_iff.1 hr | exact HPM.out.mem_iff.2 hr, h⟩))
                rw [hyy0.out, hyy1.out] at hst
                exact hst
            case measure => omega
        · have hlti : ¬ (k : Int) + 1 < (ys.length : Int) := by omega
          have HST := Lib.hid hst
          clear hst
          go_wp2
          go_ret
          refine ⟨_, out, rfl, HST.out.ob.at_ (by have := HI.out.olen; omega), HST.out.bl, ?_⟩
          have hd := HI.out.done HSW.out (by omega) hk2
          refine ⟨hd.1, fun x y => (hd.2 x y).trans ?_⟩
          unfold cov
          exact ⟨fun ⟨r, hr, h⟩ => ⟨r, HP.out.mem_iff.1 hr, h⟩, fun ⟨r, hr, h⟩ => ⟨r, HP.out.mem_iff.2 hr, h⟩⟩

end Go.Proofs.Yteokdmcdhalcfaa
