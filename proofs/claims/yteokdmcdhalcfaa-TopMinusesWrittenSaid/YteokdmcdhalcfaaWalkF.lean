/- The library's functions at numbers and rectangles, in this claim's words: Equal, Clone, SortFunc, Sort, Compact. -/
import Derived.Test.YteokdmcdhalcfaaWalkE
import Derived.Test.YteokdmcdhalcfaaShelf
import Derived.Shelf.SlSortCmp.NoneTotal
import Derived.Laws.StructEq
namespace Go.Proofs.Yteokdmcdhalcfaa
open Go.RowKit Go.Lib Go.Shelf Go.Sort Etch

/-! ### Equal -/
theorem beq_take_all {xs ys : List Int} : (xs.take xs.length == ys.take ys.length) = decide (xs = ys) := by
  rw [List.take_length, List.take_length]
  by_cases h : xs = ys
  · simp [h]
  · simp [h]

theorem eqInts : EqInts := by
  intro v1 v2 xs ys w h1 h2
  obtain ⟨a1, c1, rfl, _, n1, k1⟩ := h1.open
  obtain ⟨a2, c2, rfl, _, n2, k2⟩ := h2.open
  by_cases hl : xs.length = ys.length
  · by_cases h0 : xs.length = 0
    · have ex : xs = [] := List.eq_nil_of_length_eq_zero h0
      have ey : ys = [] := List.eq_nil_of_length_eq_zero (by omega)
      subst ex; subst ey
      exact (Try.slices_Equal_int_empty a1 a2 c1 0 c2 w (by omega)).mono fun e w' ⟨he, hw⟩ => ⟨he, 0, by rw [hw]; rfl⟩
    · obtain ⟨b1, o1, rfl, _, g1⟩ := k1 (by omega)
      obtain ⟨b2, o2, rfl, _, g2⟩ := k2 (by omega)
      have := Try.slices_Equal_int b1 o1 xs.length c1 b2 o2 ys.length c2 xs ys w (Nat.le_refl _) (Nat.le_refl _) (by omega) (by omega)
        (fun j hj => by rw [g1 j hj]; simp [hj]) (fun j hj => by rw [g2 j hj]; simp [hj])
      rw [beq_take_all] at this
      exact this
  · have hd : decide (xs = ys) = false := decide_eq_false (fun h => hl (by rw [h]))
    rw [hd]
    exact (Try.slices_Equal_int_lens a1 a2 xs.length c1 ys.length c2 w hl).mono fun e w' ⟨he, hw⟩ => ⟨he, 0, by rw [hw]; rfl⟩

def eqR (x y : R) : Bool := x.x0 == y.x0 && x.y0 == y.y0 && x.x1 == y.x1 && x.y1 == y.y1

theorem eqR_iff (x y : R) : eqR x y = true ↔ x = y := by
  unfold eqR
  simp only [Bool.and_eq_true, beq_iff_eq]
  constructor
  · rintro ⟨⟨⟨h1, h2⟩, h3⟩, h4⟩; exact R.ext' h1 h2 h3 h4
  · rintro rfl; exact ⟨⟨⟨rfl, rfl⟩, rfl⟩, rfl⟩

theorem neR : NeqAt Try.prog 31 (fun x => .agg (cR x).toArray) eqR := by
  refine ⟨fun x y w => ?_, GuardAt.agg _ (by kernel_rfl)⟩
  have u3 := Try.underlying3
  have a3 := Try.isAgg3
  have z3 := Try.sizeOf3
  have hS : Try.prog.underlying 31 = some (.struct (Try.prog.fieldsOf 31)) := by kernel_rfl
  have hp : Try.prog.stoodInHeld 31 = false := by kernel_rfl
  simp only [cR]
  rw [run_neq_struct, show (10000 : Nat) = 9999 + 1 from rfl, run_equalIn_agg w 9999 31 _ _ hS hp]
  simp only [Program.fieldsOf, Try.underlying31]
  go_simp
  unfold eqR
  by_cases h1 : x.x0 = y.x0 <;> by_cases h2 : x.y0 = y.y0 <;> by_cases h3 : x.x1 = y.x1 <;> by_cases h4 : x.y1 = y.y1 <;> simp [h1, h2, h3, h4]

theorem allEq_iff (xs ys : List R) : Lib.allEq eqR xs ys = true ↔ xs = ys := by
  by_cases hl : xs.length = ys.length
  · constructor
    · intro h
      refine List.ext_getElem hl fun j h1 h2 => ?_
      refine Classical.byContradiction fun hn => ?_
      have : eqR xs[j]! ys[j]! = false := by
        rw [getElem!_pos xs j h1, getElem!_pos ys j h2]
        exact Bool.eq_false_iff.2 fun e => hn ((eqR_iff _ _).1 e)
      rw [Lib.allEq_elem eqR xs ys j h1 h2 this] at h
      cases h
    · rintro rfl
      exact Lib.allEq_all eqR xs xs rfl fun j _ => (eqR_iff _ _).2 rfl
  · constructor
    · intro h; rw [Lib.allEq_len eqR xs ys hl] at h; cases h
    · intro h; exact absurd (by rw [h]) hl

theorem cellsR {w : World} {v : Value} {rs : List R} (h : RectsAt w v rs) (hp : 0 < rs.length) : ∃ b o cap, v = .slice (some ⟨b, o, none⟩) rs.length cap ∧ rs.length ≤ cap ∧ rs.length ≤ 17592186044416 ∧ b < w.heap.size ∧
    (∀ i u, (csR rs)[i]? = some u → w.cell? ⟨b, o + i, none⟩ = some u) ∧ ∀ j, j < rs.length → ∀ i u, (cR rs[j]!)[i]? = some u → w.cell? ⟨b, o + j * 4 + i, none⟩ = some u := by
  obtain ⟨a, cap, rfl, h1, h2, h3⟩ := h
  obtain ⟨b, o, rfl, hb, hc⟩ := h3 (by rw [csR_length]; omega)
  refine ⟨b, o, cap, rfl, h1, h2, hb, hc, fun j hj i u hu => ?_⟩
  have hi : i < 4 := by
    have := (List.getElem?_eq_some_iff.1 hu).1
    simpa [cR] using this
  have := hc (j * 4 + i) u (by rw [csR_get rs j hj i hi]; rw [getElem!_pos rs j hj] at hu; exact hu)
  rwa [← Nat.add_assoc] at this

/-- What slices.Equal says of two rows of rectangles. -/
def SaidEq (w : World) (xs ys : List R) (e : Ending) (w' : World) : Prop := ∃ b : Bool, e = .returned (.bool b) ∧ (b = true ↔ xs = ys) ∧ ∃ q, w' = w.drewN q

/-- slices.Equal at rectangles. -/
theorem eqRects (v1 v2 : Value) (xs ys : List R) (w : World) (h1 : RectsAt w v1 xs) (h2 : RectsAt w v2 ys) :
    Calls Try.prog 37 #[v1, v2] w (SaidEq w xs ys) := by
  by_cases hl : xs.length = ys.length
  · by_cases h0 : xs.length = 0
    · have ex : xs = [] := List.eq_nil_of_length_eq_zero h0
      have ey : ys = [] := List.eq_nil_of_length_eq_zero (by omega)
      subst ex; subst ey
      obtain ⟨a1, c1, rfl, -⟩ := h1
      obtain ⟨a2, c2, rfl, -⟩ := h2
      go_enter Try.func37, Try.ntmps37
      go_wp2
      go_loop [13] (fun i => i = .int .i64 0) (fun _ => 0)
      case atStart => rfl
      case round =>
        obtain rfl := hrel
        go_wp2
        go_ret
        exact ⟨true, rfl, by simp, 0, rfl⟩
    · obtain ⟨b1, o1, c1, rfl, hn1, hm1, -, -, g1⟩ := cellsR h1 (by omega)
      obtain ⟨b2, o2, c2, rfl, hn2, hm2, -, -, g2⟩ := cellsR h2 (by omega)
      have h := AnyQ.slices_Equal Try.equalR 4 Try.isAgg31 Try.sizeOf31 cR (fun _ => rfl) eqR neR b1 o1 xs.length c1 b2 o2 ys.length c2 xs ys w (Nat.le_refl _) (Nat.le_refl _) (by omega) (by omega) g1 g2
      rw [List.take_length, List.take_length] at h
      exact h.mono fun e w' ⟨he, hq⟩ => ⟨_, he, allEq_iff xs ys, hq⟩
  · have hne : xs ≠ ys := fun h => hl (by rw [h])
    obtain ⟨a1, c1, rfl, -⟩ := h1
    obtain ⟨a2, c2, rfl, -⟩ := h2
    have hlz : ¬ (xs.length : Int) = (ys.length : Int) := by omega
    go_enter Try.func37, Try.ntmps37
    go_wp2
    go_ret
    exact ⟨false, rfl, by simp [hne], 0, rfl⟩

/-! ### Clone -/
theorem clone_any (v : Value) (rs : List R) (w : World) (h : RectsAt w v rs) (hb : rs.length * 32 ≤ 140737488355328) :
    Calls Try.prog 66 #[v] w fun e w' => ∃ v', e = .returned v' ∧ w'.ownsRow w.heap.size 31 4 v' rs.length (csR rs) ∧ Below w.heap.size w w' := by
  obtain ⟨i0, hi0, hz0, hz1, hz2⟩ := info_parts infoR
  by_cases h0 : rs.length = 0
  · have ex : rs = [] := List.eq_nil_of_length_eq_zero h0
    subst ex
    obtain ⟨a, c, rfl, -⟩ := h
    cases a with
    | none =>
      exact (AnyE.slices_Clone_nil Try.cloneR 0 c w).mono fun e w' ⟨he, hw⟩ => ⟨_, he, by rw [hw]; exact ⟨World.ownsRow_nil _ _ _ _, Below.refl _ _⟩⟩
    | some ad =>
      have q22 : ∀ (w : World) (a : Option Addr) (n c n' c' : Nat), (binOp .eql 22 (.slice a n c) (.slice none n' c')).run Try.prog w = .ok (.bool a.isNone) w := fun w a n c n' c' => Lib.run_eql_slice_nil w _ _ a n c n' c' Try.underlying22
      go_enter Try.func66, Try.ntmps66
      go_wp2_with (at_builtin; refine wpList_append_own _ rfl _ _ 22 rfl w.heap.size 31 i0 _ 4 32 Try.underlying22 hi0 hz0 hz1 hz2 rfl (by decide) _ _ _ rfl (World.ownsRow_made w #[] 0 (Nat.le_refl _) (Nat.zero_le _) (by simp)) ad 0 c [] rfl ?qc1 ?qc2 ?qc3 ?qc4 ?qc5 ?qc6 ?_)
      case qc1 => rfl
      case qc2 => intro j u hj; cases hj
      case qc3 => intro u hu; cases hu
      case qc4 => unfold maxLen; omega
      case qc5 => omega
      case qc6 => simp
      intro v' w1 hown hgrow hnil
      go_wp2
      go_ret
      exact ⟨v', rfl, by simpa [csR] using hown, ((Below.refl _ w).alloc (Nat.le_refl _) _).grown hgrow (by simp) (by intro k hk; simp [Value.ownBlock] at hk; omega)⟩
  · obtain ⟨b, o, c, rfl, hn, hm, -, hc, -⟩ := cellsR h (by omega)
    exact (AnyE.slices_Clone Try.cloneR i0 _ 4 32 hi0 hz0 hz1 hz2 rfl (by decide) Try.sizeOf31 b o rs.length c (csR rs) w (csR_length rs) (by unfold maxLen; omega) hb
      hc (fun u hu => by
        obtain ⟨r, _, hr⟩ := List.mem_flatMap.1 hu
        simp [cR] at hr
        rcases hr with rfl | rfl | rfl | rfl <;> rfl)).mono fun e w' ⟨v', he, ho, _, hb⟩ => ⟨v', he, ho, hb⟩

/-! ### SortFunc -/
/-- A rectangle whose numbers are not out of all reach. -/
def InB (r : R) : Prop := (-1099511627776 ≤ r.x0 ∧ r.x0 ≤ 1099511627776) ∧ (-1099511627776 ≤ r.y0 ∧ r.y0 ≤ 1099511627776) ∧ (-1099511627776 ≤ r.x1 ∧ r.x1 ≤ 1099511627776) ∧ (-1099511627776 ≤ r.y1 ∧ r.y1 ≤ 1099511627776)
def RB : Type := { r : R // InB r }
def mkRB (r : R) (h : InB r) : RB := ⟨r, h⟩
instance : Inhabited RB := ⟨mkRB ⟨0, 0, 0, 0⟩ (by unfold InB; simp)⟩
def rv (r : RB) : R := r.1
def cRB (r : RB) : List Value := cR (rv r)

theorem holds_own {w : World} {base : Nat} {e : TypeId} {size g n cap : Nat} {F : Array Value} (h : w.ownsRow base e size (.slice (some ⟨g, 0, none⟩) n cap) n F.toList) : Holds id w g 0 F := by
  intro j hj
  refine ⟨?_, by rw [Nat.zero_add]; exact h.frozenAt j⟩
  have hl : F.size = n * size := by simpa using h.1
  rw [Nat.zero_add, h.cellAt j (by omega), getElem!_pos F j hj]
  simp [hj]

theorem heap_put {w : World} {g n : Nat} {os : Array Obj} {cur : Array Value} {e : TypeId} {fr : Nat × Nat} (F : Array Value) (hb : w.heap[g]? = some (.cells cur e fr)) :
    (grow (putRow id (Sort.ahead w n) g 0 F) os).heap[g]? = some (.cells (putCells id 0 F cur) e fr) := by
  have hg : g < w.heap.size := (Array.getElem?_eq_some_iff.1 hb).1
  rw [heap_grow_old _ _ (by simpa using hg)]
  simp [putRow, mapBlock, Sort.ahead, Array.getElem?_modify, hb, onCells]

theorem grownBy_put {w : World} {g n : Nat} {os : Array Obj} (F : Array Value) : w.grownBy (grow (putRow id (Sort.ahead w n) g 0 F) os) (some g) := by
  refine ⟨rfl, rfl, rfl, by simp, fun k hk hne => ?_⟩
  rw [heap_grow_old _ _ (by simpa using hk)]
  have : g ≠ k := fun e => hne (by rw [e])
  simp [putRow, mapBlock, Sort.ahead, Array.getElem?_modify, this]

theorem take_put (cur F : Array Value) (h : F.size ≤ cur.size) : (putCells id 0 F cur).toList.take F.size = F.toList := by
  apply List.ext_getElem?
  intro j
  by_cases hj : j < F.size
  · rw [List.getElem?_take_of_lt hj, Array.getElem?_toList]
    simp [putCells, hj, show j < cur.size by omega]
  · rw [List.getElem?_take_eq_none (by omega), List.getElem?_eq_none (by simp; omega)]

/-- Behind a library function that has rewritten a row, the same slice owns what it holds now. -/
theorem own_put {w : World} {base : Nat} {e : TypeId} {size g n cap : Nat} {xs : List Value} (h : w.ownsRow base e size (.slice (some ⟨g, 0, none⟩) n cap) n xs) (m : Nat) (F : Array Value) (hF : F.size = n * size) (os : Array Obj) :
    (grow (putRow id (Sort.ahead w m) g 0 F) os).ownsRow base e size (.slice (some ⟨g, 0, none⟩) n cap) n F.toList ∧ w.grownBy (grow (putRow id (Sort.ahead w m) g 0 F) os) (some g) := by
  refine ⟨⟨by simpa using hF, ?_⟩, grownBy_put F⟩
  rcases h.2 with ⟨h', _⟩ | ⟨g', cap', cur, h', hb, hg, hnc, hcm, hcs, _⟩
  · simp at h'
  · simp only [Value.slice.injEq, Option.some.injEq, Addr.mk.injEq, and_true, true_and] at h'
    obtain ⟨rfl, rfl⟩ := h'
    exact .inr ⟨g, cap, _, rfl, hb, heap_put F hg, hnc, hcm, by simp [putCells, hcs], by rw [← hF]; exact take_put cur F (by rw [hF, hcs]; exact Nat.mul_le_mul_right _ hnc)⟩

theorem flat_csR (d : Array RB) : (flatK cRB 4 d).toList = csR (d.toList.map rv) := by
  apply List.ext_getElem?
  intro t
  have hl : (csR (d.toList.map rv)).length = d.size * 4 := by rw [csR_length]; simp
  by_cases ht : t < d.size * 4
  · have h4 : t / 4 < d.size := by omega
    have h5 := csR_get (d.toList.map rv) (t / 4) (by simpa using h4) (t % 4) (by omega)
    rw [show t / 4 * 4 + t % 4 = t by omega] at h5
    rw [h5, Array.getElem?_toList, Array.getElem?_eq_getElem (by simpa using ht)]
    have h6 := get_flatK cRB 4 d t ht
    rw [getElem!_pos (flatK cRB 4 d) t (by simpa using ht)] at h6
    rw [h6, getElem!_pos d (t / 4) h4]
    have h7 : t % 4 < (cRB (d[t / 4]'h4)).length := by show t % 4 < 4; omega
    rw [getElem!_pos (cRB (d[t / 4]'h4)) (t % 4) h7]
    have h8 : (d.toList.map rv)[t / 4]'(by simpa using h4) = rv (d[t / 4]'h4) := by simp
    rw [h8]
    exact (List.getElem?_eq_getElem h7).symm
  · rw [List.getElem?_eq_none (by simp; omega), List.getElem?_eq_none (by omega)]

/-- A comparison of two rectangles by a number of theirs. -/
structure Cmps (g : Nat) (key : R → Int) : Prop where
  enters : ∀ args w, (callFunc g args).run Try.prog w = .ok (.enter g args) w
  gives : ∀ (x y : R) (W : World), InB x → InB y → Calls Try.prog g #[.agg (cR x).toArray, .agg (cR y).toArray] W fun e w' => e = .returned (.int .i64 (key x - key y)) ∧ ∃ q os', w' = grow (W.drewN q) os'

theorem swo_key (key : R → Int) : SWO (ltOf fun x y : RB => key (rv x) - key (rv y)) where
  irrefl x := by unfold ltOf; simp
  trans x y z h1 h2 := by unfold ltOf at *; simp at *; omega
  ntrans x y z h1 h2 := by unfold ltOf at *; simp at *; omega

theorem lift_rb : ∀ rs : List R, (∀ r ∈ rs, InB r) → ∃ l : List RB, l.map rv = rs
  | [], _ => ⟨[], rfl⟩
  | r :: rs, h => by
    obtain ⟨l, hl⟩ := lift_rb rs fun x hx => h x (by simp [hx])
    exact ⟨mkRB r (h r (by simp)) :: l, by rw [List.map_cons, hl]; rfl⟩

/-- Sorted by a number. -/
def SortedBy (key : R → Int) (rs : List R) : Prop := rs.Pairwise fun x y => key x ≤ key y

/-- slices.SortFunc at rectangles of the call's own. -/
theorem sort_any (g : Nat) (key : R → Int) (hg : Cmps g key) (base : Nat) (v : Value) (rs : List R) (w : World) (ho : w.ownsRow base 31 4 v rs.length (csR rs)) (hb : ∀ r ∈ rs, InB r) (hn : rs.length < 4611686018427387904) :
    Calls Try.prog 67 #[v, .func (.func g) #[] #[]] w fun e w' => ∃ rs', e = .returned (.tuple #[]) ∧ rs'.Perm rs ∧ SortedBy key rs' ∧ w'.ownsRow base 31 4 v rs.length (csR rs') ∧ w.grownBy w' v.ownBlock := by
  rcases ho.2 with ⟨rfl, h0⟩ | ⟨b, cap, cur, rfl, hbs, hgc, hnc, hcm, hcs, htk⟩
  · have : rs = [] := List.eq_nil_of_length_eq_zero h0
    subst this
    exact (AnyF.slices_SortFunc_none Try.sortR none 0 _ w).mono fun e w' ⟨he, hw⟩ => ⟨[], he, List.Perm.refl _, List.Pairwise.nil, by rw [hw]; exact ⟨ho, ⟨rfl, rfl, rfl, Nat.le_refl _, fun _ _ _ => rfl⟩⟩⟩
  · obtain ⟨l, hd⟩ := lift_rb rs hb
    obtain ⟨d, rfl⟩ : ∃ d : Array RB, d.toList = l := ⟨l.toArray, rfl⟩
    have hsz : d.size = rs.length := by rw [← hd]; simp
    have hH : HoldsK cRB 4 w b 0 d := holds_own (by rw [flat_csR, hd]; exact ho)
    have h := AnyQ.slices_SortFunc Try.sortR 4 Try.isAgg31 Try.sizeOf31 cRB (fun _ => rfl) (fun x u hu => by simp [cRB, cR] at hu; rcases hu with rfl | rfl | rfl | rfl <;> rfl)
      (fun x y => key (rv x) - key (rv y)) (swo_key key) g #[] b 0 cap d w hg.enters (fun m os dk _ x y => hg.gives (rv x) (rv y) _ x.2 y.2) hH (Array.getElem?_eq_some_iff.1 hgc).1 (by omega)
    rw [hsz] at h
    refine h.mono fun e w' ⟨he, d', n, os, hp, hso, hw⟩ => ?_
    have hs' : d'.size = d.size := hp.1.trans rfl
    have hperm : d'.toList.Perm d.toList := by
      have := hp.2.2
      rw [← hsz] at this
      simpa [Array.extract_eq_self_of_le, hs'] using this
    obtain ⟨k1, k2⟩ := own_put (w := w) ho n (flatK cRB 4 d') (by rw [size_flatK, hs', hsz]) os
    rw [flat_csR] at k1
    refine ⟨d'.toList.map rv, he, by rw [← hd]; exact hperm.map rv, ?_, by rw [hw]; exact k1, by rw [hw]; exact k2⟩
    refine List.pairwise_iff_getElem.2 fun i j hi hj hij => ?_
    have hj' : j < d'.size := by simpa using hj
    have hi' : i < d'.size := by omega
    have := hso i j (Nat.zero_le _) hij (by omega)
    rw [getElem!_pos d' i hi', getElem!_pos d' j hj'] at this
    unfold ltOf at this
    simp at this ⊢
    omega

theorem own_cut {w : World} {base : Nat} {e : TypeId} {size g n cap : Nat} {xs : List Value} (h : w.ownsRow base e size (.slice (some ⟨g, 0, none⟩) n cap) n xs) (m : Nat) (hm : m ≤ n) :
    w.ownsRow base e size (.slice (some ⟨g, 0, none⟩) m cap) m (xs.take (m * size)) := by
  have hms : m * size ≤ n * size := Nat.mul_le_mul_right _ hm
  refine ⟨by rw [List.length_take, h.1]; omega, ?_⟩
  rcases h.2 with ⟨h', _⟩ | ⟨g', cap', cur, h', hb, hg, hnc, hcm, hcs, ht⟩
  · simp at h'
  · simp only [Value.slice.injEq, Option.some.injEq, Addr.mk.injEq, and_true, true_and] at h'
    obtain ⟨rfl, rfl⟩ := h'
    exact .inr ⟨g, cap, cur, rfl, hb, hg, by omega, hcm, hcs, by rw [← ht, List.take_take, Nat.min_eq_left hms]⟩

/-! ### Sort and Compact at numbers -/
theorem putRow_map (enc : Int → Value) (w : World) (b : Nat) (d : Array Int) : putRow enc w b 0 d = putRow id w b 0 (d.map enc) := by
  unfold putRow
  refine mapBlock_congr w b _ _ fun c e fr _ => ?_
  unfold putCells
  apply Array.ext
  · simp
  · intro i h1 h2
    simp only [Array.getElem_mapIdx, Array.size_map]
    by_cases hi : 0 ≤ i ∧ i < 0 + d.size
    · rw [if_pos hi, if_pos hi]
      have h3 : i - 0 < d.size := by omega
      rw [getElem!_pos d _ h3, getElem!_pos (d.map enc) _ (by simpa using h3)]
      simp
    · rw [if_neg hi, if_neg hi]

theorem compactUpTo_sorted (zs : List Int) (hs : zs.Pairwise (· ≤ ·)) : ∀ m, m ≤ zs.length →
    Asc (compactUpTo zs.toArray m) ∧ (∀ x, x ∈ compactUpTo zs.toArray m ↔ ∃ j, j < m ∧ zs[j]! = x) := by
  intro m
  induction m with
  | zero => intro _; exact ⟨List.Pairwise.nil, fun x => by simp [compactUpTo]⟩
  | succ m ih =>
    intro hm
    obtain ⟨h1, h2⟩ := ih (by omega)
    rw [compactUpTo_succ]
    have hmono : ∀ i j, i ≤ j → j < zs.length → zs[i]! ≤ zs[j]! := by
      intro i j hij hj
      rcases Nat.lt_or_eq_of_le hij with h | h
      · rw [getElem!_pos zs i (by omega), getElem!_pos zs j hj]
        exact List.pairwise_iff_getElem.1 hs i j (by omega) hj h
      · subst h; exact Int.le_refl _
    have ea : ∀ j : Nat, zs.toArray[j]! = zs[j]! := fun j => by simp
    by_cases hk : keeps zs.toArray m = true
    · rw [if_pos hk]
      have hk' : m = 0 ∨ zs[m]! ≠ zs[m - 1]! := by
        unfold keeps at hk
        have := of_decide_eq_true hk
        rwa [ea, ea] at this
      rw [ea]
      refine ⟨List.pairwise_append.2 ⟨h1, List.pairwise_singleton _ _, fun x hx y hy => ?_⟩, fun x => ?_⟩
      · obtain rfl := List.mem_singleton.1 hy
        obtain ⟨j, hj, rfl⟩ := (h2 x).1 hx
        have a1 := hmono j (m - 1) (by omega) (by omega)
        have a2 := hmono (m - 1) m (by omega) (by omega)
        have a3 : zs[m]! ≠ zs[m - 1]! := by rcases hk' with h | h; omega; exact h
        show zs[j]! < zs[m]!
        omega
      · rw [List.mem_append, h2]
        constructor
        · rintro (⟨j, hj, e⟩ | h)
          · exact ⟨j, by omega, e⟩
          · simp at h; exact ⟨m, by omega, by simp [h]⟩
        · rintro ⟨j, hj, e⟩
          rcases Nat.lt_succ_iff_lt_or_eq.1 hj with h | h
          · exact Or.inl ⟨j, h, e⟩
          · subst h; exact Or.inr (by simp at e; simp [e])
    · rw [if_neg hk, List.append_nil]
      refine ⟨h1, fun x => ?_⟩
      rw [h2]
      have hk' : m ≠ 0 ∧ zs[m]! = zs[m - 1]! := by
        unfold keeps at hk
        rw [ea, ea] at hk
        have := of_decide_eq_false (Bool.eq_false_iff.2 hk)
        exact ⟨fun h => this (Or.inl h), Classical.byContradiction fun h => this (Or.inr h)⟩
      constructor
      · rintro ⟨j, hj, e⟩; exact ⟨j, by omega, e⟩
      · rintro ⟨j, hj, e⟩
        rcases Nat.lt_succ_iff_lt_or_eq.1 hj with h | h
        · exact ⟨j, h, e⟩
        · subst h; exact ⟨j - 1, by omega, by rw [← e]; exact hk'.2.symm⟩

theorem compact_sorted (zs : List Int) (hs : zs.Pairwise (· ≤ ·)) : Asc (compact zs) ∧ ∀ x, x ∈ compact zs ↔ x ∈ zs := by
  obtain ⟨h1, h2⟩ := compactUpTo_sorted zs hs zs.length (Nat.le_refl _)
  refine ⟨h1, fun x => ?_⟩
  show x ∈ compactUpTo zs.toArray zs.length ↔ _
  rw [h2]
  constructor
  · rintro ⟨j, hj, rfl⟩; rw [getElem!_pos zs j hj]; exact List.getElem_mem hj
  · intro hx
    obtain ⟨j, hj, rfl⟩ := List.getElem_of_mem hx
    exact ⟨j, hj, by rw [getElem!_pos zs j hj]⟩

/-- slices.Sort at numbers of the call's own. -/
theorem sortI_any (base : Nat) (v : Value) (xs : List Int) (w : World) (ho : w.ownsRow base 3 1 v xs.length (xs.map vI)) (hn : xs.length < 4611686018427387904) :
    Calls Try.prog 69 #[v] w fun e w' => ∃ ys : List Int, e = .returned (.tuple #[]) ∧ ys.Perm xs ∧ ys.Pairwise (· ≤ ·) ∧ w'.ownsRow base 3 1 v ys.length (ys.map vI) ∧ w.grownBy w' v.ownBlock := by
  rcases ho.2 with ⟨rfl, h0⟩ | ⟨b, cap, cur, rfl, hbs, hgc, hnc, hcm, hcs, htk⟩
  · have : xs = [] := List.eq_nil_of_length_eq_zero h0
    subst this
    exact (Try.slices_Sort_int_none none 0 w).mono fun e w' ⟨he, hw⟩ => ⟨[], he, List.Perm.refl _, List.Pairwise.nil, by rw [hw]; exact ⟨ho, ⟨rfl, rfl, rfl, Nat.le_refl _, fun _ _ _ => rfl⟩⟩⟩
  · have hH : Holds (Value.int .i64) w b 0 xs.toArray := fun j hj => by
      have hj' : j < xs.length := by simpa using hj
      refine ⟨?_, by rw [Nat.zero_add]; exact ho.frozenAt j⟩
      rw [Nat.zero_add, ho.cellAt j (by omega), getElem!_pos _ j hj]
      simp [hj', vI]
    refine (Try.slices_Sort_int b 0 cap xs w hH (Array.getElem?_eq_some_iff.1 hgc).1 hn).mono fun e w' ⟨he, n, os, hw⟩ => ?_
    have hp : (xs.mergeSort fun x y => decide (x ≤ y)).Perm xs := List.mergeSort_perm _ _
    have hs : (xs.mergeSort fun x y => decide (x ≤ y)).Pairwise (· ≤ ·) := by
      have := List.pairwise_mergeSort (le := fun x y : Int => decide (x ≤ y)) (fun a b c h1 h2 => by simp at *; omega) (fun a b => by simp; omega) xs
      exact this.imp fun h => by simpa using h
    rw [putRow_map] at hw
    generalize (xs.mergeSort fun x y => decide (x ≤ y)) = ys at hp hs hw
    have hl := hp.length_eq
    obtain ⟨k1, k2⟩ := own_put (w := w) ho n (ys.toArray.map (Value.int .i64)) (by simp; omega) os
    refine ⟨ys, he, hp, hs, ?_, by rw [hw]; exact k2⟩
    rw [hw, hl, show (ys.map vI) = ys.map (Value.int .i64) from rfl]
    simpa using k1

/-- slices.Compact at ascending numbers of the call's own. -/
theorem compactI_any (base : Nat) (v : Value) (xs : List Int) (w : World) (ho : w.ownsRow base 3 1 v xs.length (xs.map vI)) (hs : xs.Pairwise (· ≤ ·)) (hn : xs.length ≤ 17592186044416) :
    Calls Try.prog 70 #[v] w fun e w' => ∃ (v' : Value) (ys : List Int), e = .returned v' ∧ Asc ys ∧ (∀ x, x ∈ ys ↔ x ∈ xs) ∧ ys.length ≤ xs.length ∧ w'.ownsRow base 3 1 v' ys.length (ys.map vI) ∧ w.grownBy w' v.ownBlock := by
  obtain ⟨h1, h2⟩ := compact_sorted xs hs
  have h3 := compact_length_le xs
  rcases ho.2 with ⟨rfl, h0⟩ | ⟨b, cap, cur, rfl, hbs, hgc, hnc, hcm, hcs, htk⟩
  · have : xs = [] := List.eq_nil_of_length_eq_zero h0
    subst this
    exact (Try.slices_Compact_int_empty none 0 w).mono fun e w' ⟨he, hw⟩ => ⟨_, [], he, List.Pairwise.nil, fun _ => Iff.rfl, Nat.le_refl _, World.ownsRow_nil _ _ _ _, by rw [hw]; exact ⟨rfl, rfl, rfl, Nat.le_refl _, fun _ _ _ => rfl⟩⟩
  · have hH : Holds (Value.int .i64) w b 0 xs.toArray := fun j hj => by
      have hj' : j < xs.length := by simpa using hj
      refine ⟨?_, by rw [Nat.zero_add]; exact ho.frozenAt j⟩
      rw [Nat.zero_add, ho.cellAt j (by omega), getElem!_pos _ j hj]
      simp [hj', vI]
    refine (Try.slices_Compact_int b 0 cap xs w hH (by omega) hnc).mono fun e w' ⟨he, q, hw⟩ => ?_
    rw [putRow_map] at hw
    generalize compact xs = ys at *
    have hsz : (ys ++ List.replicate (xs.length - ys.length) 0).length = xs.length := by simp; omega
    obtain ⟨k1, k2⟩ := own_put (w := w) ho q ((ys ++ List.replicate (xs.length - ys.length) 0).toArray.map (Value.int .i64)) (by simp; omega) #[]
    rw [grow_empty, ← hw] at k1 k2
    refine ⟨_, ys, he, h1, h2, h3, ?_, k2⟩
    have := own_cut k1 ys.length h3
    rw [show ys.map vI = ys.map (Value.int .i64) from rfl]
    simpa [List.take_append] using this

end Go.Proofs.Yteokdmcdhalcfaa
