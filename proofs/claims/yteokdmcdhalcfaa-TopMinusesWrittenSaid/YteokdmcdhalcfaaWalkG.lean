/- slices.DeleteFunc at rectangles of the call's own. -/
import Derived.Test.YteokdmcdhalcfaaWalkF
import Derived.Shelf.SlicesE.DeleteFunc
namespace Go.Proofs.Yteokdmcdhalcfaa
open Go.RowKit Go.Lib Go.Shelf Go.Sort Etch
attribute [local go_sem ↓] Go.wp_at_zero Go.wp_at_succ

/-- Writing behind what the slice holds. -/
theorem own_behind {base : Nat} {e : TypeId} {size g n cap : Nat} {xs : List Value} : ∀ (vs : List Value) (w : World) (s : Nat), w.ownsRow base e size (.slice (some ⟨g, 0, none⟩) n cap) n xs → n * size ≤ s →
    (w.setCells g s vs).ownsRow base e size (.slice (some ⟨g, 0, none⟩) n cap) n xs ∧ w.grownBy (w.setCells g s vs) (some g)
  | [], w, s, h, _ => ⟨h, rfl, rfl, rfl, Nat.le_refl _, fun _ _ _ => rfl⟩
  | v :: r, w, s, h, hs => by
    obtain ⟨k1, k2⟩ := h.stored s v
    rw [List.set_eq_of_length_le (by rw [h.1]; exact hs)] at k1
    obtain ⟨k3, k4⟩ := own_behind r (w.setCell ⟨g, s, none⟩ v) (s + 1) k1 (by omega)
    refine ⟨k3, ⟨k4.os.trans k2.os, k4.tape.trans k2.tape, k4.output.trans k2.output, Nat.le_trans k2.size k4.size, fun i hi hne => (k4.block i (Nat.lt_of_lt_of_le hi k2.size) hne).trans (k2.block i hi hne)⟩⟩

theorem csR_set : ∀ (rs : List R) (i : Nat) (r : R), i < rs.length → ((((csR rs).set (i * 4) (.int .i64 r.x0)).set (i * 4 + 1) (.int .i64 r.y0)).set (i * 4 + 2) (.int .i64 r.x1)).set (i * 4 + 3) (.int .i64 r.y1) = csR (rs.set i r)
  | [], _, _, h => by simp at h
  | x :: rs, 0, r, _ => rfl
  | x :: rs, i + 1, r, h => by
    have ih := csR_set rs i r (by simpa using h)
    have e : csR (x :: rs) = cR x ++ csR rs := rfl
    have e2 : csR ((x :: rs).set (i + 1) r) = cR x ++ csR (rs.set i r) := rfl
    have hl : (cR x).length = 4 := rfl
    rw [e, e2, ← ih]
    rw [show (i + 1) * 4 = (cR x).length + i * 4 by rw [hl]; omega, show (cR x).length + i * 4 + 1 = (cR x).length + (i * 4 + 1) by omega, show (cR x).length + i * 4 + 2 = (cR x).length + (i * 4 + 2) by omega, show (cR x).length + i * 4 + 3 = (cR x).length + (i * 4 + 3) by omega]
    simp only [List.set_append_right _ _ (Nat.le_add_right _ _), Nat.add_sub_cancel_left]

theorem zeroR (w : World) : (zeroValue 31).run Try.prog w = .ok (.agg #[.int .i64 0, .int .i64 0, .int .i64 0, .int .i64 0]) w := by kernel_rfl

/-- clear at rectangles. -/
theorem run_clearR (w : World) (ty : TypeId) (b o n c : Nat) (hn : 0 < n) (hc : ∀ j, j < n * 4 → (w.cell? ⟨b, o + j, none⟩).isSome = true) (hf : ∀ j, j < n * 4 → w.frozen? ⟨b, o + j, none⟩ = false) :
    (Builtin.clear_ #[22] ty #[.slice (some ⟨b, o, none⟩) n c]).run Try.prog w = .ok (.tuple #[]) (w.setCells b o (List.replicate (n * 4) (.int .i64 0))) := by
  have hzc : (Builtin.zeroCells (#[.int .i64 0, .int .i64 0, .int .i64 0, .int .i64 0] : Array Value) n).toList = List.replicate (n * 4) (.int .i64 0) := by
    simp only [Builtin.zeroCells]
    apply List.ext_getElem
    · simp
    · intro i h1 h2
      have : i % 4 < 4 := Nat.mod_lt _ (by omega)
      simp only [List.getElem_replicate, Array.toList_map, List.getElem_map, Array.getElem_toList, Array.getElem_range]
      show (#[.int .i64 0, .int .i64 0, .int .i64 0, .int .i64 0] : Array Value)[i % 4]! = _
      rcases (by omega : i % 4 = 0 ∨ i % 4 = 1 ∨ i % 4 = 2 ∨ i % 4 = 3) with h | h | h | h <;> rw [h] <;> rfl
  have hst := run_storeCells_cells (P := Try.prog) b o (List.replicate (n * 4) (.int .i64 0)) 0 w (by simpa using hc) (by simpa using hf) (by intro v hv'; rw [List.eq_of_mem_replicate hv']; rfl)
  simp only [Nat.add_zero] at hst
  obtain ⟨m, rfl⟩ : ∃ m, n = m + 1 := ⟨n - 1, by omega⟩
  simp [Builtin.clear_, run_underlying Try.underlying22, zeroR, Value.cells, hzc, hst]

/-- A test of rectangles, in whatever world has come of w by growth and writes to one row. -/
def Tests (w : World) (row : Option Nat) (g : Nat) (lb : Array Value) (p : R → Bool) : Prop :=
  (∀ args w, (callFunc g args).run Try.prog w = .ok (.enter g args) w) ∧
  ∀ (W : World) (r : R), w.grownBy W row → Calls Try.prog g (#[.agg #[.int .i64 r.x0, .int .i64 r.y0, .int .i64 r.x1, .int .i64 r.y1]] ++ lb) W fun e w' => e = .returned (.bool (p r)) ∧ Below W.heap.size W w'

theorem grownBy_below {w W W' : World} {row : Option Nat} (h : w.grownBy W row) (k : Below W.heap.size W W') : w.grownBy W' row :=
  ⟨k.os.trans h.os, k.tape.trans h.tape, k.output.trans h.output, Nat.le_trans h.size k.size, fun i hi hne => (k.block i (Nat.lt_of_lt_of_le hi h.size)).trans (h.block i hi hne)⟩

theorem grownBy_trans {w W W' : World} {row : Option Nat} (h : w.grownBy W row) (k : W.grownBy W' row) : w.grownBy W' row :=
  ⟨k.os.trans h.os, k.tape.trans h.tape, k.output.trans h.output, Nat.le_trans h.size k.size, fun i hi hne => (k.block i (Nat.lt_of_lt_of_le hi h.size) hne).trans (h.block i hi hne)⟩

theorem grownBy_of_below {w W : World} (row : Option Nat) (k : Below w.heap.size w W) : w.grownBy W row := ⟨k.os, k.tape, k.output, k.size, fun i hi _ => k.block i hi⟩

theorem idx_spec (p : R → Bool) (ds : List R) : (Lib.idxBy (fun _ y => p y) ds default = -1 ∧ ds.filter (fun r => !p r) = ds) ∨ ∃ k, k < ds.length ∧ Lib.idxBy (fun _ y => p y) ds default = (k : Int) ∧ (ds.take (k + 1)).filter (fun r => !p r) = ds.take k := by
  rcases idxByFrom_spec (fun _ y => p y) default ds 0 with ⟨e, h⟩ | ⟨k, hk, e, ht, h⟩
  · refine Or.inl ⟨e, List.filter_eq_self.2 fun r hr => ?_⟩
    obtain ⟨j, hj, rfl⟩ := List.getElem_of_mem hr
    have := h j hj
    rw [getElem!_pos ds j hj] at this
    simp [this]
  · refine Or.inr ⟨k, hk, by unfold Lib.idxBy; rw [e]; simp, ?_⟩
    rw [getElem!_pos ds k hk] at ht
    rw [List.take_succ_eq_append_getElem hk, List.filter_append]
    have h1 : (ds.take k).filter (fun r => !p r) = ds.take k := List.filter_eq_self.2 fun r hr => by
      obtain ⟨j, hj, rfl⟩ := List.getElem_of_mem hr
      have hj' : j < k := by simp at hj; omega
      have := h j hj'
      rw [getElem!_pos ds j (by omega)] at this
      simp [this]
    rw [h1]
    simp [ht]

set_option maxHeartbeats 2000000 in
set_option maxRecDepth 100000 in
theorem indexFunc_any (g : Nat) (lb : Array Value) (p : R → Bool) (base : Nat) (v : Value) (ds : List R) (w : World) (ho : w.ownsRow base 31 4 v ds.length (csR ds)) (hp : Tests w v.ownBlock g lb p) (hn : ds.length ≤ 17592186044416) :
    Calls Try.prog 101 #[v, .func (.func g) #[] lb] w fun e w' => e = .returned (.int .i64 (Lib.idxBy (fun _ y => p y) ds default)) ∧ Below w.heap.size w w' := by
  by_cases h0 : ds.length = 0
  · have : ds = [] := List.eq_nil_of_length_eq_zero h0
    subst this
    obtain ⟨a, c, rfl, -⟩ := Cells.own ho hn
    clear ho hp
    go_enter Try.func101, Try.ntmps101
    go_wp2
    go_loop [8] (fun i => i = .int .i64 0) (fun _ => 0)
    case atStart => rfl
    case round =>
      obtain rfl := hrel
      go_wp2
      go_ret
      exact ⟨rfl, Below.refl _ _⟩
  · have hr : RectsAt w v ds := Cells.own ho hn
    obtain ⟨b, o, c, rfl, h1, h2, h3, -, h5⟩ := cellsR hr (by omega)
    have := AnyQ.slices_IndexFunc Try.indexFuncR 4 Try.isAgg31 Try.sizeOf31 cR (fun _ => rfl) p g lb hp.1 b o ds.length c ds w
      (fun W x hb => (hp.2 W x (grownBy_of_below _ hb)).mono fun e w' ⟨he, hb'⟩ => ⟨he, hb.trans (hb'.mono hb.size)⟩) (Nat.le_refl _) (by omega) h3 h5
    rwa [List.take_length] at this

set_option maxHeartbeats 2000000 in
set_option maxRecDepth 100000 in
theorem deleteFunc_any (g : Nat) (lb : Array Value) (p : R → Bool) (base : Nat) (v : Value) (ds : List R) (w : World) (ho : w.ownsRow base 31 4 v ds.length (csR ds)) (hp : Tests w v.ownBlock g lb p) (hn : ds.length ≤ 17592186044416) :
    Calls Try.prog 71 #[v, .func (.func g) #[] lb] w fun e w' => ∃ (v' : Value), e = .returned v' ∧
      w'.ownsRow base 31 4 v' (ds.filter fun r => !p r).length (csR (ds.filter fun r => !p r)) ∧ w.grownBy w' v.ownBlock ∧ v'.ownBlock = v.ownBlock := by
  have hi := indexFunc_any g lb p base v ds w ho hp hn
  have eg := hp.1
  have HP := Lib.hid hp.2
  clear hp
  rcases idx_spec p ds with ⟨e1, e2⟩ | ⟨k, hk, e1, e2⟩
  · rw [e1] at hi
    rw [e2]
    have HI := Lib.hid hi
    have HO := Lib.hid ho
    obtain ⟨a, c, rfl, -⟩ := Cells.own ho hn
    clear hi ho e1 e2
    go_enter Try.func71, Try.ntmps71
    go_wp2_with (go_at_call 101; refine HI.out.mono ?_; rintro e w' ⟨rfl, hb⟩)
    go_ret
    exact ⟨_, rfl, HO.out.kept (grownBy_of_below none hb) (by cases hv : (Value.slice a ds.length c).ownBlock <;> simp), grownBy_of_below _ hb, rfl⟩
  · rw [e1] at hi
    have HI := Lib.hid hi
    have HO := Lib.hid ho
    have HE := Lib.hid e2
    have hkb : ((k : Int) == -1) = false := beq_eq_false_iff_ne.2 (by omega)
    obtain ⟨b, c, rfl, hnc⟩ : ∃ b c, v = .slice (some ⟨b, 0, none⟩) ds.length c ∧ ds.length ≤ c := by
      rcases ho.2 with ⟨rfl, h⟩ | ⟨b, cap, cur, rfl, _, _, h, _⟩
      · omega
      · exact ⟨b, cap, rfl, h⟩
    clear hi ho e1 e2
    go_enter Try.func71, Try.ntmps71
    go_wp2_with (go_at_call 101; refine HI.out.mono ?_; rintro e w' ⟨rfl, hb⟩)
    go_loopw [5, 6] (fun v5 v6 wr => ∃ (i j : Nat) (cur : List R), v5 = .int .i64 i ∧ v6 = .int .i64 j ∧ i ≤ j ∧ j ≤ ds.length ∧ cur.length = ds.length ∧ wr.ownsRow base 31 4 (.slice (some ⟨b, 0, none⟩) ds.length c) ds.length (csR cur) ∧ w.grownBy wr (some b) ∧
        Hid (cur.drop j = ds.drop j ∧ cur.take i = (ds.take j).filter fun r => !p r)) (fun _ v6 _ => ds.length - (intOf v6).toNat)
    case atStart =>
      exact ⟨k, k + 1, ds, rfl, by go_num, by omega, by omega, rfl, HO.out.kept (grownBy_of_below none hb) (Or.inr (by simp [Value.ownBlock])), grownBy_of_below _ hb, ⟨rfl, HE.out.symm⟩⟩
    case round =>
      clear hb HO HE HI
      obtain ⟨i, j, cur, rfl, rfl, hij, hj, hcl, hown, hg, HI⟩ := hrel
      by_cases hlt : j < ds.length
      · have hltz : (j : Int) < (ds.length : Int) := by omega
        have hj0 : (0 : Int) ≤ (j : Int) := by omega
        have hcj : cur[j]'(by omega) = ds[j] := by
          have := congrArg (fun l => l[0]?) HI.out.1
          simpa [hlt, hcl] using this
        have hR : RectsAt wr (.slice (some ⟨b, 0, none⟩) ds.length c) cur := by
          have := Cells.own hown hn
          rw [← hcl] at this ⊢
          exact this
        obtain ⟨b', o', c', hv, -, -, -, hcells, -⟩ := cellsR hR (by omega)
        simp only [Value.slice.injEq, Option.some.injEq, Addr.mk.injEq, and_true] at hv
        obtain ⟨⟨rfl, rfl⟩, -, rfl⟩ := hv
        have hq : ∀ q, q < 4 → (csR cur)[j * 4 + q]? = (cR ds[j])[q]? := fun q hq => (csR_get cur j (by omega) q hq).trans (by rw [hcj])
        have f0 : wr.cell? ⟨b, j * 4, none⟩ = some (.int .i64 ds[j].x0) := by have := hcells (j * 4 + 0) _ ((hq 0 (by omega)).trans rfl); simpa using this
        have f1 : wr.cell? ⟨b, j * 4 + 1, none⟩ = some (.int .i64 ds[j].y0) := by have := hcells (j * 4 + 1) _ ((hq 1 (by omega)).trans rfl); simpa using this
        have f2 : wr.cell? ⟨b, j * 4 + 2, none⟩ = some (.int .i64 ds[j].x1) := by have := hcells (j * 4 + 2) _ ((hq 2 (by omega)).trans rfl); simpa using this
        have f3 : wr.cell? ⟨b, j * 4 + 3, none⟩ = some (.int .i64 ds[j].y1) := by have := hcells (j * 4 + 3) _ ((hq 3 (by omega)).trans rfl); simpa using this
        have HTK : Hid (ds.take (j + 1) = ds.take j ++ [ds[j]]) := List.take_succ_eq_append_getElem hlt
        have HDR : Hid (cur.drop (j + 1) = ds.drop (j + 1)) := by
          have := congrArg (fun l => l.drop 1) HI.out.1
          show _ = _
          simpa [List.drop_drop, Nat.add_comm] using this
        clear hcells hq hcj hR
        generalize ds[j] = r at f0 f1 f2 f3 HTK
        have hpr := fun (W : World) (hW : wr.grownBy W (some b)) => HP.out W r (grownBy_trans hg hW)
        have HPR := Lib.hid hpr
        clear hpr
        cases hpb : p r with
        | true =>
          have HPB := Lib.hid hpb
          clear hpb
          go_wp2_with fail
          refine (HPR.out _ (World.grownBy_alloc _ _ _)).mono ?_
          rintro e1 w1 ⟨rfl, hb1⟩
          rw [HPB.out]
          have hg1 : wr.grownBy w1 (some b) := grownBy_below (World.grownBy_alloc _ _ _) hb1
          have hown1 := hown.kept (grownBy_below (World.grownBy_alloc wr (.cells #[.int .i64 r.x0, .int .i64 r.y0, .int .i64 r.x1, .int .i64 r.y1] 31) none) hb1) (Or.inr (by simp [Value.ownBlock]))
          clear hb1
          go_wp2
          go_roundw
          case rel =>
            refine ⟨i, j + 1, cur, rfl, by go_num, by omega, by omega, hcl, hown1, grownBy_trans hg hg1, ⟨HDR.out, ?_⟩⟩
            rw [HTK.out, List.filter_append, HI.out.2]; simp [HPB.out]
          case measure => simp [intOf]; omega
        | false =>
          have HPB := Lib.hid hpb
          clear hpb
          go_wp2_with fail
          refine (HPR.out _ (World.grownBy_alloc _ _ _)).mono ?_
          rintro e1 w1 ⟨rfl, hb1⟩
          rw [HPB.out]
          have hg1 : wr.grownBy w1 (some b) := grownBy_below (World.grownBy_alloc _ _ _) hb1
          have hown1 := hown.kept (grownBy_below (World.grownBy_alloc wr (.cells #[.int .i64 r.x0, .int .i64 r.y0, .int .i64 r.x1, .int .i64 r.y1] 31) none) hb1) (Or.inr (by simp [Value.ownBlock]))
          obtain ⟨b0, b1, b2, b3⟩ := box4 hb1
          have hlen := hown1.1
          have s0 := hown1.cellAt (i * 4) (by omega)
          have s1 := hown1.cellAt (i * 4 + 1) (by omega)
          have s2 := hown1.cellAt (i * 4 + 2) (by omega)
          have s3 := hown1.cellAt (i * 4 + 3) (by omega)
          rw [List.getElem?_eq_getElem (by omega)] at s0 s1 s2 s3
          have z0 := hown1.frozenAt (i * 4)
          have z1 := hown1.frozenAt (i * 4 + 1)
          have z2 := hown1.frozenAt (i * 4 + 2)
          have z3 := hown1.frozenAt (i * 4 + 3)
          generalize (csR cur)[i * 4]'(by omega) = u0 at s0
          generalize (csR cur)[i * 4 + 1]'(by omega) = u1 at s1
          generalize (csR cur)[i * 4 + 2]'(by omega) = u2 at s2
          generalize (csR cur)[i * 4 + 3]'(by omega) = u3 at s3
          have hi0 : (0 : Int) ≤ (i : Int) := by omega
          have hi1 : (i : Int) < (ds.length : Int) := by omega
          clear hb1 hlen f0 f1 f2 f3
          go_wp2
          go_roundw
          case rel =>
            obtain ⟨k0, j0⟩ := hown1.stored (i * 4) (.int .i64 r.x0)
            obtain ⟨k1, j1⟩ := k0.stored (i * 4 + 1) (.int .i64 r.y0)
            obtain ⟨k2, j2⟩ := k1.stored (i * 4 + 2) (.int .i64 r.x1)
            obtain ⟨k3, j3⟩ := k2.stored (i * 4 + 3) (.int .i64 r.y1)
            rw [csR_set cur i r (by omega)] at k3
            refine ⟨i + 1, j + 1, cur.set i r, by go_num, by go_num, by omega, by omega, by simpa using hcl, k3, grownBy_trans (grownBy_trans hg hg1) (grownBy_trans (grownBy_trans j0 j1) (grownBy_trans j2 j3)), ⟨?_, ?_⟩⟩
            · rw [List.drop_set_of_lt (by omega)]; exact HDR.out
            · rw [HTK.out, List.filter_append, ← HI.out.2, List.take_succ_eq_append_getElem (by simp; omega), List.take_set_of_le (Nat.le_refl _)]
              simp [HPB.out]
          case measure => simp [intOf]; omega
      · have hje : j = ds.length := by omega
        subst hje
        have hfin : cur.take i = ds.filter fun r => !p r := by rw [HI.out.2, List.take_length]
        have hil : i = (ds.filter fun r => !p r).length := by rw [← hfin, List.length_take]; omega
        have hcut := own_cut hown i hij
        have hct : (csR cur).take (i * 4) = csR (cur.take i) := by
          have : csR cur = csR (cur.take i) ++ csR (cur.drop i) := by rw [← csR_append, List.take_append_drop]
          rw [this, List.take_left' (by rw [csR_length, List.length_take]; omega)]
        rw [hct, hfin] at hcut
        have FIN : Hid (∀ w', wr.grownBy w' (some b) → w'.ownsRow base 31 4 (.slice (some ⟨b, 0, none⟩) i c) i (csR (ds.filter fun r => !p r)) → ∃ v', Ending.returned (.slice (some ⟨b, 0, none⟩) i c) = .returned v' ∧
            w'.ownsRow base 31 4 v' (ds.filter fun r => !p r).length (csR (ds.filter fun r => !p r)) ∧ w.grownBy w' (some b) ∧ v'.ownBlock = some b) :=
          fun w' h1 h2 => ⟨_, rfl, hil ▸ h2, grownBy_trans hg h1, rfl⟩
        have HCUT := Lib.hid hcut
        have hi0 : (0 : Int) ≤ (i : Int) := by omega
        have hi1 : (i : Int) ≤ (ds.length : Int) := by omega
        have hi2 : (i : Int) ≤ (c : Int) := by omega
        have hd : ¬ (ds.length : Int) < (ds.length : Int) := by omega
        by_cases hie : i < ds.length
        · have hcl2 : ∀ ty, (Builtin.clear_ #[22] ty #[.slice (some ⟨b, i * 4, none⟩) (ds.length - i) (c - i)]).run Try.prog wr = .ok (.tuple #[]) (wr.setCells b (i * 4) (List.replicate ((ds.length - i) * 4) (.int .i64 0))) := fun ty =>
            run_clearR wr ty b (i * 4) (ds.length - i) (c - i) (by omega) (fun t ht => by rw [hown.cellAt (i * 4 + t) (by omega), List.getElem?_eq_getElem (by rw [hown.1]; omega)]; rfl) (fun t _ => hown.frozenAt _)
          have hci : ¬ c = i := by omega
          obtain ⟨m1, m2⟩ := own_behind (List.replicate ((ds.length - i) * 4) (.int .i64 0)) wr (i * 4) hcut (Nat.le_refl _)
          have HM := Lib.hid (And.intro m1 m2)
          generalize wr.setCells b (i * 4) (List.replicate ((ds.length - i) * 4) (.int .i64 0)) = wz at hcl2 HM
          clear m1 m2 hcut hct hfin hil hown hg hnc HI HCUT
          go_wp2
          go_ret
          exact FIN.out _ HM.out.2 HM.out.1
        · have hie2 : i = ds.length := by omega
          have hnone : ∀ (a : Option Addr) (q : Nat) ty W, (Builtin.clear_ #[22] ty #[.slice a 0 q]).run Try.prog W = .ok (.tuple #[]) W := fun a q ty W => by
            cases a <;> simp [Builtin.clear_, run_underlying Try.underlying22]
          clear hcut hct hfin hil hown hg hnc HI hie hij hi1
          subst hie2
          by_cases hci : c = ds.length
          · subst hci
            go_wp2
            go_ret
            exact FIN.out _ ⟨rfl, rfl, rfl, Nat.le_refl _, fun _ _ _ => rfl⟩ HCUT.out
          · go_wp2
            go_ret
            exact FIN.out _ ⟨rfl, rfl, rfl, Nat.le_refl _, fun _ _ _ => rfl⟩ HCUT.out

end Go.Proofs.Yteokdmcdhalcfaa
