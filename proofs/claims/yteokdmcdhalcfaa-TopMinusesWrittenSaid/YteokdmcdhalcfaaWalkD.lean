/- The walk of push: a band put above those that there are. -/
import Derived.Test.YteokdmcdhalcfaaWalkC
import Derived.Test.YteokdmcdhalcfaaPlainD
namespace Go.Proofs.Yteokdmcdhalcfaa
open Go.RowKit Go.Lib Go.Shelf Etch
attribute [local go_sem ↓] Go.wp_at_zero Go.wp_at_succ

theorem infoB : (Try.prog.info? 100).map (fun i => (i.zero, i.size, i.bytes)) = some (some (.agg #[.int .i64 0, .int .i64 0, .slice none 0 0]), 3, 40) := by kernel_rfl

theorem grown_of_below {w w' : World} (h : Below w.heap.size w w') : w.grownBy w' none := ⟨h.os, h.tape, h.output, h.size, fun k hk _ => h.block k hk⟩

theorem _root_.Go.World.grownBy.trans' {w w0 w1 : World} {row : Option Nat} (h : w.grownBy w0 none) (k : w0.grownBy w1 row) : w.grownBy w1 row :=
  ⟨k.os.trans h.os, k.tape.trans h.tape, k.output.trans h.output, Nat.le_trans h.size k.size, fun i hi hn => (k.block i (Nat.lt_of_lt_of_le hi h.size) hn).trans (h.block i hi (by simp))⟩

theorem IntsAt.grown {w w' : World} {v : Value} {xs : List Int} {row : Option Nat} (h : IntsAt w v xs) (hg : w.grownBy w' row) (hne : v.ownBlock = none ∨ v.ownBlock ≠ row) : IntsAt w' v xs := Cells.grown h hg hne

theorem IntsAt.block {w : World} {v : Value} {xs : List Int} (h : IntsAt w v xs) (hp : 0 < xs.length) : ∃ b, v.ownBlock = some b ∧ b < w.heap.size := by
  obtain ⟨a, cap, rfl, _, _, h3⟩ := h.open
  obtain ⟨b, o, rfl, hb, _⟩ := h3 hp
  exact ⟨b, rfl, hb⟩

/-- A value that lies in a row of numbers. -/
def Typed (w : World) (u : Value) : Prop := ∃ g cur fr, u.ownBlock = some g ∧ w.heap[g]? = some (.cells cur 3 fr)

/-- A row in which no numbers lie. -/
def Other (w : World) (row : Option Nat) : Prop := ∀ g cur fr, w.heap[g]? = some (.cells cur 3 fr) → some g ≠ row

theorem other_none (w : World) : Other w none := fun g _ _ _ => by simp

theorem other_own {w : World} {base : Nat} {e : TypeId} {size : Nat} {v : Value} {n : Nat} {xs : List Value} (h : w.ownsRow base e size v n xs) (he : 3 ≠ e) : Other w v.ownBlock :=
  fun _ _ _ hg e' => own_ne_type h hg he e'.symm

theorem Typed.grown {w w' : World} {u : Value} {row : Option Nat} (h : Typed w u) (hg : w.grownBy w' row) (ho : Other w row) : Typed w' u := by
  obtain ⟨g, cur, fr, h1, h2⟩ := h
  exact ⟨g, cur, fr, h1, (hg.block g (Array.getElem?_eq_some_iff.1 h2).1 (ho g cur fr h2)).trans h2⟩

theorem Typed.ne {w : World} {u : Value} {row : Option Nat} (h : Typed w u) (ho : Other w row) : u.ownBlock ≠ row := by
  obtain ⟨g, cur, fr, h1, h2⟩ := h
  rw [h1]; exact ho g cur fr h2

theorem Typed.own {w : World} {base : Nat} {size : Nat} {u : Value} {n : Nat} {xs : List Value} (h : w.ownsRow base 3 size u n xs) (hn : 0 < n) : Typed w u := by
  rcases h.2 with ⟨_, h0⟩ | ⟨g, cap, cur, rfl, _, hg, _⟩
  · omega
  · exact ⟨g, cur, _, rfl, hg⟩

/-- A set's value that the call owns: its bands' row, and the values of their stretches in other blocks. -/
def OwnBands (w : World) (base : Nat) (v : Value) (s : List Band) : Prop :=
  ∃ us : List Value, us.length = s.length ∧ w.ownsRow base 100 3 v s.length (csB s us) ∧ ∀ i (h : i < s.length) (h' : i < us.length), IntsAt w us[i] s[i].xs ∧ 0 < s[i].xs.length ∧ Typed w us[i]

theorem OwnBands.nil (w : World) (base : Nat) : OwnBands w base (.slice none 0 0) [] := ⟨[], rfl, World.ownsRow_nil _ _ _ _, fun i h => absurd h (Nat.not_lt_zero _)⟩

theorem OwnBands.grown {w w' : World} {base : Nat} {v : Value} {s : List Band} {row : Option Nat} (h : OwnBands w base v s) (hg : w.grownBy w' row) (hv : v.ownBlock = none ∨ v.ownBlock ≠ row) (hu : Other w row) : OwnBands w' base v s := by
  obtain ⟨us, hl, ho, hx⟩ := h
  refine ⟨us, hl, ho.kept hg hv, fun i h h' => ?_⟩
  obtain ⟨h1, h2, h3⟩ := hx i h h'
  exact ⟨h1.grown hg (Or.inr (h3.ne hu)), h2, h3.grown hg hu⟩

theorem OwnBands.below {w w' : World} {base : Nat} {v : Value} {s : List Band} (h : OwnBands w base v s) (hb : Below w.heap.size w w') : OwnBands w' base v s :=
  h.grown (grown_of_below hb) (by cases hv : v.ownBlock <;> simp) (other_none w)

theorem OwnBands.at_ {w : World} {base : Nat} {v : Value} {s : List Band} (h : OwnBands w base v s) (hn : s.length ≤ 17592186044416) : BandsAt w v s := by
  obtain ⟨us, hl, ho, hx⟩ := h
  exact ⟨us, hl, Cells.own ho hn, fun i h h' => (hx i h h').1⟩

/-- What push gives. -/
def Pushed (w : World) (base : Nat) (v : Value) (s : List Band) (e : Ending) (w' : World) : Prop :=
  ∃ v', e = .returned v' ∧ OwnBands w' base v' s ∧ w.grownBy w' v.ownBlock ∧ (v'.ownBlock = v.ownBlock ∨ ∃ g, v'.ownBlock = some g ∧ w.heap.size ≤ g)

theorem csB_set (s' : List Band) (c : Band) (us : List Value) (hl : us.length = s'.length + 1) (y1 : Int) :
    (csB (s' ++ [c]) us).set (s'.length * 3 + 1) (.int .i64 y1) = csB (s' ++ [⟨c.y0, y1, c.xs⟩]) us := by
  rcases List.eq_nil_or_concat us with rfl | ⟨us', z, rfl⟩
  · simp at hl
  · rw [List.concat_eq_append] at *
    have hl' : us'.length = s'.length := by simpa using hl
    rw [csB_append _ _ _ _ hl', csB_append _ _ _ _ hl', List.set_append_right _ _ (by rw [csB_length _ _ hl']; omega), csB_length _ _ hl']
    rw [show s'.length * 3 + 1 - s'.length * 3 = 1 by omega]
    rfl

theorem Pushed.of_join {w w0 : World} {base g cap : Nat} {s' : List Band} {c : Band} {us : List Value} (hl : us.length = (s' ++ [c]).length)
    (hx : ∀ i (h : i < (s' ++ [c]).length) (h' : i < us.length), IntsAt w us[i] (s' ++ [c])[i].xs ∧ 0 < (s' ++ [c])[i].xs.length ∧ Typed w us[i])
    (h0 : Below w.heap.size w w0) (hot : Other w (some g)) (ho : w0.ownsRow base 100 3 (.slice (some ⟨g, 0, none⟩) (s'.length + 1) cap) (s'.length + 1) (csB (s' ++ [c]) us)) (y1 : Int) :
    Pushed w base (.slice (some ⟨g, 0, none⟩) (s'.length + 1) cap) (s' ++ [⟨c.y0, y1, c.xs⟩]) (.returned (.slice (some ⟨g, 0, none⟩) (s'.length + 1) cap)) (w0.setCell ⟨g, s'.length * 3 + 1, none⟩ (.int .i64 y1)) := by
  obtain ⟨k1, k2⟩ := ho.stored (s'.length * 3 + 1) (.int .i64 y1)
  have hl' : us.length = s'.length + 1 := by simpa using hl
  rw [csB_set s' c us hl' y1] at k1
  have hg := (grown_of_below h0).trans' k2
  refine ⟨_, rfl, ⟨us, by simpa using hl', by simpa using k1, fun i h h' => ?_⟩, hg, Or.inl rfl⟩
  have hi : i < (s' ++ [c]).length := by simpa using h
  obtain ⟨h1, h2, h3⟩ := hx i hi h'
  have e : ((s' ++ [⟨c.y0, y1, c.xs⟩])[i]'h).xs = (s' ++ [c])[i].xs := by
    by_cases hlt : i < s'.length
    · rw [List.getElem_append_left hlt, List.getElem_append_left hlt]
    · have : i = s'.length := by simp at hi; omega
      subst this; simp
  rw [e]
  exact ⟨h1.grown hg (Or.inr (h3.ne hot)), h2, h3.grown hg hot⟩

/-- What slices.Equal says of two rows of numbers. -/
def EqInts : Prop := ∀ (v1 v2 : Value) (xs ys : List Int) (w : World), IntsAt w v1 xs → IntsAt w v2 ys →
  Calls Try.prog 102 #[v1, v2] w fun e w' => e = .returned (.bool (decide (xs = ys))) ∧ ∃ q, w' = w.drewN q

/-- The row behind an append. -/
theorem OwnBands.append {w w0 w1 : World} {base : Nat} {v v' : Value} {s : List Band} {y0 y1 : Int} {xs : List Int} {u : Value} {us : List Value} (hl : us.length = s.length)
    (hx : ∀ i (h : i < s.length) (h' : i < us.length), IntsAt w us[i] s[i].xs ∧ 0 < s[i].xs.length ∧ Typed w us[i]) (hu : IntsAt w u xs) (hp : 0 < xs.length) (hne : Typed w u) (hot : Other w v.ownBlock)
    (h0 : Below w.heap.size w w0) (hg : w0.grownBy w1 v.ownBlock) (ho : w1.ownsRow base 100 3 v' (s.length + 1) (csB s us ++ cB ⟨y0, y1, xs⟩ u)) :
    OwnBands w1 base v' (s ++ [⟨y0, y1, xs⟩]) := by
  have hg1 : w.grownBy w1 v.ownBlock := (grown_of_below h0).trans' hg
  have key : ∀ (z : Value) (zs : List Int), IntsAt w z zs → 0 < zs.length → Typed w z → IntsAt w1 z zs ∧ 0 < zs.length ∧ Typed w1 z := by
    intro z zs h1 h2 h3
    exact ⟨h1.grown hg1 (Or.inr (h3.ne hot)), h2, h3.grown hg1 hot⟩
  refine ⟨us ++ [u], by simp [hl], ?_, fun i h h' => ?_⟩
  · rw [csB_append s _ us _ hl, List.length_append]
    simpa [csB] using ho
  · by_cases hi : i < s.length
    · obtain ⟨h1, h2, h3⟩ := hx i hi (by omega)
      have := key _ _ h1 h2 h3
      simpa [List.getElem_append_left hi, List.getElem_append_left (show i < us.length by omega)] using this
    · have hi' : i = s.length := by simp at h; omega
      subst hi'
      have := key u xs hu hp hne
      simpa [List.getElem_append_right (Nat.le_of_eq hl), hl] using this

theorem Pushed.of_append {w w0 w1 : World} {base : Nat} {v : Value} {s : List Band} {y0 y1 : Int} {xs : List Int} {u : Value} {us : List Value} (hl : us.length = s.length)
    (hx : ∀ i (h : i < s.length) (h' : i < us.length), IntsAt w us[i] s[i].xs ∧ 0 < s[i].xs.length ∧ Typed w us[i]) (hu : IntsAt w u xs) (hp : 0 < xs.length) (hne : Typed w u) (hot : Other w v.ownBlock)
    (h0 : Below w.heap.size w w0) {gg cap : Nat} (hg : w0.grownBy w1 v.ownBlock) (ho : w1.ownsRow base 100 3 (.slice (some ⟨gg, 0, none⟩) (s.length + 1) cap) (s.length + 1) (csB s us ++ cB ⟨y0, y1, xs⟩ u)) (hat : v.ownBlock = some gg ∨ gg = w.heap.size + 2) :
    Pushed w base v (s ++ [⟨y0, y1, xs⟩]) (.returned (.slice (some ⟨gg, 0, none⟩) (s.length + 1) cap)) w1 := by
  have h : (Value.slice (some ⟨gg, 0, none⟩) (s.length + 1) cap).ownBlock = v.ownBlock ∨ ∃ g, (Value.slice (some ⟨gg, 0, none⟩) (s.length + 1) cap).ownBlock = some g ∧ w.heap.size ≤ g := by
    rcases hat with h | h
    · exact Or.inl h.symm
    · exact Or.inr ⟨gg, rfl, by omega⟩
  exact ⟨_, rfl, OwnBands.append hl hx hu hp hne hot h0 hg ho, (grown_of_below h0).trans' hg, h⟩

set_option maxHeartbeats 2000000 in
set_option maxRecDepth 100000 in
theorem push_any (hEq : EqInts) (base : Nat) (v u : Value) (s : List Band) (y0 y1 : Int) (xs : List Int) (w : World) (hs : OwnBands w base v s) (hn : s.length + 1 ≤ 3298534883328)
    (hu : IntsAt w u xs) (hne : 0 < xs.length → Typed w u) (hbase : base ≤ w.heap.size) :
    Calls Try.prog 73 #[v, .agg #[.int .i64 y0, .int .i64 y1, u]] w (Pushed w base v (pushB s ⟨y0, y1, xs⟩)) := by
  obtain ⟨i0, hi0, hz0, hz1, hz2⟩ := info_parts infoB
  have hub := Try.underlying100
  obtain ⟨ua, uc, rfl, huc, hun, hux⟩ := hu.open
  by_cases hxs : xs = []
  · rw [pushB_none s _ (Or.inl hxs)]
    subst hxs
    have FIN : Hid (Pushed w base v s (.returned v) (w.alloc (.cells #[.int .i64 y0, .int .i64 y1, .slice ua 0 uc] 100))) :=
      ⟨v, rfl, hs.below ((Below.refl _ _).alloc (Nat.le_refl _) _), World.grownBy_alloc _ _ _, Or.inl rfl⟩
    clear hs hu hne hux hbase
    go_enter Try.func73, Try.ntmps73
    go_wp2
    go_ret
    exact FIN.out
  · have hxl : 0 < xs.length := List.length_pos_iff.2 hxs
    have hxl0 : ((xs.length : Int) == 0) = false := beq_eq_false_iff_ne.2 (by omega)
    by_cases hy : y1 ≤ y0
    · rw [pushB_none s _ (Or.inr hy)]
      have FIN : Hid (Pushed w base v s (.returned v) (w.alloc (.cells #[.int .i64 y0, .int .i64 y1, .slice ua xs.length uc] 100))) :=
        ⟨v, rfl, hs.below ((Below.refl _ _).alloc (Nat.le_refl _) _), World.grownBy_alloc _ _ _, Or.inl rfl⟩
      clear hs hu hne hux hbase
      go_enter Try.func73, Try.ntmps73
      go_wp2
      go_ret
      exact FIN.out
    · have hyb : decide (y1 ≤ y0) = false := decide_eq_false hy
      have hno : ¬ ((⟨y0, y1, xs⟩ : Band).xs = [] ∨ (⟨y0, y1, xs⟩ : Band).y1 ≤ (⟨y0, y1, xs⟩ : Band).y0) := by intro h; rcases h with h | h; exact hxs h; exact hy h
      obtain ⟨us, hl, ho, hx⟩ := hs
      have hot : Other w v.ownBlock := other_own ho (by decide)
      rcases List.eq_nil_or_concat s with rfl | ⟨s', c, rfl⟩
      · rw [pushB_nil _ hno]
        have HAP := Lib.hid (fun (w0 w1 : World) (gg cap : Nat) h0 hg ho' hat => Pushed.of_append (base := base) (w0 := w0) (w1 := w1) (gg := gg) (cap := cap) (y0 := y0) (y1 := y1) hl hx hu hxl (hne hxl) hot h0 hg ho' hat)
        have hA1 : ([] : List Band).length + 1 ≤ maxLen := by unfold maxLen; simp
        have hA2 : (([] : List Band).length + 1) * 40 ≤ 140737488355328 := by simp
        have hA3 : base ≤ w.heap.size + 1 + 1 := by omega
        have hA4 : v.ownBlock ≠ some w.heap.size ∧ v.ownBlock ≠ some (w.heap.size + 1) := ⟨fun h => by have := (ho.lt _ h).2; omega, fun h => by have := (ho.lt _ h).2; omega⟩
        have HO := Lib.hid ho
        obtain ⟨av, cap, rfl⟩ : ∃ av cap, v = .slice av ([] : List Band).length cap := by
          rcases ho.2 with ⟨rfl, -⟩ | ⟨g, cap, cur, rfl, r⟩
          · exact ⟨none, 0, rfl⟩
          · exact ⟨_, cap, rfl⟩
        clear hot hu hne hux hbase ho hx hl
        go_enter Try.func73, Try.ntmps73
        go_wp2_with fail
        go_quiet (fail)
        go_wp2_with (first | (at_builtin; refine wpList_append_lies _ rfl _ _ _ rfl base 100 i0 _ 3 40 Try.underlying69 hi0 hz0 hz1 hz2 rfl (by decide) _ ([] : List Band).length (csB ([] : List Band) us) (by rfl) (World.ownsRow.alloc (w := (w.alloc (.cells #[.int .i64 y0, .int .i64 y1, .slice ua xs.length uc] 100)).drewN nq) (HO.out.alloc (.cells #[.int .i64 y0, .int .i64 y1, .slice ua xs.length uc] 100)) _) ⟨w.heap.size + 1, 0, none⟩ 1 1 [.int .i64 y0, .int .i64 y1, .slice ua xs.length uc] (by rfl) (by rfl) (World.news_of_block (cs := #[.int .i64 y0, .int .i64 y1, .slice ua xs.length uc]) (t := 100) (fr := (0, 0)) (by simpa using heap_alloc_new ((w.alloc (.cells #[.int .i64 y0, .int .i64 y1, .slice ua xs.length uc] 100)).drewN nq) (.cells #[.int .i64 y0, .int .i64 y1, .slice ua xs.length uc] 100))) (by simp [Value.oneCell']) (by decide) hA1 hA2 (by simpa using hA3) (w.heap.size + 2) (by simp) ?_; intro gg cap1 w1 hown3 hgrow hat hlt1))
        have hb0 : Below w.heap.size w (((w.alloc (.cells #[.int .i64 y0, .int .i64 y1, .slice ua xs.length uc] 100)).drewN nq).alloc (.cells #[.int .i64 y0, .int .i64 y1, .slice ua xs.length uc] 100)) := (below_drewN ((Below.refl _ _).alloc (Nat.le_refl _) (.cells #[.int .i64 y0, .int .i64 y1, .slice ua xs.length uc] 100)) nq).alloc (by simp) (.cells #[.int .i64 y0, .int .i64 y1, .slice ua xs.length uc] 100)
        go_wp2
        go_ret
        exact HAP.out _ _ _ _ hb0 hgrow hown3 hat
      · rw [List.concat_eq_append] at *
        have hcl : (s' ++ [c]).length = s'.length + 1 := by simp
        obtain ⟨g, cap, rfl, hgb⟩ : ∃ g cap, v = .slice (some ⟨g, 0, none⟩) (s'.length + 1) cap ∧ g < w.heap.size := by
          rcases ho.2 with ⟨rfl, h⟩ | ⟨g, cap, cur, rfl, hb, hg, r⟩
          · omega
          · exact ⟨g, cap, by rw [hcl], (Array.getElem?_eq_some_iff.1 hg).1⟩
        obtain ⟨hxc, hxp, hxn⟩ := hx s'.length (by omega) (by omega)
        have hci : (s' ++ [c])[s'.length]'(by omega) = c := by simp
        rw [hci] at hxc hxp
        have hgt : ∀ j, j < 3 → (csB (s' ++ [c]) us)[s'.length * 3 + j]? = (cB c (us[s'.length]'(by omega)))[j]? := fun j hj => (csB_get (s' ++ [c]) us hl s'.length (by omega) j hj).trans (by rw [hci])
        generalize us[s'.length]'(by omega) = z at hxc hxn hgt
        have k1 : w.cell? ⟨g, s'.length * 3 + 1, none⟩ = some (.int .i64 c.y1) := by rw [World.ownsRow.cellAt (hcl ▸ ho) _ (by omega)]; exact hgt 1 (by omega)
        have k2 : w.cell? ⟨g, s'.length * 3 + 2, none⟩ = some z := by rw [World.ownsRow.cellAt (hcl ▸ ho) _ (by omega)]; exact hgt 2 (by omega)
        have hA1 : (s'.length + 1) + 1 ≤ maxLen := by unfold maxLen; omega
        have hA2 : ((s'.length + 1) + 1) * 40 ≤ 140737488355328 := by omega
        have hA3 : base ≤ w.heap.size + 1 + 1 := by omega
        have HO : Hid (w.ownsRow base 100 3 (.slice (some ⟨g, 0, none⟩) (s'.length + 1) cap) (s'.length + 1) (csB (s' ++ [c]) us)) := by have := ho; rw [hcl] at this; exact this
        have hz0i : (0 : Int) ≤ (s'.length : Int) := by omega
        have hz1i : (s'.length : Int) < (s'.length : Int) + 1 := by omega
        by_cases hj : c.y1 = y0
        · subst hj
          have hzW : ∀ n, IntsAt ((w.alloc (.cells #[.int .i64 c.y1, .int .i64 y1, .slice ua xs.length uc] 100)).drewN n) z c.xs := fun n => hxc.below (below_drewN ((Below.refl _ _).alloc (Nat.le_refl _) _) n) (Nat.le_refl _)
          have huW : ∀ n, IntsAt ((w.alloc (.cells #[.int .i64 c.y1, .int .i64 y1, .slice ua xs.length uc] 100)).drewN n) (.slice ua xs.length uc) xs := fun n => hu.below (below_drewN ((Below.refl _ _).alloc (Nat.le_refl _) _) n) (Nat.le_refl _)
          have eqc := fun n => hEq _ _ _ _ _ (hzW n) (huW n)
          clear hzW huW
          by_cases hjx : c.xs = xs
          · rw [pushB_join s' c _ hno rfl hjx]
            rw [decide_eq_true hjx] at eqc
            have EQ := Lib.hid eqc
            have hfr : w.frozen? ⟨g, s'.length * 3 + 1, none⟩ = false := World.ownsRow.frozenAt (hcl ▸ ho) _
            have HJ : Hid (∀ w0, Below w.heap.size w w0 → Pushed w base (.slice (some ⟨g, 0, none⟩) (s'.length + 1) cap) (s' ++ [⟨c.y0, y1, c.xs⟩]) (.returned (.slice (some ⟨g, 0, none⟩) (s'.length + 1) cap)) (w0.setCell ⟨g, s'.length * 3 + 1, none⟩ (.int .i64 y1))) :=
              fun w0 h0 => Pushed.of_join hl hx h0 hot (HO.out.kept (grown_of_below h0) (Or.inr (by simp [Value.ownBlock]))) y1
            clear hot hu hne hux hbase ho hx hl hgt hci hcl hxc hxn hjx eqc
            generalize (Pushed w base (.slice (some ⟨g, 0, none⟩) (s'.length + 1) cap) (s' ++ [⟨c.y0, y1, c.xs⟩])) = PP at HJ ⊢
            clear hno HO
            generalize c.y1 = cy1 at k1 EQ hyb hy
            go_enter Try.func73, Try.ntmps73
            go_wp2_with fail
            go_quiet ((go_at_call 102; exact Calls.quiet_of (EQ.out _)))
            go_wp2
            exact HJ.out _ (below_drewN ((Below.refl _ _).alloc (Nat.le_refl _) _) nq)
          · rw [pushB_on s' c _ hno (fun h => hjx h.2)]
            rw [decide_eq_false hjx] at eqc
            have EQ := Lib.hid eqc
            have HAP : Hid (∀ (w0 w1 : World) (gg cap1 : Nat), Below w.heap.size w w0 → w0.grownBy w1 (some g) → w1.ownsRow base 100 3 (.slice (some ⟨gg, 0, none⟩) (s'.length + 1 + 1) cap1) (s'.length + 1 + 1) (csB (s' ++ [c]) us ++ [.int .i64 c.y1, .int .i64 y1, .slice ua xs.length uc]) → (some g = some gg ∨ gg = w.heap.size + 2) →
                Pushed w base (.slice (some ⟨g, 0, none⟩) (s'.length + 1) cap) (s' ++ [c] ++ [⟨c.y1, y1, xs⟩]) (.returned (.slice (some ⟨gg, 0, none⟩) (s'.length + 1 + 1) cap1)) w1) := by
              intro w0 w1 gg cap1 h0 hg ho' hat
              have := Pushed.of_append (base := base) (w0 := w0) (w1 := w1) (gg := gg) (cap := cap1) (y0 := c.y1) (y1 := y1) hl hx hu hxl (hne hxl) hot h0 hg (by rw [hcl]; exact ho') hat
              rwa [hcl] at this
            clear hot hu hne hux hbase ho hx hl hgt hci hcl hxc hxn hjx eqc hno
            generalize c.y1 = cy1 at k1 EQ hyb hy HAP ⊢
            go_enter Try.func73, Try.ntmps73
            go_wp2_with fail
            go_quiet ((go_at_call 102; exact Calls.quiet_of (EQ.out _)))
            go_wp2_with (first | (at_builtin; refine wpList_append_lies _ rfl _ _ _ rfl base 100 i0 _ 3 40 Try.underlying69 hi0 hz0 hz1 hz2 rfl (by decide) _ (s'.length + 1) (csB (s' ++ [c]) us) (by rfl) (World.ownsRow.alloc (w := (w.alloc (.cells #[.int .i64 cy1, .int .i64 y1, .slice ua xs.length uc] 100)).drewN nq) (HO.out.alloc (.cells #[.int .i64 cy1, .int .i64 y1, .slice ua xs.length uc] 100)) _) ⟨w.heap.size + 1, 0, none⟩ 1 1 [.int .i64 cy1, .int .i64 y1, .slice ua xs.length uc] (by rfl) (by rfl) (World.news_of_block (cs := #[.int .i64 cy1, .int .i64 y1, .slice ua xs.length uc]) (t := 100) (fr := (0, 0)) (by simpa using heap_alloc_new ((w.alloc (.cells #[.int .i64 cy1, .int .i64 y1, .slice ua xs.length uc] 100)).drewN nq) (.cells #[.int .i64 cy1, .int .i64 y1, .slice ua xs.length uc] 100))) (by simp [Value.oneCell']) (by decide) hA1 hA2 (by simpa using hA3) (w.heap.size + 2) (by simp) ?_; intro gg cap1 w1 hown3 hgrow hat hlt1))
            have hb0 : Below w.heap.size w (((w.alloc (.cells #[.int .i64 cy1, .int .i64 y1, .slice ua xs.length uc] 100)).drewN nq).alloc (.cells #[.int .i64 cy1, .int .i64 y1, .slice ua xs.length uc] 100)) := (below_drewN ((Below.refl _ _).alloc (Nat.le_refl _) (.cells #[.int .i64 cy1, .int .i64 y1, .slice ua xs.length uc] 100)) nq).alloc (by simp) (.cells #[.int .i64 cy1, .int .i64 y1, .slice ua xs.length uc] 100)
            go_wp2
            go_ret
            exact HAP.out _ _ _ _ hb0 hgrow hown3 hat
        · rw [pushB_on s' c _ hno (fun h => hj h.1)]
          have hjb : (c.y1 == y0) = false := beq_eq_false_iff_ne.2 hj
          have HAP : Hid (∀ (w0 w1 : World) (gg cap1 : Nat), Below w.heap.size w w0 → w0.grownBy w1 (some g) → w1.ownsRow base 100 3 (.slice (some ⟨gg, 0, none⟩) (s'.length + 1 + 1) cap1) (s'.length + 1 + 1) (csB (s' ++ [c]) us ++ [.int .i64 y0, .int .i64 y1, .slice ua xs.length uc]) → (some g = some gg ∨ gg = w.heap.size + 2) →
              Pushed w base (.slice (some ⟨g, 0, none⟩) (s'.length + 1) cap) (s' ++ [c] ++ [⟨y0, y1, xs⟩]) (.returned (.slice (some ⟨gg, 0, none⟩) (s'.length + 1 + 1) cap1)) w1) := by
            intro w0 w1 gg cap1 h0 hg ho' hat
            have := Pushed.of_append (base := base) (w0 := w0) (w1 := w1) (gg := gg) (cap := cap1) (y0 := y0) (y1 := y1) hl hx hu hxl (hne hxl) hot h0 hg (by rw [hcl]; exact ho') hat
            rwa [hcl] at this
          clear hot hu hne hux hbase ho hx hl hgt hci hcl hxc hxn hj
          generalize c.y1 = cy1 at k1 hjb
          go_enter Try.func73, Try.ntmps73
          go_wp2_with fail
          go_quiet (fail)
          go_wp2_with (first | (at_builtin; refine wpList_append_lies _ rfl _ _ _ rfl base 100 i0 _ 3 40 Try.underlying69 hi0 hz0 hz1 hz2 rfl (by decide) _ (s'.length + 1) (csB (s' ++ [c]) us) (by rfl) (World.ownsRow.alloc (w := (w.alloc (.cells #[.int .i64 y0, .int .i64 y1, .slice ua xs.length uc] 100)).drewN nq) (HO.out.alloc (.cells #[.int .i64 y0, .int .i64 y1, .slice ua xs.length uc] 100)) _) ⟨w.heap.size + 1, 0, none⟩ 1 1 [.int .i64 y0, .int .i64 y1, .slice ua xs.length uc] (by rfl) (by rfl) (World.news_of_block (cs := #[.int .i64 y0, .int .i64 y1, .slice ua xs.length uc]) (t := 100) (fr := (0, 0)) (by simpa using heap_alloc_new ((w.alloc (.cells #[.int .i64 y0, .int .i64 y1, .slice ua xs.length uc] 100)).drewN nq) (.cells #[.int .i64 y0, .int .i64 y1, .slice ua xs.length uc] 100))) (by simp [Value.oneCell']) (by decide) hA1 hA2 (by simpa using hA3) (w.heap.size + 2) (by simp) ?_; intro gg cap1 w1 hown3 hgrow hat hlt1))
          have hb0 : Below w.heap.size w (((w.alloc (.cells #[.int .i64 y0, .int .i64 y1, .slice ua xs.length uc] 100)).drewN nq).alloc (.cells #[.int .i64 y0, .int .i64 y1, .slice ua xs.length uc] 100)) := (below_drewN ((Below.refl _ _).alloc (Nat.le_refl _) (.cells #[.int .i64 y0, .int .i64 y1, .slice ua xs.length uc] 100)) nq).alloc (by simp) (.cells #[.int .i64 y0, .int .i64 y1, .slice ua xs.length uc] 100)
          go_wp2
          go_ret
          exact HAP.out _ _ _ _ hb0 hgrow hown3 hat

end Go.Proofs.Yteokdmcdhalcfaa
