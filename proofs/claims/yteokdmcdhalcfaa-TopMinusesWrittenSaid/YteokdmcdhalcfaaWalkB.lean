/- The walks: the rectangles of a set, and how many they are (Rects, Many, Told). -/
import Derived.Test.YteokdmcdhalcfaaWalkA
import Derived.Test.YteokdmcdhalcfaaPlainB
import Derived.Deep.RegionHeld3
import Derived.Deep.AppendLies
import Derived.Deep.DrawnRows
namespace Go.Proofs.Yteokdmcdhalcfaa
open Go.RowKit Go.Lib Etch
attribute [local go_sem ↓] Go.wp_at_zero Go.wp_at_succ

theorem infoR : (Try.prog.info? 31).map (fun i => (i.zero, i.size, i.bytes)) = some (some (.agg #[.int .i64 0, .int .i64 0, .int .i64 0, .int .i64 0]), 4, 32) := by kernel_rfl

theorem own_ne_type {w : World} {base : Nat} {e : TypeId} {size : Nat} {v : Value} {n : Nat} {xs : List Value} (h : w.ownsRow base e size v n xs) {g : Nat} {cs : Array Value} {t : TypeId} {fr : Nat × Nat}
    (hg : w.heap[g]? = some (.cells cs t fr)) (ht : t ≠ e) : v.ownBlock ≠ some g := by
  intro hv
  rcases h.2 with ⟨rfl, _⟩ | ⟨g', cap, cur, rfl, _, hg', _⟩
  · simp [Value.ownBlock] at hv
  · simp [Value.ownBlock] at hv
    subst hv
    rw [hg] at hg'
    simp at hg'
    exact ht hg'.2.1

theorem ret_int {k : IntKind} {a b : Int} (h : a = b) : Ending.returned (.int k a) = .returned (.int k b) := by rw [h]

theorem _root_.Go.World.ownsRow.rebase {w : World} {base base' : Nat} {e : TypeId} {size : Nat} {v : Value} {n : Nat} {xs : List Value} (h : w.ownsRow base e size v n xs) (hb : base' ≤ base) : w.ownsRow base' e size v n xs := by
  refine ⟨h.1, ?_⟩
  rcases h.2 with h2 | ⟨g, cap, cur, hv, hg, r⟩
  · exact Or.inl h2
  · exact Or.inr ⟨g, cap, cur, hv, Nat.le_trans hb hg, r⟩

theorem own_ne_low {w : World} {base : Nat} {e : TypeId} {size : Nat} {v : Value} {n : Nat} {xs : List Value} (h : w.ownsRow base e size v n xs) {g : Nat} (hg : g < base) : v.ownBlock ≠ some g := by
  intro hv
  have := (h.lt g hv).1
  omega

set_option maxHeartbeats 1000000 in
set_option maxRecDepth 100000 in
theorem rects_any (v : Value) (s : List Band) (w : World) (h : BandsAt w v s) (hev : ∀ b ∈ s, b.xs.length % 2 = 0) (hmany : (rects s).length ≤ 4398046511104) :
    Calls Try.prog 53 #[v] w fun e w' => ∃ v' : Value, e = .returned v' ∧ w'.ownsRow w.heap.size 31 4 v' (rects s).length (csR (rects s)) ∧ Below w.heap.size w w' := by
  obtain ⟨i0, hi0, hz0, hz1, hz2⟩ := info_parts infoR
  have hu := Try.underlying31
  have hu2 := Try.underlying100
  obtain ⟨a, cap, rfl, hcap, hn, hc⟩ := h.open
  have HC := Lib.hid hc
  have HEV := Lib.hid hev
  clear h hc hev
  go_enter Try.func53, Try.ntmps53
  go_wp2
  go_loopw [3, 9] (fun ov i wr => ∃ k : Nat, k ≤ s.length ∧ i = .int .i64 k ∧ wr.ownsRow w.heap.size 31 4 ov (rects (s.take k)).length (csR (rects (s.take k))) ∧ Below w.heap.size w wr) (fun _ i _ => s.length - (intOf i).toNat)
  case atStart => exact ⟨0, Nat.zero_le _, rfl, World.ownsRow_nil _ _ _ _, Below.refl _ _⟩
  case round =>
    obtain ⟨k, hk, rfl, hown, hb⟩ := hrel
    by_cases hlt : k < s.length
    · obtain ⟨b, o, rfl, hbs, hcell⟩ := HC.out (by omega)
      obtain ⟨u, hux, g0, g1, g2⟩ := hcell k hlt
      have e0 := (hb.cell (p := ⟨b, o + k * 3, none⟩) hbs).trans g0
      have e1 := (hb.cell (p := ⟨b, o + k * 3 + 1, none⟩) hbs).trans g1
      have e2 := (hb.cell (p := ⟨b, o + k * 3 + 2, none⟩) hbs).trans g2
      have HE := HEV.out s[k] (List.getElem_mem hlt)
      have HS := Lib.hid (rects_step s k hlt)
      have HP := Lib.hid (rects_part_le s k hlt)
      clear hcell g0 g1 g2
      generalize s[k].y0 = y0 at e0 HS
      generalize s[k].y1 = y1 at e1 HS
      generalize s[k].xs = xs at hux HE HS HP
      have HEx := Lib.hid HE
      clear HE
      generalize hR : rects (s.take k) = R0 at hown HS HP
      have HR := Lib.hid hR
      clear hR
      obtain ⟨ua, ucap, rfl, hucap, hun, hux⟩ := hux.open
      have HUX := Lib.hid hux
      clear hux
      obtain ⟨wo, rfl⟩ : ∃ wo : World, wo = wr := ⟨_, rfl⟩
      go_wp2
      go_loopw [3, 6] (fun v3 i wr => ∃ m : Nat, m ≤ xs.length ∧ m % 2 = 0 ∧ i = .int .i64 m ∧ wr.ownsRow w.heap.size 31 4 v3 (R0 ++ bandRects y0 y1 (xs.take m)).length (csR (R0 ++ bandRects y0 y1 (xs.take m))) ∧
          wr.heap[wo.heap.size]? = some (.cells #[.int .i64 y0, .int .i64 y1, .slice ua xs.length ucap] 100 (0, 0)) ∧ Below w.heap.size w wr) (fun _ i _ => xs.length - (intOf i).toNat)
      case atStart =>
        exact ⟨0, Nat.zero_le _, rfl, rfl, by simpa [bandRects] using hown.alloc _, heap_alloc_new wo _, hb.alloc hb.size _⟩
      case round =>
        obtain ⟨m, hm, hme, rfl, hown2, hbox, hb2⟩ := hrel
        clear hown
        have q0 : wr.cell? ⟨wo.heap.size, 0, none⟩ = some (.int .i64 y0) := by unfold World.cell?; rw [hbox]; rfl
        have q1 : wr.cell? ⟨wo.heap.size, 1, none⟩ = some (.int .i64 y1) := by unfold World.cell?; rw [hbox]; rfl
        have q2 : wr.cell? ⟨wo.heap.size, 2, none⟩ = some (.slice ua xs.length ucap) := by unfold World.cell?; rw [hbox]; rfl
        by_cases hmt : m < xs.length
        · have hm1 : m + 1 < xs.length := by have := HEx.out; omega
          obtain ⟨bu, ou, rfl, hbu, hxc⟩ := HUX.out (by omega)
          have hx0 := (hb2.cell (p := ⟨bu, ou + m, none⟩) hbu).trans (hxc m hmt)
          have hx1 := (hb2.cell (p := ⟨bu, ou + (m + 1), none⟩) hbu).trans (hxc (m + 1) hm1)
          have HST := Lib.hid (bandRects_step y0 y1 xs m hm1 hme)
          clear hxc
          generalize xs[m] = x0 at hx0 HST
          generalize xs[m + 1] = x1 at hx1 HST
          have nb : u3.ownBlock ≠ some wo.heap.size := own_ne_type hown2 hbox (by decide)
          have nu : u3.ownBlock ≠ some bu := own_ne_low hown2 hbu
          have lb := (Array.getElem?_eq_some_iff.1 hbox).1
          have lu : bu < wr.heap.size := Nat.lt_of_lt_of_le hbu hb2.size
          have hz0i : (0 : Int) ≤ (m : Int) := by omega
          have hz1i : (m : Int) < (xs.length : Int) := by omega
          have hz2i : (0 : Int) ≤ (m : Int) + 1 := by omega
          have hz3i : (m : Int) + 1 < (xs.length : Int) := by omega
          generalize hacc : R0 ++ bandRects y0 y1 (xs.take m) = acc at hown2
          have hal : acc.length + 1 ≤ 4398046511104 := by
            have := HP.out (m + 2) (by omega)
            rw [← hacc, List.length_append, bandRects_length, List.length_take]; omega
          have HACC := Lib.hid hacc
          clear hacc
          have hA1 : acc.length + 1 ≤ maxLen := by unfold maxLen; omega
          have hA2 : (acc.length + 1) * 32 ≤ 140737488355328 := by omega
          have hA3 : w.heap.size ≤ wr.heap.size + 1 := by have := hb2.size; omega
          have hA4 : bu < wr.heap.size + 1 := by omega
          have hA5 : wo.heap.size < wr.heap.size + 1 := by omega
          have hwr : IntKind.i64.wrap ((m : Int) + 1) = (m : Int) + 1 := IntWalk.i64_in _ (by omega)
          have hwn : ((m : Int) + 1).toNat = m + 1 := by omega
          go_wp2_with fail
          go_region_held3 (fun w' => w'.cell? ⟨wo.heap.size, 0, none⟩ = some (.int .i64 y0) ∧ w'.cell? ⟨wo.heap.size, 1, none⟩ = some (.int .i64 y1) ∧ w'.cell? ⟨wo.heap.size, 2, none⟩ = some (.slice (some ⟨bu, ou, none⟩) xs.length ucap) ∧
              w'.cell? ⟨bu, ou + m, none⟩ = some (.int .i64 x0) ∧ w'.cell? ⟨bu, ou + (m + 1), none⟩ = some (.int .i64 x1))
            (first
              | go_keep
              | (go_split_ands
                 refine ⟨?_, ?_, ?_, ?_, ?_⟩
                 · (rw [hgrow.cell_far _ (by simpa using hA5) (Ne.symm nb)]; assumption)
                 · (rw [hgrow.cell_far _ (by simpa using hA5) (Ne.symm nb)]; assumption)
                 · (rw [hgrow.cell_far _ (by simpa using hA5) (Ne.symm nb)]; assumption)
                 · (rw [hgrow.cell_far _ (by simpa using hA4) (Ne.symm nu)]; assumption)
                 · (rw [hgrow.cell_far _ (by simpa using hA4) (Ne.symm nu)]; assumption)))
            ((refine step_append_lies _ (by rfl) _ _ _ (by rfl) w.heap.size 31 i0 _ 4 32 Try.underlying22 hi0 hz0 hz1 hz2 rfl (by decide) u3 acc.length (csR acc) (by rfl) ((hown2.alloc _).drew)
                ⟨wr.heap.size, 0, none⟩ 1 1 [.int .i64 x0, .int .i64 y0, .int .i64 x1, .int .i64 y1] (by rfl) (by rfl) (World.news_of_block (cs := #[.int .i64 x0, .int .i64 y0, .int .i64 x1, .int .i64 y1]) (t := 31) (fr := (0, 0)) (heap_alloc_new wr _)) (by simp [Value.oneCell'])
                (by decide) hA1 hA2 (by simpa using hA3) (wr.heap.size + 1) (by simp) ?_; intro gg cap1 w1 hown3 hgrow hat hlt1))
          clear hwr hwn hA4 hA5
          go_wp2
          go_roundw
          case rel =>
            refine ⟨m + 2, by omega, by omega, by go_num, ?_, ?_, ?_⟩
            · have e : R0 ++ bandRects y0 y1 (xs.take (m + 2)) = acc ++ [⟨x0, y0, x1, y1⟩] := by rw [HST.out, ← HACC.out, List.append_assoc]
              rw [e, csR_append, List.length_append]
              exact hown3
            · rw [hgrow.block _ (by simp; omega) (by intro e; exact nb e.symm)]
              show (wr.alloc _).heap[wo.heap.size]? = _
              rw [Below.heap_alloc wr _ _ lb]; exact hbox
            · exact ((hb2.alloc hb2.size _).drew).grown hgrow (by have := hb2.size; simp; omega) (fun k hk => (hown2.lt k hk).1)
          case measure => simp [intOf]; omega
        · have hd : ¬ (m : Int) < (xs.length : Int) := by omega
          go_wp2
          go_roundw
          case rel =>
            refine ⟨k + 1, by omega, by go_num, ?_, hb2⟩
            have e : rects (s.take (k + 1)) = R0 ++ bandRects y0 y1 (xs.take m) := by rw [HS.out, show m = xs.length from by omega, List.take_length]
            rw [e]; exact hown2
          case measure => simp [intOf]; omega
    · have hd : ¬ (k : Int) < (s.length : Int) := by omega
      go_wp2
      go_ret
      refine ⟨_, rfl, ?_, hb⟩
      rw [show k = s.length from by omega, List.take_length] at hown
      exact hown

set_option maxHeartbeats 1000000 in
set_option maxRecDepth 100000 in
theorem many_any (v : Value) (s : List Band) (w : World) (h : BandsAt w v s) (hmany : (rects s).length ≤ 4398046511104) :
    Calls Try.prog 76 #[v] w fun e w' => e = .returned (.int .i64 ((rects s).length : Int)) ∧ Below w.heap.size w w' := by
  have hu2 := Try.underlying100
  obtain ⟨a, cap, rfl, hcap, hn, hc⟩ := h.open
  have HC := Lib.hid hc
  clear h hc
  go_enter Try.func76, Try.ntmps76
  go_wp2
  go_loopw [3, 8] (fun t i wr => ∃ k : Nat, k ≤ s.length ∧ i = .int .i64 k ∧ t = .int .i64 ((rects (s.take k)).length : Int) ∧ Below w.heap.size w wr) (fun _ i _ => s.length - (intOf i).toNat)
  case atStart => exact ⟨0, Nat.zero_le _, rfl, rfl, Below.refl _ _⟩
  case round =>
    obtain ⟨k, hk, rfl, rfl, hb⟩ := hrel
    by_cases hlt : k < s.length
    · obtain ⟨b, o, rfl, hbs, hcell⟩ := HC.out (by omega)
      obtain ⟨u, hux, g0, g1, g2⟩ := hcell k hlt
      have e0 := (hb.cell (p := ⟨b, o + k * 3, none⟩) hbs).trans g0
      have e1 := (hb.cell (p := ⟨b, o + k * 3 + 1, none⟩) hbs).trans g1
      have e2 := (hb.cell (p := ⟨b, o + k * 3 + 2, none⟩) hbs).trans g2
      have hS : (rects (s.take (k + 1))).length = (rects (s.take k)).length + s[k].xs.length / 2 := by rw [rects_step s k hlt, List.length_append, bandRects_length]
      have hP := rects_part_le s k hlt s[k].xs.length (Nat.le_refl _)
      have HS := Lib.hid hS
      clear hcell g0 g1 g2 hS
      generalize s[k].y0 = y0 at e0
      generalize s[k].y1 = y1 at e1
      generalize s[k].xs = xs at hux HS hP
      obtain ⟨ua, ucap, rfl, hucap, hun, -⟩ := hux.open
      have hq : (0 : Int) ≤ (xs.length : Int) := by omega
      generalize hm0 : (rects (s.take k)).length = m0 at HS hP
      have HM := Lib.hid hm0
      clear hm0
      go_wp2
      go_roundw
      case rel =>
        refine ⟨k + 1, by omega, by go_num, ?_, hb.alloc hb.size _⟩
        rw [HS.out]; go_num
      case measure => simp [intOf]; omega
    · have hd : ¬ (k : Int) < (s.length : Int) := by omega
      have HK := Lib.hid (show k = s.length by omega)
      go_wp2
      go_ret
      exact ⟨ret_int (by rw [HK.out, List.take_length]), hb⟩

/-- What a function of two results hands back: rectangles of its own, and a fault. -/
def Gave (w : World) (P : List R → Prop) (e : Ending) (w' : World) : Prop :=
  ∃ (v' : Value) (c : Int) (rs : List R), e = .returned (.tuple #[v', .int .i64 c]) ∧ w'.ownsRow w.heap.size 31 4 v' rs.length (csR rs) ∧ rs.length ≤ 17592186044416 ∧ Below w.heap.size w w' ∧ (c = 0 → P rs) ∧ (c ≠ 0 → v' = .slice none 0 0 ∧ rs = [])

set_option maxHeartbeats 1000000 in
set_option maxRecDepth 100000 in
theorem told_any (v : Value) (s : List Band) (w : World) (h : BandsAt w v s) (hev : ∀ b ∈ s, b.xs.length % 2 = 0) (hmany : (rects s).length ≤ 4398046511104) :
    Calls Try.prog 45 #[v] w (Gave w fun rs => rs = rects s ∧ rs.length ≤ 2000) := by
  have c1 := fun W hW => many_any v s W hW hmany
  have c2 := fun W hW => rects_any v s W hW hev hmany
  have C1 := Lib.hid c1
  have C2 := Lib.hid c2
  have HA := Lib.hid h
  clear c1 c2 h
  by_cases hbig : 2000 < (rects s).length
  · have hbig' : (2000 : Int) < ((rects s).length : Int) := by omega
    generalize (rects s).length = n at hbig hbig' C1 hmany
    go_enter Try.func45, Try.ntmps45
    go_wp2_with (first | (go_at_call 76; refine (C1.out _ HA.out).mono ?_; rintro e w' ⟨rfl, hb⟩) | (go_at_call 53; fail))
    go_ret2
    exact ⟨_, 2, [], rfl, World.ownsRow_nil _ _ _ _, by simp, hb, by omega, fun _ => ⟨rfl, rfl⟩⟩
  · have hbig' : ¬ (2000 : Int) < ((rects s).length : Int) := by omega
    go_enter Try.func45, Try.ntmps45
    go_wp2_with (first | (go_at_call 76; refine (C1.out _ HA.out).mono ?_; rintro e w' ⟨rfl, hb⟩) | (go_at_call 53; refine (C2.out _ (BandsAt.below HA.out hb (Nat.le_refl _))).mono ?_; rintro e w2 ⟨v', rfl, hown, hb2⟩))
    go_ret2
    exact ⟨v', 0, rects s, rfl, hown.rebase hb.size, by omega, hb.trans (hb2.mono hb.size), fun _ => ⟨rfl, by omega⟩, fun h => absurd rfl h⟩

end Go.Proofs.Yteokdmcdhalcfaa
