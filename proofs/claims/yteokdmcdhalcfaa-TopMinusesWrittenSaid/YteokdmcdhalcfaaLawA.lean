/- The laws TopSetsGrouped, TopSetsDistributed, TopMinusesWritten: walk and plain law. (Printed by genlaw.py.) -/
import Derived.Test.YteokdmcdhalcfaaWalkL
namespace Go.Proofs.Yteokdmcdhalcfaa
open Go.RowKit Go.Lib Go.Shelf Go.Sort Etch
attribute [local go_sem ↓] Go.wp_at_zero Go.wp_at_succ

theorem held_start (w : World) (l : List (Value × List R)) (h : ∀ p ∈ l, RectsAt w p.1 p.2) : Held w.heap.size (w.alloc (.cells #[.bool false] 25)) l := by
  intro p hp
  refine ⟨(h p hp).below ((Below.refl _ _).alloc (Nat.le_refl _) _) (Nat.le_refl _), fun h0 e => ?_⟩
  obtain ⟨a, cap, hv, -, -, hc⟩ := h p hp
  obtain ⟨b, o, rfl, hb, -⟩ := hc (by rw [csR_length]; have := List.length_pos_iff.2 h0; omega)
  rw [hv] at e
  simp [Value.ownBlock] at e
  omega


set_option maxHeartbeats 2000000 in
theorem grouped_law {a b c r1 r2 r3 r4 r5 r6 r7 r8 r9 r10 r11 r12 r13 r14 : List R} (h1 : TwoGave (fun p q => p ∨ q) b c r1) (h2 : TwoGave (fun p q => p ∨ q) a r1 r2) (h3 : TwoGave (fun p q => p ∨ q) c a r3) (h4 : TwoGave (fun p q => p ∨ q) r3 b r4) (h5 : TwoGave (fun p q => p ∧ q) b c r5) (h6 : TwoGave (fun p q => p ∧ q) a r5 r6) (h7 : TwoGave (fun p q => p ∧ q) c a r7) (h8 : TwoGave (fun p q => p ∧ q) r7 b r8) (h9 : TwoGave (fun p q => p ∨ q) a a r9) (h10 : TwoGave (fun p q => p ∧ q) a a r10) (h11 : TwoGave (fun p q => p ∧ q) a b r11) (h12 : TwoGave (fun p q => p ∨ q) a r11 r12) (h13 : TwoGave (fun p q => p ∨ q) b a r13) (h14 : TwoGave (fun p q => p ∧ q) r13 a r14) :
    Pairs [r2, r4, r6, r8, r9, a, r10, a, r12, a, r14, a] := by
  obtain ⟨p1, q1, g1, c1⟩ := h1
  obtain ⟨p2, q2, g2, c2⟩ := h2
  obtain ⟨p3, q3, g3, c3⟩ := h3
  obtain ⟨p4, q4, g4, c4⟩ := h4
  obtain ⟨p5, q5, g5, c5⟩ := h5
  obtain ⟨p6, q6, g6, c6⟩ := h6
  obtain ⟨p7, q7, g7, c7⟩ := h7
  obtain ⟨p8, q8, g8, c8⟩ := h8
  obtain ⟨p9, q9, g9, c9⟩ := h9
  obtain ⟨p10, q10, g10, c10⟩ := h10
  obtain ⟨p11, q11, g11, c11⟩ := h11
  obtain ⟨p12, q12, g12, c12⟩ := h12
  obtain ⟨p13, q13, g13, c13⟩ := h13
  obtain ⟨p14, q14, g14, c14⟩ := h14
  refine ⟨reg_unique g2 g4 fun x y => ?_, reg_unique g6 g8 fun x y => ?_, reg_unique g9 p2.2.2 fun x y => ?_, reg_unique g10 p2.2.2 fun x y => ?_, reg_unique g12 p2.2.2 fun x y => ?_, reg_unique g14 p2.2.2 fun x y => ?_, trivial⟩
  all_goals
    simp only [c1, c2, c3, c4, c5, c6, c7, c8, c9, c10, c11, c12, c13, c14]
    by_cases ka : cov a x y <;> by_cases kb : cov b x y <;> by_cases kc : cov c x y <;> simp [ka, kb, kc]

set_option maxHeartbeats 4000000 in
set_option maxRecDepth 100000 in
theorem grouped_any (va vb vc : Value) (a b c : List R) (w : World) (ha : RectsAt w va a) (hb : RectsAt w vb b) (hc : RectsAt w vc c) :
    Calls Try.prog 3 #[va, vb, vc] w fun e w' => e = .returned (.bool true) ∧ Below w.heap.size w w' := by
  have hub := Try.underlying25
  have HH0 : Hid (Held w.heap.size (w.alloc (.cells #[.bool false] 25)) [(va, a), (vb, b), (vc, c)]) := held_start w [(va, a), (vb, b), (vc, c)] (by intro p hp; simp only [List.mem_cons, List.not_mem_nil, or_false] at hp; rcases hp with rfl | rfl | rfl <;> assumption)
  have HD0 : Hid (Dat (w.alloc (.cells #[.bool false] 25)) w.heap.size false) := heap_alloc_new w _
  have HG0 : Hid (Below w.heap.size w (w.alloc (.cells #[.bool false] 25))) := (Below.refl _ _).alloc (Nat.le_refl _) _
  obtain ⟨xa, ya, rfl⟩ : ∃ x y, va = .slice x a.length y := by obtain ⟨x, y, h, -⟩ := ha; exact ⟨x, y, h⟩
  obtain ⟨xb, yb, rfl⟩ : ∃ x y, vb = .slice x b.length y := by obtain ⟨x, y, h, -⟩ := hb; exact ⟨x, y, h⟩
  obtain ⟨xc, yc, rfl⟩ : ∃ x y, vc = .slice x c.length y := by obtain ⟨x, y, h, -⟩ := hc; exact ⟨x, y, h⟩
  clear ha hb hc
  go_enter Try.func3, Try.ntmps3
  go_wp2_with fail
  refine (dunion_any w.heap.size _ (.slice xb b.length yb) (.slice xc c.length yc) b c _ HD0.out (HH0.out ((.slice xb b.length yb), b) (by simp)) (HH0.out ((.slice xc c.length yc), c) (by simp))).mono ?_
  rintro e w1 ⟨u1, r1, b1, rfl, hr, hd, hg, hp⟩
  obtain ⟨x1, y1, rfl⟩ := hr.shape
  have HH1 := Lib.hid (HH0.out.step hg hr)
  have HD1 := Lib.hid hd
  have HG1 := Lib.hid (HG0.out.grown hg HG0.out.size (fun k hk => by cases hk; exact Nat.le_refl _))
  have HP1 := Lib.hid hp
  clear hr hd hg hp HH0 HD0 HG0
  go_wp2_with fail
  refine (dunion_any w.heap.size _ (.slice xa a.length ya) (.slice x1 r1.length y1) a r1 _ HD1.out (HH1.out ((.slice xa a.length ya), a) (by simp)) (HH1.out ((.slice x1 r1.length y1), r1) (by simp))).mono ?_
  rintro e w2 ⟨u2, r2, b2, rfl, hr, hd, hg, hp⟩
  obtain ⟨x2, y2, rfl⟩ := hr.shape
  have HH2 := Lib.hid (HH1.out.step hg hr)
  have HD2 := Lib.hid hd
  have HG2 := Lib.hid (HG1.out.grown hg HG1.out.size (fun k hk => by cases hk; exact Nat.le_refl _))
  have HP2 := Lib.hid hp
  clear hr hd hg hp HH1 HD1 HG1
  go_wp2_with fail
  refine (dunion_any w.heap.size _ (.slice xc c.length yc) (.slice xa a.length ya) c a _ HD2.out (HH2.out ((.slice xc c.length yc), c) (by simp)) (HH2.out ((.slice xa a.length ya), a) (by simp))).mono ?_
  rintro e w3 ⟨u3, r3, b3, rfl, hr, hd, hg, hp⟩
  obtain ⟨x3, y3, rfl⟩ := hr.shape
  have HH3 := Lib.hid (HH2.out.step hg hr)
  have HD3 := Lib.hid hd
  have HG3 := Lib.hid (HG2.out.grown hg HG2.out.size (fun k hk => by cases hk; exact Nat.le_refl _))
  have HP3 := Lib.hid hp
  clear hr hd hg hp HH2 HD2 HG2
  go_wp2_with fail
  refine (dunion_any w.heap.size _ (.slice x3 r3.length y3) (.slice xb b.length yb) r3 b _ HD3.out (HH3.out ((.slice x3 r3.length y3), r3) (by simp)) (HH3.out ((.slice xb b.length yb), b) (by simp))).mono ?_
  rintro e w4 ⟨u4, r4, b4, rfl, hr, hd, hg, hp⟩
  obtain ⟨x4, y4, rfl⟩ := hr.shape
  have HH4 := Lib.hid (HH3.out.step hg hr)
  have HD4 := Lib.hid hd
  have HG4 := Lib.hid (HG3.out.grown hg HG3.out.size (fun k hk => by cases hk; exact Nat.le_refl _))
  have HP4 := Lib.hid hp
  clear hr hd hg hp HH3 HD3 HG3
  go_wp2_with fail
  refine (dboth_any w.heap.size _ (.slice xb b.length yb) (.slice xc c.length yc) b c _ HD4.out (HH4.out ((.slice xb b.length yb), b) (by simp)) (HH4.out ((.slice xc c.length yc), c) (by simp))).mono ?_
  rintro e w5 ⟨u5, r5, b5, rfl, hr, hd, hg, hp⟩
  obtain ⟨x5, y5, rfl⟩ := hr.shape
  have HH5 := Lib.hid (HH4.out.step hg hr)
  have HD5 := Lib.hid hd
  have HG5 := Lib.hid (HG4.out.grown hg HG4.out.size (fun k hk => by cases hk; exact Nat.le_refl _))
  have HP5 := Lib.hid hp
  clear hr hd hg hp HH4 HD4 HG4
  go_wp2_with fail
  refine (dboth_any w.heap.size _ (.slice xa a.length ya) (.slice x5 r5.length y5) a r5 _ HD5.out (HH5.out ((.slice xa a.length ya), a) (by simp)) (HH5.out ((.slice x5 r5.length y5), r5) (by simp))).mono ?_
  rintro e w6 ⟨u6, r6, b6, rfl, hr, hd, hg, hp⟩
  obtain ⟨x6, y6, rfl⟩ := hr.shape
  have HH6 := Lib.hid (HH5.out.step hg hr)
  have HD6 := Lib.hid hd
  have HG6 := Lib.hid (HG5.out.grown hg HG5.out.size (fun k hk => by cases hk; exact Nat.le_refl _))
  have HP6 := Lib.hid hp
  clear hr hd hg hp HH5 HD5 HG5
  go_wp2_with fail
  refine (dboth_any w.heap.size _ (.slice xc c.length yc) (.slice xa a.length ya) c a _ HD6.out (HH6.out ((.slice xc c.length yc), c) (by simp)) (HH6.out ((.slice xa a.length ya), a) (by simp))).mono ?_
  rintro e w7 ⟨u7, r7, b7, rfl, hr, hd, hg, hp⟩
  obtain ⟨x7, y7, rfl⟩ := hr.shape
  have HH7 := Lib.hid (HH6.out.step hg hr)
  have HD7 := Lib.hid hd
  have HG7 := Lib.hid (HG6.out.grown hg HG6.out.size (fun k hk => by cases hk; exact Nat.le_refl _))
  have HP7 := Lib.hid hp
  clear hr hd hg hp HH6 HD6 HG6
  go_wp2_with fail
  refine (dboth_any w.heap.size _ (.slice x7 r7.length y7) (.slice xb b.length yb) r7 b _ HD7.out (HH7.out ((.slice x7 r7.length y7), r7) (by simp)) (HH7.out ((.slice xb b.length yb), b) (by simp))).mono ?_
  rintro e w8 ⟨u8, r8, b8, rfl, hr, hd, hg, hp⟩
  obtain ⟨x8, y8, rfl⟩ := hr.shape
  have HH8 := Lib.hid (HH7.out.step hg hr)
  have HD8 := Lib.hid hd
  have HG8 := Lib.hid (HG7.out.grown hg HG7.out.size (fun k hk => by cases hk; exact Nat.le_refl _))
  have HP8 := Lib.hid hp
  clear hr hd hg hp HH7 HD7 HG7
  go_wp2_with fail
  refine (dunion_any w.heap.size _ (.slice xa a.length ya) (.slice xa a.length ya) a a _ HD8.out (HH8.out ((.slice xa a.length ya), a) (by simp)) (HH8.out ((.slice xa a.length ya), a) (by simp))).mono ?_
  rintro e w9 ⟨u9, r9, b9, rfl, hr, hd, hg, hp⟩
  obtain ⟨x9, y9, rfl⟩ := hr.shape
  have HH9 := Lib.hid (HH8.out.step hg hr)
  have HD9 := Lib.hid hd
  have HG9 := Lib.hid (HG8.out.grown hg HG8.out.size (fun k hk => by cases hk; exact Nat.le_refl _))
  have HP9 := Lib.hid hp
  clear hr hd hg hp HH8 HD8 HG8
  go_wp2_with fail
  refine (dboth_any w.heap.size _ (.slice xa a.length ya) (.slice xa a.length ya) a a _ HD9.out (HH9.out ((.slice xa a.length ya), a) (by simp)) (HH9.out ((.slice xa a.length ya), a) (by simp))).mono ?_
  rintro e w10 ⟨u10, r10, b10, rfl, hr, hd, hg, hp⟩
  obtain ⟨x10, y10, rfl⟩ := hr.shape
  have HH10 := Lib.hid (HH9.out.step hg hr)
  have HD10 := Lib.hid hd
  have HG10 := Lib.hid (HG9.out.grown hg HG9.out.size (fun k hk => by cases hk; exact Nat.le_refl _))
  have HP10 := Lib.hid hp
  clear hr hd hg hp HH9 HD9 HG9
  go_wp2_with fail
  refine (dboth_any w.heap.size _ (.slice xa a.length ya) (.slice xb b.length yb) a b _ HD10.out (HH10.out ((.slice xa a.length ya), a) (by simp)) (HH10.out ((.slice xb b.length yb), b) (by simp))).mono ?_
  rintro e w11 ⟨u11, r11, b11, rfl, hr, hd, hg, hp⟩
  obtain ⟨x11, y11, rfl⟩ := hr.shape
  have HH11 := Lib.hid (HH10.out.step hg hr)
  have HD11 := Lib.hid hd
  have HG11 := Lib.hid (HG10.out.grown hg HG10.out.size (fun k hk => by cases hk; exact Nat.le_refl _))
  have HP11 := Lib.hid hp
  clear hr hd hg hp HH10 HD10 HG10
  go_wp2_with fail
  refine (dunion_any w.heap.size _ (.slice xa a.length ya) (.slice x11 r11.length y11) a r11 _ HD11.out (HH11.out ((.slice xa a.length ya), a) (by simp)) (HH11.out ((.slice x11 r11.length y11), r11) (by simp))).mono ?_
  rintro e w12 ⟨u12, r12, b12, rfl, hr, hd, hg, hp⟩
  obtain ⟨x12, y12, rfl⟩ := hr.shape
  have HH12 := Lib.hid (HH11.out.step hg hr)
  have HD12 := Lib.hid hd
  have HG12 := Lib.hid (HG11.out.grown hg HG11.out.size (fun k hk => by cases hk; exact Nat.le_refl _))
  have HP12 := Lib.hid hp
  clear hr hd hg hp HH11 HD11 HG11
  go_wp2_with fail
  refine (dunion_any w.heap.size _ (.slice xb b.length yb) (.slice xa a.length ya) b a _ HD12.out (HH12.out ((.slice xb b.length yb), b) (by simp)) (HH12.out ((.slice xa a.length ya), a) (by simp))).mono ?_
  rintro e w13 ⟨u13, r13, b13, rfl, hr, hd, hg, hp⟩
  obtain ⟨x13, y13, rfl⟩ := hr.shape
  have HH13 := Lib.hid (HH12.out.step hg hr)
  have HD13 := Lib.hid hd
  have HG13 := Lib.hid (HG12.out.grown hg HG12.out.size (fun k hk => by cases hk; exact Nat.le_refl _))
  have HP13 := Lib.hid hp
  clear hr hd hg hp HH12 HD12 HG12
  go_wp2_with fail
  refine (dboth_any w.heap.size _ (.slice x13 r13.length y13) (.slice xa a.length ya) r13 a _ HD13.out (HH13.out ((.slice x13 r13.length y13), r13) (by simp)) (HH13.out ((.slice xa a.length ya), a) (by simp))).mono ?_
  rintro e w14 ⟨u14, r14, b14, rfl, hr, hd, hg, hp⟩
  obtain ⟨x14, y14, rfl⟩ := hr.shape
  have HH14 := Lib.hid (HH13.out.step hg hr)
  have HD14 := Lib.hid hd
  have HG14 := Lib.hid (HG13.out.grown hg HG13.out.size (fun k hk => by cases hk; exact Nat.le_refl _))
  have HP14 := Lib.hid hp
  clear hr hd hg hp HH13 HD13 HG13
  go_wp2_with fail
  have HAB : Hid (Below w14.heap.size w14 (w14.alloc (.cells #[.slice x2 r2.length y2, .slice x4 r4.length y4, .slice x6 r6.length y6, .slice x8 r8.length y8, .slice x9 r9.length y9, .slice xa a.length ya, .slice x10 r10.length y10, .slice xa a.length ya, .slice x12 r12.length y12, .slice xa a.length ya, .slice x14 r14.length y14, .slice xa a.length ya] 22))) := (Below.refl _ _).alloc (Nat.le_refl _) _
  have HDL : Hid (Dat (w14.alloc (.cells #[.slice x2 r2.length y2, .slice x4 r4.length y4, .slice x6 r6.length y6, .slice x8 r8.length y8, .slice x9 r9.length y9, .slice xa a.length ya, .slice x10 r10.length y10, .slice xa a.length ya, .slice x12 r12.length y12, .slice xa a.length ya, .slice x14 r14.length y14, .slice xa a.length ya] 22)) w.heap.size b14) := box_grown HD14.out (grownBy_of_below none HAB.out) (by simp)
  have hnew : (w14.alloc (.cells #[.slice x2 r2.length y2, .slice x4 r4.length y4, .slice x6 r6.length y6, .slice x8 r8.length y8, .slice x9 r9.length y9, .slice xa a.length ya, .slice x10 r10.length y10, .slice xa a.length ya, .slice x12 r12.length y12, .slice xa a.length ya, .slice x14 r14.length y14, .slice xa a.length ya] 22)).heap[w14.heap.size]? = some (.cells #[.slice x2 r2.length y2, .slice x4 r4.length y4, .slice x6 r6.length y6, .slice x8 r8.length y8, .slice x9 r9.length y9, .slice xa a.length ya, .slice x10 r10.length y10, .slice xa a.length ya, .slice x12 r12.length y12, .slice xa a.length ya, .slice x14 r14.length y14, .slice xa a.length ya] 22 (0, 0)) := heap_alloc_new w14 _
  refine (wtold_held w.heap.size b14 w14.heap.size 12 [((.slice x2 r2.length y2), r2), ((.slice x4 r4.length y4), r4), ((.slice x6 r6.length y6), r6), ((.slice x8 r8.length y8), r8), ((.slice x9 r9.length y9), r9), ((.slice xa a.length ya), a), ((.slice x10 r10.length y10), r10), ((.slice xa a.length ya), a), ((.slice x12 r12.length y12), r12), ((.slice xa a.length ya), a), ((.slice x14 r14.length y14), r14), ((.slice xa a.length ya), a)] _ HDL.out rfl hnew ?_ ?_ (by omega)).mono ?_
  · intro p hp
    have hm : p ∈ [((.slice x14 r14.length y14), r14), ((.slice x13 r13.length y13), r13), ((.slice x12 r12.length y12), r12), ((.slice x11 r11.length y11), r11), ((.slice x10 r10.length y10), r10), ((.slice x9 r9.length y9), r9), ((.slice x8 r8.length y8), r8), ((.slice x7 r7.length y7), r7), ((.slice x6 r6.length y6), r6), ((.slice x5 r5.length y5), r5), ((.slice x4 r4.length y4), r4), ((.slice x3 r3.length y3), r3), ((.slice x2 r2.length y2), r2), ((.slice x1 r1.length y1), r1), ((.slice xa a.length ya), a), ((.slice xb b.length yb), b), ((.slice xc c.length yc), c)] := by
      simp only [List.mem_cons, List.not_mem_nil, or_false] at hp ⊢
      rcases hp with h | h | h | h | h | h | h | h | h | h | h | h <;> (subst h; simp)
    exact (HH14.out p hm).at_.below HAB.out (Nat.le_refl _)
  · intro hb14
    obtain ⟨hb13, k14⟩ := HP14.out hb14
    obtain ⟨hb12, k13⟩ := HP13.out hb13
    obtain ⟨hb11, k12⟩ := HP12.out hb12
    obtain ⟨hb10, k11⟩ := HP11.out hb11
    obtain ⟨hb9, k10⟩ := HP10.out hb10
    obtain ⟨hb8, k9⟩ := HP9.out hb9
    obtain ⟨hb7, k8⟩ := HP8.out hb8
    obtain ⟨hb6, k7⟩ := HP7.out hb7
    obtain ⟨hb5, k6⟩ := HP6.out hb6
    obtain ⟨hb4, k5⟩ := HP5.out hb5
    obtain ⟨hb3, k4⟩ := HP4.out hb4
    obtain ⟨hb2, k3⟩ := HP3.out hb3
    obtain ⟨hb1, k2⟩ := HP2.out hb2
    obtain ⟨hb0, k1⟩ := HP1.out hb1
    exact grouped_law k1 k2 k3 k4 k5 k6 k7 k8 k9 k10 k11 k12 k13 k14
  · rintro e w' ⟨rfl, hb⟩
    have HF : Hid (Below w.heap.size w w') := (HG14.out.trans (HAB.out.mono HG14.out.size)).trans (hb.mono (HG14.out.trans (HAB.out.mono HG14.out.size)).size)
    clear hb
    go_wp2
    go_ret
    exact ⟨rfl, HF.out⟩

set_option maxHeartbeats 2000000 in
theorem distributed_law {a b c r1 r2 r3 r4 r5 r6 r7 r8 r9 r10 : List R} (h1 : TwoGave (fun p q => p ∨ q) b c r1) (h2 : TwoGave (fun p q => p ∧ q) a r1 r2) (h3 : TwoGave (fun p q => p ∧ q) a b r3) (h4 : TwoGave (fun p q => p ∧ q) a c r4) (h5 : TwoGave (fun p q => p ∨ q) r3 r4 r5) (h6 : TwoGave (fun p q => p ∧ q) b c r6) (h7 : TwoGave (fun p q => p ∨ q) a r6 r7) (h8 : TwoGave (fun p q => p ∨ q) a b r8) (h9 : TwoGave (fun p q => p ∨ q) a c r9) (h10 : TwoGave (fun p q => p ∧ q) r8 r9 r10) :
    Pairs [r2, r5, r7, r10] := by
  obtain ⟨p1, q1, g1, c1⟩ := h1
  obtain ⟨p2, q2, g2, c2⟩ := h2
  obtain ⟨p3, q3, g3, c3⟩ := h3
  obtain ⟨p4, q4, g4, c4⟩ := h4
  obtain ⟨p5, q5, g5, c5⟩ := h5
  obtain ⟨p6, q6, g6, c6⟩ := h6
  obtain ⟨p7, q7, g7, c7⟩ := h7
  obtain ⟨p8, q8, g8, c8⟩ := h8
  obtain ⟨p9, q9, g9, c9⟩ := h9
  obtain ⟨p10, q10, g10, c10⟩ := h10
  refine ⟨reg_unique g2 g5 fun x y => ?_, reg_unique g7 g10 fun x y => ?_, trivial⟩
  all_goals
    simp only [c1, c2, c3, c4, c5, c6, c7, c8, c9, c10]
    by_cases ka : cov a x y <;> by_cases kb : cov b x y <;> by_cases kc : cov c x y <;> simp [ka, kb, kc]

set_option maxHeartbeats 4000000 in
set_option maxRecDepth 100000 in
theorem distributed_any (va vb vc : Value) (a b c : List R) (w : World) (ha : RectsAt w va a) (hb : RectsAt w vb b) (hc : RectsAt w vc c) :
    Calls Try.prog 4 #[va, vb, vc] w fun e w' => e = .returned (.bool true) ∧ Below w.heap.size w w' := by
  have hub := Try.underlying25
  have HH0 : Hid (Held w.heap.size (w.alloc (.cells #[.bool false] 25)) [(va, a), (vb, b), (vc, c)]) := held_start w [(va, a), (vb, b), (vc, c)] (by intro p hp; simp only [List.mem_cons, List.not_mem_nil, or_false] at hp; rcases hp with rfl | rfl | rfl <;> assumption)
  have HD0 : Hid (Dat (w.alloc (.cells #[.bool false] 25)) w.heap.size false) := heap_alloc_new w _
  have HG0 : Hid (Below w.heap.size w (w.alloc (.cells #[.bool false] 25))) := (Below.refl _ _).alloc (Nat.le_refl _) _
  obtain ⟨xa, ya, rfl⟩ : ∃ x y, va = .slice x a.length y := by obtain ⟨x, y, h, -⟩ := ha; exact ⟨x, y, h⟩
  obtain ⟨xb, yb, rfl⟩ : ∃ x y, vb = .slice x b.length y := by obtain ⟨x, y, h, -⟩ := hb; exact ⟨x, y, h⟩
  obtain ⟨xc, yc, rfl⟩ : ∃ x y, vc = .slice x c.length y := by obtain ⟨x, y, h, -⟩ := hc; exact ⟨x, y, h⟩
  clear ha hb hc
  go_enter Try.func4, Try.ntmps4
  go_wp2_with fail
  refine (dunion_any w.heap.size _ (.slice xb b.length yb) (.slice xc c.length yc) b c _ HD0.out (HH0.out ((.slice xb b.length yb), b) (by simp)) (HH0.out ((.slice xc c.length yc), c) (by simp))).mono ?_
  rintro e w1 ⟨u1, r1, b1, rfl, hr, hd, hg, hp⟩
  obtain ⟨x1, y1, rfl⟩ := hr.shape
  have HH1 := Lib.hid (HH0.out.step hg hr)
  have HD1 := Lib.hid hd
  have HG1 := Lib.hid (HG0.out.grown hg HG0.out.size (fun k hk => by cases hk; exact Nat.le_refl _))
  have HP1 := Lib.hid hp
  clear hr hd hg hp HH0 HD0 HG0
  go_wp2_with fail
  refine (dboth_any w.heap.size _ (.slice xa a.length ya) (.slice x1 r1.length y1) a r1 _ HD1.out (HH1.out ((.slice xa a.length ya), a) (by simp)) (HH1.out ((.slice x1 r1.length y1), r1) (by simp))).mono ?_
  rintro e w2 ⟨u2, r2, b2, rfl, hr, hd, hg, hp⟩
  obtain ⟨x2, y2, rfl⟩ := hr.shape
  have HH2 := Lib.hid (HH1.out.step hg hr)
  have HD2 := Lib.hid hd
  have HG2 := Lib.hid (HG1.out.grown hg HG1.out.size (fun k hk => by cases hk; exact Nat.le_refl _))
  have HP2 := Lib.hid hp
  clear hr hd hg hp HH1 HD1 HG1
  go_wp2_with fail
  refine (dboth_any w.heap.size _ (.slice xa a.length ya) (.slice xb b.length yb) a b _ HD2.out (HH2.out ((.slice xa a.length ya), a) (by simp)) (HH2.out ((.slice xb b.length yb), b) (by simp))).mono ?_
  rintro e w3 ⟨u3, r3, b3, rfl, hr, hd, hg, hp⟩
  obtain ⟨x3, y3, rfl⟩ := hr.shape
  have HH3 := Lib.hid (HH2.out.step hg hr)
  have HD3 := Lib.hid hd
  have HG3 := Lib.hid (HG2.out.grown hg HG2.out.size (fun k hk => by cases hk; exact Nat.le_refl _))
  have HP3 := Lib.hid hp
  clear hr hd hg hp HH2 HD2 HG2
  go_wp2_with fail
  refine (dboth_any w.heap.size _ (.slice xa a.length ya) (.slice xc c.length yc) a c _ HD3.out (HH3.out ((.slice xa a.length ya), a) (by simp)) (HH3.out ((.slice xc c.length yc), c) (by simp))).mono ?_
  rintro e w4 ⟨u4, r4, b4, rfl, hr, hd, hg, hp⟩
  obtain ⟨x4, y4, rfl⟩ := hr.shape
  have HH4 := Lib.hid (HH3.out.step hg hr)
  have HD4 := Lib.hid hd
  have HG4 := Lib.hid (HG3.out.grown hg HG3.out.size (fun k hk => by cases hk; exact Nat.le_refl _))
  have HP4 := Lib.hid hp
  clear hr hd hg hp HH3 HD3 HG3
  go_wp2_with fail
  refine (dunion_any w.heap.size _ (.slice x3 r3.length y3) (.slice x4 r4.length y4) r3 r4 _ HD4.out (HH4.out ((.slice x3 r3.length y3), r3) (by simp)) (HH4.out ((.slice x4 r4.length y4), r4) (by simp))).mono ?_
  rintro e w5 ⟨u5, r5, b5, rfl, hr, hd, hg, hp⟩
  obtain ⟨x5, y5, rfl⟩ := hr.shape
  have HH5 := Lib.hid (HH4.out.step hg hr)
  have HD5 := Lib.hid hd
  have HG5 := Lib.hid (HG4.out.grown hg HG4.out.size (fun k hk => by cases hk; exact Nat.le_refl _))
  have HP5 := Lib.hid hp
  clear hr hd hg hp HH4 HD4 HG4
  go_wp2_with fail
  refine (dboth_any w.heap.size _ (.slice xb b.length yb) (.slice xc c.length yc) b c _ HD5.out (HH5.out ((.slice xb b.length yb), b) (by simp)) (HH5.out ((.slice xc c.length yc), c) (by simp))).mono ?_
  rintro e w6 ⟨u6, r6, b6, rfl, hr, hd, hg, hp⟩
  obtain ⟨x6, y6, rfl⟩ := hr.shape
  have HH6 := Lib.hid (HH5.out.step hg hr)
  have HD6 := Lib.hid hd
  have HG6 := Lib.hid (HG5.out.grown hg HG5.out.size (fun k hk => by cases hk; exact Nat.le_refl _))
  have HP6 := Lib.hid hp
  clear hr hd hg hp HH5 HD5 HG5
  go_wp2_with fail
  refine (dunion_any w.heap.size _ (.slice xa a.length ya) (.slice x6 r6.length y6) a r6 _ HD6.out (HH6.out ((.slice xa a.length ya), a) (by simp)) (HH6.out ((.slice x6 r6.length y6), r6) (by simp))).mono ?_
  rintro e w7 ⟨u7, r7, b7, rfl, hr, hd, hg, hp⟩
  obtain ⟨x7, y7, rfl⟩ := hr.shape
  have HH7 := Lib.hid (HH6.out.step hg hr)
  have HD7 := Lib.hid hd
  have HG7 := Lib.hid (HG6.out.grown hg HG6.out.size (fun k hk => by cases hk; exact Nat.le_refl _))
  have HP7 := Lib.hid hp
  clear hr hd hg hp HH6 HD6 HG6
  go_wp2_with fail
  refine (dunion_any w.heap.size _ (.slice xa a.length ya) (.slice xb b.length yb) a b _ HD7.out (HH7.out ((.slice xa a.length ya), a) (by simp)) (HH7.out ((.slice xb b.length yb), b) (by simp))).mono ?_
  rintro e w8 ⟨u8, r8, b8, rfl, hr, hd, hg, hp⟩
  obtain ⟨x8, y8, rfl⟩ := hr.shape
  have HH8 := Lib.hid (HH7.out.step hg hr)
  have HD8 := Lib.hid hd
  have HG8 := Lib.hid (HG7.out.grown hg HG7.out.size (fun k hk => by cases hk; exact Nat.le_refl _))
  have HP8 := Lib.hid hp
  clear hr hd hg hp HH7 HD7 HG7
  go_wp2_with fail
  refine (dunion_any w.heap.size _ (.slice xa a.length ya) (.slice xc c.length yc) a c _ HD8.out (HH8.out ((.slice xa a.length ya), a) (by simp)) (HH8.out ((.slice xc c.length yc), c) (by simp))).mono ?_
  rintro e w9 ⟨u9, r9, b9, rfl, hr, hd, hg, hp⟩
  obtain ⟨x9, y9, rfl⟩ := hr.shape
  have HH9 := Lib.hid (HH8.out.step hg hr)
  have HD9 := Lib.hid hd
  have HG9 := Lib.hid (HG8.out.grown hg HG8.out.size (fun k hk => by cases hk; exact Nat.le_refl _))
  have HP9 := Lib.hid hp
  clear hr hd hg hp HH8 HD8 HG8
  go_wp2_with fail
  refine (dboth_any w.heap.size _ (.slice x8 r8.length y8) (.slice x9 r9.length y9) r8 r9 _ HD9.out (HH9.out ((.slice x8 r8.length y8), r8) (by simp)) (HH9.out ((.slice x9 r9.length y9), r9) (by simp))).mono ?_
  rintro e w10 ⟨u10, r10, b10, rfl, hr, hd, hg, hp⟩
  obtain ⟨x10, y10, rfl⟩ := hr.shape
  have HH10 := Lib.hid (HH9.out.step hg hr)
  have HD10 := Lib.hid hd
  have HG10 := Lib.hid (HG9.out.grown hg HG9.out.size (fun k hk => by cases hk; exact Nat.le_refl _))
  have HP10 := Lib.hid hp
  clear hr hd hg hp HH9 HD9 HG9
  go_wp2_with fail
  have HAB : Hid (Below w10.heap.size w10 (w10.alloc (.cells #[.slice x2 r2.length y2, .slice x5 r5.length y5, .slice x7 r7.length y7, .slice x10 r10.length y10] 22))) := (Below.refl _ _).alloc (Nat.le_refl _) _
  have HDL : Hid (Dat (w10.alloc (.cells #[.slice x2 r2.length y2, .slice x5 r5.length y5, .slice x7 r7.length y7, .slice x10 r10.length y10] 22)) w.heap.size b10) := box_grown HD10.out (grownBy_of_below none HAB.out) (by simp)
  have hnew : (w10.alloc (.cells #[.slice x2 r2.length y2, .slice x5 r5.length y5, .slice x7 r7.length y7, .slice x10 r10.length y10] 22)).heap[w10.heap.size]? = some (.cells #[.slice x2 r2.length y2, .slice x5 r5.length y5, .slice x7 r7.length y7, .slice x10 r10.length y10] 22 (0, 0)) := heap_alloc_new w10 _
  refine (wtold_held w.heap.size b10 w10.heap.size 4 [((.slice x2 r2.length y2), r2), ((.slice x5 r5.length y5), r5), ((.slice x7 r7.length y7), r7), ((.slice x10 r10.length y10), r10)] _ HDL.out rfl hnew ?_ ?_ (by omega)).mono ?_
  · intro p hp
    have hm : p ∈ [((.slice x10 r10.length y10), r10), ((.slice x9 r9.length y9), r9), ((.slice x8 r8.length y8), r8), ((.slice x7 r7.length y7), r7), ((.slice x6 r6.length y6), r6), ((.slice x5 r5.length y5), r5), ((.slice x4 r4.length y4), r4), ((.slice x3 r3.length y3), r3), ((.slice x2 r2.length y2), r2), ((.slice x1 r1.length y1), r1), ((.slice xa a.length ya), a), ((.slice xb b.length yb), b), ((.slice xc c.length yc), c)] := by
      simp only [List.mem_cons, List.not_mem_nil, or_false] at hp ⊢
      rcases hp with h | h | h | h <;> (subst h; simp)
    exact (HH10.out p hm).at_.below HAB.out (Nat.le_refl _)
  · intro hb10
    obtain ⟨hb9, k10⟩ := HP10.out hb10
    obtain ⟨hb8, k9⟩ := HP9.out hb9
    obtain ⟨hb7, k8⟩ := HP8.out hb8
    obtain ⟨hb6, k7⟩ := HP7.out hb7
    obtain ⟨hb5, k6⟩ := HP6.out hb6
    obtain ⟨hb4, k5⟩ := HP5.out hb5
    obtain ⟨hb3, k4⟩ := HP4.out hb4
    obtain ⟨hb2, k3⟩ := HP3.out hb3
    obtain ⟨hb1, k2⟩ := HP2.out hb2
    obtain ⟨hb0, k1⟩ := HP1.out hb1
    exact distributed_law k1 k2 k3 k4 k5 k6 k7 k8 k9 k10
  · rintro e w' ⟨rfl, hb⟩
    have HF : Hid (Below w.heap.size w w') := (HG10.out.trans (HAB.out.mono HG10.out.size)).trans (hb.mono (HG10.out.trans (HAB.out.mono HG10.out.size)).size)
    clear hb
    go_wp2
    go_ret
    exact ⟨rfl, HF.out⟩

set_option maxHeartbeats 2000000 in
theorem written_law {a b c r1 r2 r3 r4 r5 r6 r7 r8 r9 r10 r11 r12 r13 r14 r15 r16 r17 r18 r19 r20 : List R} (h1 : TwoGave (fun p q => p ∧ ¬ q) a b r1) (h2 : TwoGave (fun p q => p ∧ q) b a r2) (h3 : TwoGave (fun p q => p ∧ ¬ q) a r2 r3) (h4 : TwoGave (fun p q => p ∨ q) b c r4) (h5 : TwoGave (fun p q => p ∧ ¬ q) a r4 r5) (h6 : TwoGave (fun p q => p ∧ ¬ q) a c r6) (h7 : TwoGave (fun p q => p ∧ ¬ q) r6 b r7) (h8 : TwoGave (fun p q => p ∧ ¬ q) a b r8) (h9 : TwoGave (fun p q => p ∧ ¬ q) a r8 r9) (h10 : TwoGave (fun p q => p ∧ q) a b r10) (h11 : TwoGave (fun p q => p ∨ q) a b r11) (h12 : TwoGave (fun p q => p ∧ ¬ q) r11 c r12) (h13 : TwoGave (fun p q => p ∧ ¬ q) a c r13) (h14 : TwoGave (fun p q => p ∧ ¬ q) b c r14) (h15 : TwoGave (fun p q => p ∨ q) r13 r14 r15) (h16 : TwoGave (fun p q => p ∧ q) b c r16) (h17 : TwoGave (fun p q => p ∧ ¬ q) a r16 r17) (h18 : TwoGave (fun p q => p ∧ ¬ q) a b r18) (h19 : TwoGave (fun p q => p ∧ ¬ q) a c r19) (h20 : TwoGave (fun p q => p ∨ q) r18 r19 r20) :
    Pairs [r1, r3, r5, r7, r9, r10, r12, r15, r17, r20] := by
  obtain ⟨p1, q1, g1, c1⟩ := h1
  obtain ⟨p2, q2, g2, c2⟩ := h2
  obtain ⟨p3, q3, g3, c3⟩ := h3
  obtain ⟨p4, q4, g4, c4⟩ := h4
  obtain ⟨p5, q5, g5, c5⟩ := h5
  obtain ⟨p6, q6, g6, c6⟩ := h6
  obtain ⟨p7, q7, g7, c7⟩ := h7
  obtain ⟨p8, q8, g8, c8⟩ := h8
  obtain ⟨p9, q9, g9, c9⟩ := h9
  obtain ⟨p10, q10, g10, c10⟩ := h10
  obtain ⟨p11, q11, g11, c11⟩ := h11
  obtain ⟨p12, q12, g12, c12⟩ := h12
  obtain ⟨p13, q13, g13, c13⟩ := h13
  obtain ⟨p14, q14, g14, c14⟩ := h14
  obtain ⟨p15, q15, g15, c15⟩ := h15
  obtain ⟨p16, q16, g16, c16⟩ := h16
  obtain ⟨p17, q17, g17, c17⟩ := h17
  obtain ⟨p18, q18, g18, c18⟩ := h18
  obtain ⟨p19, q19, g19, c19⟩ := h19
  obtain ⟨p20, q20, g20, c20⟩ := h20
  refine ⟨reg_unique g1 g3 fun x y => ?_, reg_unique g5 g7 fun x y => ?_, reg_unique g9 g10 fun x y => ?_, reg_unique g12 g15 fun x y => ?_, reg_unique g17 g20 fun x y => ?_, trivial⟩
  all_goals
    simp only [c1, c2, c3, c4, c5, c6, c7, c8, c9, c10, c11, c12, c13, c14, c15, c16, c17, c18, c19, c20]
    by_cases ka : cov a x y <;> by_cases kb : cov b x y <;> by_cases kc : cov c x y <;> simp [ka, kb, kc]

set_option maxHeartbeats 4000000 in
set_option maxRecDepth 100000 in
theorem written_any (va vb vc : Value) (a b c : List R) (w : World) (ha : RectsAt w va a) (hb : RectsAt w vb b) (hc : RectsAt w vc c) :
    Calls Try.prog 5 #[va, vb, vc] w fun e w' => e = .returned (.bool true) ∧ Below w.heap.size w w' := by
  have hub := Try.underlying25
  have HH0 : Hid (Held w.heap.size (w.alloc (.cells #[.bool false] 25)) [(va, a), (vb, b), (vc, c)]) := held_start w [(va, a), (vb, b), (vc, c)] (by intro p hp; simp only [List.mem_cons, List.not_mem_nil, or_false] at hp; rcases hp with rfl | rfl | rfl <;> assumption)
  have HD0 : Hid (Dat (w.alloc (.cells #[.bool false] 25)) w.heap.size false) := heap_alloc_new w _
  have HG0 : Hid (Below w.heap.size w (w.alloc (.cells #[.bool false] 25))) := (Below.refl _ _).alloc (Nat.le_refl _) _
  obtain ⟨xa, ya, rfl⟩ : ∃ x y, va = .slice x a.length y := by obtain ⟨x, y, h, -⟩ := ha; exact ⟨x, y, h⟩
  obtain ⟨xb, yb, rfl⟩ : ∃ x y, vb = .slice x b.length y := by obtain ⟨x, y, h, -⟩ := hb; exact ⟨x, y, h⟩
  obtain ⟨xc, yc, rfl⟩ : ∃ x y, vc = .slice x c.length y := by obtain ⟨x, y, h, -⟩ := hc; exact ⟨x, y, h⟩
  clear ha hb hc
  go_enter Try.func5, Try.ntmps5
  go_wp2_with fail
  refine (dminus_any w.heap.size _ (.slice xa a.length ya) (.slice xb b.length yb) a b _ HD0.out (HH0.out ((.slice xa a.length ya), a) (by simp)) (HH0.out ((.slice xb b.length yb), b) (by simp))).mono ?_
  rintro e w1 ⟨u1, r1, b1, rfl, hr, hd, hg, hp⟩
  obtain ⟨x1, y1, rfl⟩ := hr.shape
  have HH1 := Lib.hid (HH0.out.step hg hr)
  have HD1 := Lib.hid hd
  have HG1 := Lib.hid (HG0.out.grown hg HG0.out.size (fun k hk => by cases hk; exact Nat.le_refl _))
  have HP1 := Lib.hid hp
  clear hr hd hg hp HH0 HD0 HG0
  go_wp2_with fail
  refine (dboth_any w.heap.size _ (.slice xb b.length yb) (.slice xa a.length ya) b a _ HD1.out (HH1.out ((.slice xb b.length yb), b) (by simp)) (HH1.out ((.slice xa a.length ya), a) (by simp))).mono ?_
  rintro e w2 ⟨u2, r2, b2, rfl, hr, hd, hg, hp⟩
  obtain ⟨x2, y2, rfl⟩ := hr.shape
  have HH2 := Lib.hid (HH1.out.step hg hr)
  have HD2 := Lib.hid hd
  have HG2 := Lib.hid (HG1.out.grown hg HG1.out.size (fun k hk => by cases hk; exact Nat.le_refl _))
  have HP2 := Lib.hid hp
  clear hr hd hg hp HH1 HD1 HG1
  go_wp2_with fail
  refine (dminus_any w.heap.size _ (.slice xa a.length ya) (.slice x2 r2.length y2) a r2 _ HD2.out (HH2.out ((.slice xa a.length ya), a) (by simp)) (HH2.out ((.slice x2 r2.length y2), r2) (by simp))).mono ?_
  rintro e w3 ⟨u3, r3, b3, rfl, hr, hd, hg, hp⟩
  obtain ⟨x3, y3, rfl⟩ := hr.shape
  have HH3 := Lib.hid (HH2.out.step hg hr)
  have HD3 := Lib.hid hd
  have HG3 := Lib.hid (HG2.out.grown hg HG2.out.size (fun k hk => by cases hk; exact Nat.le_refl _))
  have HP3 := Lib.hid hp
  clear hr hd hg hp HH2 HD2 HG2
  go_wp2_with fail
  refine (dunion_any w.heap.size _ (.slice xb b.length yb) (.slice xc c.length yc) b c _ HD3.out (HH3.out ((.slice xb b.length yb), b) (by simp)) (HH3.out ((.slice xc c.length yc), c) (by simp))).mono ?_
  rintro e w4 ⟨u4, r4, b4, rfl, hr, hd, hg, hp⟩
  obtain ⟨x4, y4, rfl⟩ := hr.shape
  have HH4 := Lib.hid (HH3.out.step hg hr)
  have HD4 := Lib.hid hd
  have HG4 := Lib.hid (HG3.out.grown hg HG3.out.size (fun k hk => by cases hk; exact Nat.le_refl _))
  have HP4 := Lib.hid hp
  clear hr hd hg hp HH3 HD3 HG3
  go_wp2_with fail
  refine (dminus_any w.heap.size _ (.slice xa a.length ya) (.slice x4 r4.length y4) a r4 _ HD4.out (HH4.out ((.slice xa a.length ya), a) (by simp)) (HH4.out ((.slice x4 r4.length y4), r4) (by simp))).mono ?_
  rintro e w5 ⟨u5, r5, b5, rfl, hr, hd, hg, hp⟩
  obtain ⟨x5, y5, rfl⟩ := hr.shape
  have HH5 := Lib.hid (HH4.out.step hg hr)
  have HD5 := Lib.hid hd
  have HG5 := Lib.hid (HG4.out.grown hg HG4.out.size (fun k hk => by cases hk; exact Nat.le_refl _))
  have HP5 := Lib.hid hp
  clear hr hd hg hp HH4 HD4 HG4
  go_wp2_with fail
  refine (dminus_any w.heap.size _ (.slice xa a.length ya) (.slice xc c.length yc) a c _ HD5.out (HH5.out ((.slice xa a.length ya), a) (by simp)) (HH5.out ((.slice xc c.length yc), c) (by simp))).mono ?_
  rintro e w6 ⟨u6, r6, b6, rfl, hr, hd, hg, hp⟩
  obtain ⟨x6, y6, rfl⟩ := hr.shape
  have HH6 := Lib.hid (HH5.out.step hg hr)
  have HD6 := Lib.hid hd
  have HG6 := Lib.hid (HG5.out.grown hg HG5.out.size (fun k hk => by cases hk; exact Nat.le_refl _))
  have HP6 := Lib.hid hp
  clear hr hd hg hp HH5 HD5 HG5
  go_wp2_with fail
  refine (dminus_any w.heap.size _ (.slice x6 r6.length y6) (.slice xb b.length yb) r6 b _ HD6.out (HH6.out ((.slice x6 r6.length y6), r6) (by simp)) (HH6.out ((.slice xb b.length yb), b) (by simp))).mono ?_
  rintro e w7 ⟨u7, r7, b7, rfl, hr, hd, hg, hp⟩
  obtain ⟨x7, y7, rfl⟩ := hr.shape
  have HH7 := Lib.hid (HH6.out.step hg hr)
  have HD7 := Lib.hid hd
  have HG7 := Lib.hid (HG6.out.grown hg HG6.out.size (fun k hk => by cases hk; exact Nat.le_refl _))
  have HP7 := Lib.hid hp
  clear hr hd hg hp HH6 HD6 HG6
  go_wp2_with fail
  refine (dminus_any w.heap.size _ (.slice xa a.length ya) (.slice xb b.length yb) a b _ HD7.out (HH7.out ((.slice xa a.length ya), a) (by simp)) (HH7.out ((.slice xb b.length yb), b) (by simp))).mono ?_
  rintro e w8 ⟨u8, r8, b8, rfl, hr, hd, hg, hp⟩
  obtain ⟨x8, y8, rfl⟩ := hr.shape
  have HH8 := Lib.hid (HH7.out.step hg hr)
  have HD8 := Lib.hid hd
  have HG8 := Lib.hid (HG7.out.grown hg HG7.out.size (fun k hk => by cases hk; exact Nat.le_refl _))
  have HP8 := Lib.hid hp
  clear hr hd hg hp HH7 HD7 HG7
  go_wp2_with fail
  refine (dminus_any w.heap.size _ (.slice xa a.length ya) (.slice x8 r8.length y8) a r8 _ HD8.out (HH8.out ((.slice xa a.length ya), a) (by simp)) (HH8.out ((.slice x8 r8.length y8), r8) (by simp))).mono ?_
  rintro e w9 ⟨u9, r9, b9, rfl, hr, hd, hg, hp⟩
  obtain ⟨x9, y9, rfl⟩ := hr.shape
  have HH9 := Lib.hid (HH8.out.step hg hr)
  have HD9 := Lib.hid hd
  have HG9 := Lib.hid (HG8.out.grown hg HG8.out.size (fun k hk => by cases hk; exact Nat.le_refl _))
  have HP9 := Lib.hid hp
  clear hr hd hg hp HH8 HD8 HG8
  go_wp2_with fail
  refine (dboth_any w.heap.size _ (.slice xa a.length ya) (.slice xb b.length yb) a b _ HD9.out (HH9.out ((.slice xa a.length ya), a) (by simp)) (HH9.out ((.slice xb b.length yb), b) (by simp))).mono ?_
  rintro e w10 ⟨u10, r10, b10, rfl, hr, hd, hg, hp⟩
  obtain ⟨x10, y10, rfl⟩ := hr.shape
  have HH10 := Lib.hid (HH9.out.step hg hr)
  have HD10 := Lib.hid hd
  have HG10 := Lib.hid (HG9.out.grown hg HG9.out.size (fun k hk => by cases hk; exact Nat.le_refl _))
  have HP10 := Lib.hid hp
  clear hr hd hg hp HH9 HD9 HG9
  go_wp2_with fail
  refine (dunion_any w.heap.size _ (.slice xa a.length ya) (.slice xb b.length yb) a b _ HD10.out (HH10.out ((.slice xa a.length ya), a) (by simp)) (HH10.out ((.slice xb b.length yb), b) (by simp))).mono ?_
  rintro e w11 ⟨u11, r11, b11, rfl, hr, hd, hg, hp⟩
  obtain ⟨x11, y11, rfl⟩ := hr.shape
  have HH11 := Lib.hid (HH10.out.step hg hr)
  have HD11 := Lib.hid hd
  have HG11 := Lib.hid (HG10.out.grown hg HG10.out.size (fun k hk => by cases hk; exact Nat.le_refl _))
  have HP11 := Lib.hid hp
  clear hr hd hg hp HH10 HD10 HG10
  go_wp2_with fail
  refine (dminus_any w.heap.size _ (.slice x11 r11.length y11) (.slice xc c.length yc) r11 c _ HD11.out (HH11.out ((.slice x11 r11.length y11), r11) (by simp)) (HH11.out ((.slice xc c.length yc), c) (by simp))).mono ?_
  rintro e w12 ⟨u12, r12, b12, rfl, hr, hd, hg, hp⟩
  obtain ⟨x12, y12, rfl⟩ := hr.shape
  have HH12 := Lib.hid (HH11.out.step hg hr)
  have HD12 := Lib.hid hd
  have HG12 := Lib.hid (HG11.out.grown hg HG11.out.size (fun k hk => by cases hk; exact Nat.le_refl _))
  have HP12 := Lib.hid hp
  clear hr hd hg hp HH11 HD11 HG11
  go_wp2_with fail
  refine (dminus_any w.heap.size _ (.slice xa a.length ya) (.slice xc c.length yc) a c _ HD12.out (HH12.out ((.slice xa a.length ya), a) (by simp)) (HH12.out ((.slice xc c.length yc), c) (by simp))).mono ?_
  rintro e w13 ⟨u13, r13, b13, rfl, hr, hd, hg, hp⟩
  obtain ⟨x13, y13, rfl⟩ := hr.shape
  have HH13 := Lib.hid (HH12.out.step hg hr)
  have HD13 := Lib.hid hd
  have HG13 := Lib.hid (HG12.out.grown hg HG12.out.size (fun k hk => by cases hk; exact Nat.le_refl _))
  have HP13 := Lib.hid hp
  clear hr hd hg hp HH12 HD12 HG12
  go_wp2_with fail
  refine (dminus_any w.heap.size _ (.slice xb b.length yb) (.slice xc c.length yc) b c _ HD13.out (HH13.out ((.slice xb b.length yb), b) (by simp)) (HH13.out ((.slice xc c.length yc), c) (by simp))).mono ?_
  rintro e w14 ⟨u14, r14, b14, rfl, hr, hd, hg, hp⟩
  obtain ⟨x14, y14, rfl⟩ := hr.shape
  have HH14 := Lib.hid (HH13.out.step hg hr)
  have HD14 := Lib.hid hd
  have HG14 := Lib.hid (HG13.out.grown hg HG13.out.size (fun k hk => by cases hk; exact Nat.le_refl _))
  have HP14 := Lib.hid hp
  clear hr hd hg hp HH13 HD13 HG13
  go_wp2_with fail
  refine (dunion_any w.heap.size _ (.slice x13 r13.length y13) (.slice x14 r14.length y14) r13 r14 _ HD14.out (HH14.out ((.slice x13 r13.length y13), r13) (by simp)) (HH14.out ((.slice x14 r14.length y14), r14) (by simp))).mono ?_
  rintro e w15 ⟨u15, r15, b15, rfl, hr, hd, hg, hp⟩
  obtain ⟨x15, y15, rfl⟩ := hr.shape
  have HH15 := Lib.hid (HH14.out.step hg hr)
  have HD15 := Lib.hid hd
  have HG15 := Lib.hid (HG14.out.grown hg HG14.out.size (fun k hk => by cases hk; exact Nat.le_refl _))
  have HP15 := Lib.hid hp
  clear hr hd hg hp HH14 HD14 HG14
  go_wp2_with fail
  refine (dboth_any w.heap.size _ (.slice xb b.length yb) (.slice xc c.length yc) b c _ HD15.out (HH15.out ((.slice xb b.length yb), b) (by simp)) (HH15.out ((.slice xc c.length yc), c) (by simp))).mono ?_
  rintro e w16 ⟨u16, r16, b16, rfl, hr, hd, hg, hp⟩
  obtain ⟨x16, y16, rfl⟩ := hr.shape
  have HH16 := Lib.hid (HH15.out.step hg hr)
  have HD16 := Lib.hid hd
  have HG16 := Lib.hid (HG15.out.grown hg HG15.out.size (fun k hk => by cases hk; exact Nat.le_refl _))
  have HP16 := Lib.hid hp
  clear hr hd hg hp HH15 HD15 HG15
  go_wp2_with fail
  refine (dminus_any w.heap.size _ (.slice xa a.length ya) (.slice x16 r16.length y16) a r16 _ HD16.out (HH16.out ((.slice xa a.length ya), a) (by simp)) (HH16.out ((.slice x16 r16.length y16), r16) (by simp))).mono ?_
  rintro e w17 ⟨u17, r17, b17, rfl, hr, hd, hg, hp⟩
  obtain ⟨x17, y17, rfl⟩ := hr.shape
  have HH17 := Lib.hid (HH16.out.step hg hr)
  have HD17 := Lib.hid hd
  have HG17 := Lib.hid (HG16.out.grown hg HG16.out.size (fun k hk => by cases hk; exact Nat.le_refl _))
  have HP17 := Lib.hid hp
  clear hr hd hg hp HH16 HD16 HG16
  go_wp2_with fail
  refine (dminus_any w.heap.size _ (.slice xa a.length ya) (.slice xb b.length yb) a b _ HD17.out (HH17.out ((.slice xa a.length ya), a) (by simp)) (HH17.out ((.slice xb b.length yb), b) (by simp))).mono ?_
  rintro e w18 ⟨u18, r18, b18, rfl, hr, hd, hg, hp⟩
  obtain ⟨x18, y18, rfl⟩ := hr.shape
  have HH18 := Lib.hid (HH17.out.step hg hr)
  have HD18 := Lib.hid hd
  have HG18 := Lib.hid (HG17.out.grown hg HG17.out.size (fun k hk => by cases hk; exact Nat.le_refl _))
  have HP18 := Lib.hid hp
  clear hr hd hg hp HH17 HD17 HG17
  go_wp2_with fail
  refine (dminus_any w.heap.size _ (.slice xa a.length ya) (.slice xc c.length yc) a c _ HD18.out (HH18.out ((.slice xa a.length ya), a) (by simp)) (HH18.out ((.slice xc c.length yc), c) (by simp))).mono ?_
  rintro e w19 ⟨u19, r19, b19, rfl, hr, hd, hg, hp⟩
  obtain ⟨x19, y19, rfl⟩ := hr.shape
  have HH19 := Lib.hid (HH18.out.step hg hr)
  have HD19 := Lib.hid hd
  have HG19 := Lib.hid (HG18.out.grown hg HG18.out.size (fun k hk => by cases hk; exact Nat.le_refl _))
  have HP19 := Lib.hid hp
  clear hr hd hg hp HH18 HD18 HG18
  go_wp2_with fail
  refine (dunion_any w.heap.size _ (.slice x18 r18.length y18) (.slice x19 r19.length y19) r18 r19 _ HD19.out (HH19.out ((.slice x18 r18.length y18), r18) (by simp)) (HH19.out ((.slice x19 r19.length y19), r19) (by simp))).mono ?_
  rintro e w20 ⟨u20, r20, b20, rfl, hr, hd, hg, hp⟩
  obtain ⟨x20, y20, rfl⟩ := hr.shape
  have HH20 := Lib.hid (HH19.out.step hg hr)
  have HD20 := Lib.hid hd
  have HG20 := Lib.hid (HG19.out.grown hg HG19.out.size (fun k hk => by cases hk; exact Nat.le_refl _))
  have HP20 := Lib.hid hp
  clear hr hd hg hp HH19 HD19 HG19
  go_wp2_with fail
  have HAB : Hid (Below w20.heap.size w20 (w20.alloc (.cells #[.slice x1 r1.length y1, .slice x3 r3.length y3, .slice x5 r5.length y5, .slice x7 r7.length y7, .slice x9 r9.length y9, .slice x10 r10.length y10, .slice x12 r12.length y12, .slice x15 r15.length y15, .slice x17 r17.length y17, .slice x20 r20.length y20] 22))) := (Below.refl _ _).alloc (Nat.le_refl _) _
  have HDL : Hid (Dat (w20.alloc (.cells #[.slice x1 r1.length y1, .slice x3 r3.length y3, .slice x5 r5.length y5, .slice x7 r7.length y7, .slice x9 r9.length y9, .slice x10 r10.length y10, .slice x12 r12.length y12, .slice x15 r15.length y15, .slice x17 r17.length y17, .slice x20 r20.length y20] 22)) w.heap.size b20) := box_grown HD20.out (grownBy_of_below none HAB.out) (by simp)
  have hnew : (w20.alloc (.cells #[.slice x1 r1.length y1, .slice x3 r3.length y3, .slice x5 r5.length y5, .slice x7 r7.length y7, .slice x9 r9.length y9, .slice x10 r10.length y10, .slice x12 r12.length y12, .slice x15 r15.length y15, .slice x17 r17.length y17, .slice x20 r20.length y20] 22)).heap[w20.heap.size]? = some (.cells #[.slice x1 r1.length y1, .slice x3 r3.length y3, .slice x5 r5.length y5, .slice x7 r7.length y7, .slice x9 r9.length y9, .slice x10 r10.length y10, .slice x12 r12.length y12, .slice x15 r15.length y15, .slice x17 r17.length y17, .slice x20 r20.length y20] 22 (0, 0)) := heap_alloc_new w20 _
  refine (wtold_held w.heap.size b20 w20.heap.size 10 [((.slice x1 r1.length y1), r1), ((.slice x3 r3.length y3), r3), ((.slice x5 r5.length y5), r5), ((.slice x7 r7.length y7), r7), ((.slice x9 r9.length y9), r9), ((.slice x10 r10.length y10), r10), ((.slice x12 r12.length y12), r12), ((.slice x15 r15.length y15), r15), ((.slice x17 r17.length y17), r17), ((.slice x20 r20.length y20), r20)] _ HDL.out rfl hnew ?_ ?_ (by omega)).mono ?_
  · intro p hp
    have hm : p ∈ [((.slice x20 r20.length y20), r20), ((.slice x19 r19.length y19), r19), ((.slice x18 r18.length y18), r18), ((.slice x17 r17.length y17), r17), ((.slice x16 r16.length y16), r16), ((.slice x15 r15.length y15), r15), ((.slice x14 r14.length y14), r14), ((.slice x13 r13.length y13), r13), ((.slice x12 r12.length y12), r12), ((.slice x11 r11.length y11), r11), ((.slice x10 r10.length y10), r10), ((.slice x9 r9.length y9), r9), ((.slice x8 r8.length y8), r8), ((.slice x7 r7.length y7), r7), ((.slice x6 r6.length y6), r6), ((.slice x5 r5.length y5), r5), ((.slice x4 r4.length y4), r4), ((.slice x3 r3.length y3), r3), ((.slice x2 r2.length y2), r2), ((.slice x1 r1.length y1), r1), ((.slice xa a.length ya), a), ((.slice xb b.length yb), b), ((.slice xc c.length yc), c)] := by
      simp only [List.mem_cons, List.not_mem_nil, or_false] at hp ⊢
      rcases hp with h | h | h | h | h | h | h | h | h | h <;> (subst h; simp)
    exact (HH20.out p hm).at_.below HAB.out (Nat.le_refl _)
  · intro hb20
    obtain ⟨hb19, k20⟩ := HP20.out hb20
    obtain ⟨hb18, k19⟩ := HP19.out hb19
    obtain ⟨hb17, k18⟩ := HP18.out hb18
    obtain ⟨hb16, k17⟩ := HP17.out hb17
    obtain ⟨hb15, k16⟩ := HP16.out hb16
    obtain ⟨hb14, k15⟩ := HP15.out hb15
    obtain ⟨hb13, k14⟩ := HP14.out hb14
    obtain ⟨hb12, k13⟩ := HP13.out hb13
    obtain ⟨hb11, k12⟩ := HP12.out hb12
    obtain ⟨hb10, k11⟩ := HP11.out hb11
    obtain ⟨hb9, k10⟩ := HP10.out hb10
    obtain ⟨hb8, k9⟩ := HP9.out hb9
    obtain ⟨hb7, k8⟩ := HP8.out hb8
    obtain ⟨hb6, k7⟩ := HP7.out hb7
    obtain ⟨hb5, k6⟩ := HP6.out hb6
    obtain ⟨hb4, k5⟩ := HP5.out hb5
    obtain ⟨hb3, k4⟩ := HP4.out hb4
    obtain ⟨hb2, k3⟩ := HP3.out hb3
    obtain ⟨hb1, k2⟩ := HP2.out hb2
    obtain ⟨hb0, k1⟩ := HP1.out hb1
    exact written_law k1 k2 k3 k4 k5 k6 k7 k8 k9 k10 k11 k12 k13 k14 k15 k16 k17 k18 k19 k20
  · rintro e w' ⟨rfl, hb⟩
    have HF : Hid (Below w.heap.size w w') := (HG20.out.trans (HAB.out.mono HG20.out.size)).trans (hb.mono (HG20.out.trans (HAB.out.mono HG20.out.size)).size)
    clear hb
    go_wp2
    go_ret
    exact ⟨rfl, HF.out⟩

end Go.Proofs.Yteokdmcdhalcfaa
