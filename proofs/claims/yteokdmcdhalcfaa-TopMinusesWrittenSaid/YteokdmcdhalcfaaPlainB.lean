/- Plain: the rectangles of a set, built up; counts. -/
import Derived.Test.YteokdmcdhalcfaaPlainA
namespace Etch

theorem bandRects_snoc (y0 y1 : Int) : ∀ (l : List Int) (a b : Int), l.length % 2 = 0 → bandRects y0 y1 (l ++ [a, b]) = bandRects y0 y1 l ++ [⟨a, y0, b, y1⟩]
  | [], a, b, _ => rfl
  | [_], _, _, h => by simp at h
  | c :: d :: l, a, b, h => by
    show _ :: bandRects y0 y1 (l ++ [a, b]) = _ :: (bandRects y0 y1 l ++ _)
    rw [bandRects_snoc y0 y1 l a b (by simp only [List.length_cons] at h; omega)]

theorem take_two (l : List Int) (i : Nat) (h : i + 1 < l.length) : l.take (i + 2) = l.take i ++ [l[i]'(by omega), l[i + 1]] := by
  rw [show i + 2 = (i + 1) + 1 from rfl, List.take_succ_eq_append_getElem h, List.take_succ_eq_append_getElem (by omega : i < l.length), List.append_assoc]
  rfl

theorem bandRects_step (y0 y1 : Int) (l : List Int) (i : Nat) (h : i + 1 < l.length) (he : i % 2 = 0) :
    bandRects y0 y1 (l.take (i + 2)) = bandRects y0 y1 (l.take i) ++ [⟨l[i]'(by omega), y0, l[i + 1], y1⟩] := by
  rw [take_two l i h, bandRects_snoc _ _ _ _ _ (by rw [List.length_take]; omega)]

theorem rects_snoc (s : List Band) (b : Band) : rects (s ++ [b]) = rects s ++ bandRects b.y0 b.y1 b.xs := by
  rw [rects_append]; simp [rects]

theorem rects_step (s : List Band) (k : Nat) (h : k < s.length) : rects (s.take (k + 1)) = rects (s.take k) ++ bandRects s[k].y0 s[k].y1 s[k].xs := by
  rw [List.take_succ_eq_append_getElem h, rects_snoc]

theorem rects_take_le (s : List Band) : ∀ k, (rects (s.take k)).length ≤ (rects s).length := by
  intro k
  have : rects s = rects (s.take k) ++ rects (s.drop k) := by rw [← rects_append, List.take_append_drop]
  rw [this, List.length_append]; omega

theorem rects_part_le (s : List Band) (k : Nat) (h : k < s.length) (i : Nat) (hi : i ≤ s[k].xs.length) : (rects (s.take k)).length + i / 2 ≤ (rects s).length := by
  have h1 := rects_take_le s (k + 1)
  rw [rects_step s k h, List.length_append, bandRects_length] at h1
  have : i / 2 ≤ s[k].xs.length / 2 := Nat.div_le_div_right hi
  omega

end Etch
