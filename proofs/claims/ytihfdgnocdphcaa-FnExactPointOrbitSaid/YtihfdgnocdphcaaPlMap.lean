/-
  Plain mathematics: Map. No program is in sight.
-/
import Derived.Test.YtihfdgnocdphcaaPlPts
namespace Knot

/-! ### Where symmetries move points and breaks -/

/-- Where a symmetry moves a point. -/
def mapX (W H x y s : Int) : Int × Int :=
  if 4 ≤ s then (if s % 2 = 1 then 2 * H - y else y, if s / 2 % 2 = 1 then 2 * W - x else x)
  else (if s % 2 = 1 then 2 * W - x else x, if s / 2 % 2 = 1 then 2 * H - y else y)
def kindX (kd s : Int) : Int := if 4 ≤ s ∧ kd ≠ 0 then 3 - kd else kd
def mapW (W H s : Int) : Int := if 4 ≤ s then H else W
def mapH (W H s : Int) : Int := if 4 ≤ s then W else H
/-- The number, in the moved panel, of the point to which the point with number k is moved. -/
def mapN (W H s k : Int) : Int := rowOf (mapW W H s) (mapX W H (ptX W k) (ptY W k) s).2 + ((mapX W H (ptX W k) (ptY W k) s).1 - 1) / 2
/-- The breaks of the moved panel, when the first points have been moved. -/
def mapTo (W H s : Int) (B : List Int) (n : Nat) : Nat → List Int
  | 0 => List.replicate n 0
  | k + 1 => (mapTo W H s B n k).set (mapN W H s k).toNat (kindX (gI B k) s)
def mapP (p : Pan) (s : Int) : Pan := ⟨mapW p.W p.H s, mapH p.W p.H s, mapTo p.W p.H s p.B p.B.length p.B.length⟩
theorem mapTo_length (W H s : Int) (B : List Int) (n : Nat) : ∀ k, (mapTo W H s B n k).length = n
  | 0 => by simp [mapTo]
  | k + 1 => by rw [mapTo, List.length_set, mapTo_length W H s B n k]
theorem inner_comm (W H : Int) : inner H W = inner W H := by unfold inner; rw [Int.add_comm]
theorem mapX_in {W H x y s : Int} (y0 : 1 ≤ y) (y1 : y < 2 * H) (x0 : 1 ≤ x) (x1 : x < 2 * W) (hp : (x + y) % 2 = 1) (s0 : 0 ≤ s) (s7 : s ≤ 7) :
    1 ≤ (mapX W H x y s).1 ∧ (mapX W H x y s).1 < 2 * mapW W H s ∧ 1 ≤ (mapX W H x y s).2 ∧ (mapX W H x y s).2 < 2 * mapH W H s ∧ ((mapX W H x y s).1 + (mapX W H x y s).2) % 2 = 1 := by
  rcases (show s = 0 ∨ s = 1 ∨ s = 2 ∨ s = 3 ∨ s = 4 ∨ s = 5 ∨ s = 6 ∨ s = 7 by omega) with rfl | rfl | rfl | rfl | rfl | rfl | rfl | rfl <;> simp [mapX, mapW, mapH] <;> omega
theorem mapW_bd {W H s : Int} (h : 1 ≤ W ∧ W ≤ 8) (h' : 1 ≤ H ∧ H ≤ 8) : (1 ≤ mapW W H s ∧ mapW W H s ≤ 8) ∧ (1 ≤ mapH W H s ∧ mapH W H s ≤ 8) := by
  unfold mapW mapH
  split <;> exact ⟨by assumption, by assumption⟩
theorem mapN_in {W H s k : Int} (h : 1 ≤ W ∧ W ≤ 8) (h' : 1 ≤ H ∧ H ≤ 8) (s0 : 0 ≤ s) (s7 : s ≤ 7) (k0 : 0 ≤ k) (k1 : k < inner W H) : 0 ≤ mapN W H s k ∧ mapN W H s k < inner W H := by
  obtain ⟨a, b, c, d, e⟩ := pt_in h.1 h.2 k0 k1
  obtain ⟨a', b', c', d', e'⟩ := mapX_in a b c d e s0 s7
  have hb := mapW_bd (s := s) h h'
  obtain ⟨r1, r2, _⟩ := num_pt (H := mapH W H s) hb.1.1 hb.1.2 c' d' a' b' e'
  refine ⟨r1, Int.lt_of_lt_of_le r2 (Int.le_of_eq ?_)⟩
  unfold mapW mapH
  split
  · exact inner_comm W H
  · rfl
theorem kindX_bd {kd s : Int} (h : 0 ≤ kd ∧ kd ≤ 2) : 0 ≤ kindX kd s ∧ kindX kd s ≤ 2 := by
  unfold kindX
  split <;> omega
end Knot
