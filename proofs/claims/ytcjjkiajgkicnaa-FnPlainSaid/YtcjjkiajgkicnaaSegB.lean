/-
  The number of the segment of a walker, by the program.
-/
import Derived.Test.YtcjjkiajgkicnaaSeg
import Derived.Test.YtcjjkiajgkicnaaPoint
namespace Go.Proofs.Ytcjjkiajgkicnaa
open Go.RowKit Knot

theorem okW_bd {W H x y dx dy : Int} {B : List Int} (h : OkW ⟨W, H, B⟩ ⟨x, y, dx, dy⟩) (hW : 1 ≤ W ∧ W ≤ 8) (hH : 1 ≤ H ∧ H ≤ 8) :
    (0 ≤ x ∧ x ≤ 16) ∧ (0 ≤ y ∧ y ≤ 16) ∧ (dx = 1 ∨ dx = -1) ∧ (dy = 1 ∨ dy = -1) ∧ (0 ≤ x + dx ∧ x + dx ≤ 16) ∧ (0 ≤ y + dy ∧ y + dy ≤ 16) ∧ (0 ≤ min x (x + dx) ∧ min x (x + dx) ≤ 15) ∧ (0 ≤ min y (y + dy) ∧ min y (y + dy) ≤ 15) := by
  obtain ⟨h1, h2, ⟨a1, a2, a3, a4, a5⟩, ⟨b1, b2, b3, b4, b5⟩⟩ := h
  simp only [] at *
  omega
theorem mul_bd {m H : Int} (hm : 0 ≤ m ∧ m ≤ 16) (hH : 1 ≤ H ∧ H ≤ 8) : 0 ≤ m * 2 * H ∧ m * 2 * H ≤ 256 := by
  obtain ⟨m1, m2⟩ := hm
  rcases eight_cases hH.1 hH.2 with rfl | rfl | rfl | rfl | rfl | rfl | rfl | rfl <;> omega
theorem w64 {z : Int} (h : 0 ≤ z ∧ z ≤ 1000000) : wrap64 z = z := by unfold wrap64; omega
theorem wrap2 {a b : Int} (ha : 0 ≤ a ∧ a ≤ 300) (hb : 0 ≤ b ∧ b ≤ 300) : wrap64 (wrap64 a + b) = a + b := by rw [w64 (z := a) (by omega), w64 (z := a + b) (by omega)]
end Go.Proofs.Ytcjjkiajgkicnaa
