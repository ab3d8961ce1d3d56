/-
  Plain mathematics: Pts. No program is in sight.
-/
import Derived.Test.YtihfdgnocdphcaaPlPan
import Derived.Test.YtihfdgnocdphcaaPlPass
namespace Knot

/-! ### The inner points of a panel and their numbers -/

def ptY (W k : Int) : Int := if k % (2 * W - 1) < W - 1 then 2 * (k / (2 * W - 1)) + 1 else 2 * (k / (2 * W - 1)) + 2
def ptX (W k : Int) : Int := if k % (2 * W - 1) < W - 1 then 2 * (k % (2 * W - 1)) + 2 else 2 * (k % (2 * W - 1) - (W - 1)) + 1

theorem eight_cases {W : Int} (h1 : 1 ≤ W) (h8 : W ≤ 8) : W = 1 ∨ W = 2 ∨ W = 3 ∨ W = 4 ∨ W = 5 ∨ W = 6 ∨ W = 7 ∨ W = 8 := by omega

section
variable {W H : Int} (w1 : 1 ≤ W) (w8 : W ≤ 8)
include w1 w8
theorem pt_in {k : Int} (_k0 : 0 ≤ k) (k1 : k < inner W H) : 1 ≤ ptY W k ∧ ptY W k < 2 * H ∧ 1 ≤ ptX W k ∧ ptX W k < 2 * W ∧ (ptX W k + ptY W k) % 2 = 1 := by
  rcases eight_cases w1 w8 with rfl | rfl | rfl | rfl | rfl | rfl | rfl | rfl <;> simp only [ptX, ptY, inner] at * <;> split <;> omega
theorem pt_num {k : Int} (_k0 : 0 ≤ k) : rowOf W (ptY W k) + (ptX W k - 1) / 2 = k := by
  rcases eight_cases w1 w8 with rfl | rfl | rfl | rfl | rfl | rfl | rfl | rfl <;> simp only [ptX, ptY, rowOf] at * <;> split <;> omega
theorem num_pt {x y : Int} (y0 : 1 ≤ y) (y1 : y < 2 * H) (x0 : 1 ≤ x) (x1 : x < 2 * W) (hp : (x + y) % 2 = 1) :
    0 ≤ rowOf W y + (x - 1) / 2 ∧ rowOf W y + (x - 1) / 2 < inner W H ∧ ptX W (rowOf W y + (x - 1) / 2) = x ∧ ptY W (rowOf W y + (x - 1) / 2) = y := by
  generalize hn : rowOf W y + (x - 1) / 2 = n
  rcases (show (∃ q t : Int, y = 2 * q + 1 ∧ x = 2 * t + 2 ∧ 0 ≤ q ∧ 0 ≤ t) ∨ (∃ q t : Int, y = 2 * q + 2 ∧ x = 2 * t + 1 ∧ 0 ≤ q ∧ 0 ≤ t) from by
    by_cases h : y % 2 = 1
    · exact .inl ⟨y / 2, x / 2 - 1, by omega, by omega, by omega, by omega⟩
    · exact .inr ⟨y / 2 - 1, x / 2, by omega, by omega, by omega, by omega⟩) with ⟨q, t, rfl, rfl, q0, t0⟩ | ⟨q, t, rfl, rfl, q0, t0⟩
  · have hn' : n = q * (2 * W - 1) + t := by
      rw [← hn]
      rcases eight_cases w1 w8 with rfl | rfl | rfl | rfl | rfl | rfl | rfl | rfl <;> simp only [rowOf] <;> omega
    clear hn
    have e1 : n / (2 * W - 1) = q := by rw [hn']; exact lin_div t0 (by omega)
    have e2 : n % (2 * W - 1) = t := by rw [hn']; exact lin_mod t0 (by omega)
    unfold ptX ptY
    rw [e1, e2, if_pos (by omega), if_pos (by omega)]
    refine ⟨?_, ?_, rfl, rfl⟩
    · rw [hn']; exact lin_nonneg q0 t0 (by omega)
    · rcases eight_cases w1 w8 with rfl | rfl | rfl | rfl | rfl | rfl | rfl | rfl <;> simp only [inner] <;> omega
  · have hn' : n = q * (2 * W - 1) + (W - 1 + t) := by
      rw [← hn]
      rcases eight_cases w1 w8 with rfl | rfl | rfl | rfl | rfl | rfl | rfl | rfl <;> simp only [rowOf] <;> omega
    clear hn
    have e1 : n / (2 * W - 1) = q := by rw [hn']; exact lin_div (by omega) (by omega)
    have e2 : n % (2 * W - 1) = W - 1 + t := by rw [hn']; exact lin_mod (by omega) (by omega)
    unfold ptX ptY
    rw [e1, e2, if_neg (by omega), if_neg (by omega)]
    refine ⟨?_, ?_, by omega, rfl⟩
    · rw [hn']; exact lin_nonneg q0 (by omega) (by omega)
    · rcases eight_cases w1 w8 with rfl | rfl | rfl | rfl | rfl | rfl | rfl | rfl <;> simp only [inner] <;> omega
theorem row_bd {y : Int} (_y0 : 1 ≤ y) (y1 : y ≤ 16) : 0 ≤ rowOf W y ∧ rowOf W y ≤ 200 := by
  rcases eight_cases w1 w8 with rfl | rfl | rfl | rfl | rfl | rfl | rfl | rfl <;> simp only [rowOf] at * <;> omega
theorem row_succ {y : Int} (_y0 : 1 ≤ y) : rowOf W (y + 1) = rowOf W y + W - y % 2 := by
  rcases eight_cases w1 w8 with rfl | rfl | rfl | rfl | rfl | rfl | rfl | rfl <;> simp only [rowOf] at * <;> omega
theorem row_le {y z : Int} (_y0 : 1 ≤ y) (h : y ≤ z) : rowOf W y ≤ rowOf W z := by
  rcases eight_cases w1 w8 with rfl | rfl | rfl | rfl | rfl | rfl | rfl | rfl <;> simp only [rowOf] at * <;> omega
theorem row_of_pt {k : Int} (k0 : 0 ≤ k) : rowOf W (ptY W k) ≤ k ∧ k < rowOf W (ptY W k + 1) ∧ ptX W k = 2 * (k - rowOf W (ptY W k)) + 1 + ptY W k % 2 ∧ 1 ≤ ptY W k := by
  rcases eight_cases w1 w8 with rfl | rfl | rfl | rfl | rfl | rfl | rfl | rfl <;> simp only [ptX, ptY, rowOf] at * <;> split <;> refine ⟨by omega, by omega, by omega, by omega⟩
theorem row_end : rowOf W (2 * H) = inner W H := by
  rcases eight_cases w1 w8 with rfl | rfl | rfl | rfl | rfl | rfl | rfl | rfl <;> simp only [rowOf, inner] at * <;> omega
theorem row_one : rowOf W 1 = 0 := by
  rcases eight_cases w1 w8 with rfl | rfl | rfl | rfl | rfl | rfl | rfl | rfl <;> simp only [rowOf] at * <;> omega
end

/-- The first points, one after the other. -/
def ptsTo (W : Int) : Nat → List Int
  | 0 => []
  | k + 1 => ptsTo W k ++ [ptX W k, ptY W k]
theorem ptsTo_length (W : Int) : ∀ k, (ptsTo W k).length = 2 * k
  | 0 => rfl
  | k + 1 => by rw [ptsTo, List.length_append, ptsTo_length W k]; simp; omega
theorem ptsTo_get (W : Int) : ∀ (n k : Nat), k < n → gI (ptsTo W n) ((2 * k : Nat) : Int) = ptX W k ∧ gI (ptsTo W n) ((2 * k + 1 : Nat) : Int) = ptY W k
  | 0, k, h => by omega
  | n + 1, k, h => by
    have hl := ptsTo_length W n
    by_cases hk : k < n
    · obtain ⟨h1, h2⟩ := ptsTo_get W n k hk
      rw [← h1, ← h2]
      constructor
      · show (ptsTo W n ++ _).getD _ _ = (ptsTo W n).getD _ _
        simp only [Int.toNat_natCast, List.getD]
        rw [List.getElem?_append_left (by omega)]
      · show (ptsTo W n ++ _).getD _ _ = (ptsTo W n).getD _ _
        simp only [Int.toNat_natCast, List.getD]
        rw [List.getElem?_append_left (by omega)]
    · have e : k = n := by omega
      subst e
      constructor
      · show (ptsTo W k ++ _).getD _ _ = _
        simp only [Int.toNat_natCast, List.getD]
        rw [List.getElem?_append_right (by omega), hl]
        simp
      · show (ptsTo W k ++ _).getD _ _ = _
        simp only [Int.toNat_natCast, List.getD]
        rw [List.getElem?_append_right (by omega), hl]
        simp

/-- What the panel holds at an inner point is what stands at the point's number. -/
theorem not_edge {p : Pan} {x y : Int} (h : Has p x y) (he : ¬ Edge p x y) : 1 ≤ y ∧ y < 2 * p.H ∧ 1 ≤ x ∧ x < 2 * p.W := by
  obtain ⟨a, b, c, d, _⟩ := h
  unfold Edge at he
  omega
end Knot
