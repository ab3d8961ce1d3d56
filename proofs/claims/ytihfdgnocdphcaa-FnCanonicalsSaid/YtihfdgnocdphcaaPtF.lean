/-
  A row of points as a flat list of numbers.
-/
import Derived.Test.YtihfdgnocdphcaaBase
namespace Go.Proofs.Ytihfdgnocdphcaa
open Go.RowKit Knot

/-- A row of points, flat. -/
def ptF (l : List (Int × Int)) : List Int := l.flatMap fun x => [x.1, x.2]
theorem ptF_length (l : List (Int × Int)) : (ptF l).length = 2 * l.length := by
  induction l with
  | nil => rfl
  | cons a t ih =>
    show ([a.1, a.2] ++ ptF t).length = _
    rw [List.length_append, ih]
    simp
    omega
theorem ptF_append (l m : List (Int × Int)) : ptF (l ++ m) = ptF l ++ ptF m := by simp [ptF]
theorem ptF_at : ∀ (l : List (Int × Int)) (i : Nat) (h : i < l.length), gI (ptF l) ((2 * i : Nat) : Int) = l[i].1 ∧ gI (ptF l) ((2 * i + 1 : Nat) : Int) = l[i].2
  | [], i, h => by simp at h
  | a :: l, 0, _ => by simp [ptF, gI]
  | a :: l, i + 1, h => by
    have ih := ptF_at l i (by simpa using h)
    have e : ptF (a :: l) = a.1 :: a.2 :: ptF l := rfl
    rw [e]
    unfold gI at ih ⊢
    simp only [Int.toNat_natCast, List.getElem_cons_succ] at ih ⊢
    rw [show 2 * (i + 1) = 2 * i + 1 + 1 by omega]
    simp only [List.getD_cons_succ]
    exact ih
end Go.Proofs.Ytihfdgnocdphcaa
