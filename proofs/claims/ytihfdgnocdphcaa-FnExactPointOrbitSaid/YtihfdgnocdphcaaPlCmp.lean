/-
  Plain mathematics: Cmp. No program is in sight.
-/
import Derived.Test.YtihfdgnocdphcaaPlPass
import Derived.Test.YtihfdgnocdphcaaPlPan
namespace Knot

/-! ### Lists in order, number by number -/

def cmpI (a b : Int) : Int := if a < b then -1 else if b < a then 1 else 0
def cmpL : List Int → List Int → Int
  | [], [] => 0
  | [], _ :: _ => -1
  | _ :: _, [] => 1
  | a :: s, b :: t => if a < b then -1 else if b < a then 1 else cmpL s t
theorem cmpI_bd (a b : Int) : -1 ≤ cmpI a b ∧ cmpI a b ≤ 1 := by
  unfold cmpI
  split
  · omega
  · split <;> omega
theorem cmpL_bd : ∀ s t : List Int, -1 ≤ cmpL s t ∧ cmpL s t ≤ 1
  | [], [] => by simp [cmpL]
  | [], _ :: _ => by simp [cmpL]
  | _ :: _, [] => by simp [cmpL]
  | a :: s, b :: t => by
    unfold cmpL
    have := cmpL_bd s t
    split
    · omega
    · split <;> omega
theorem drop_gI {l : List Int} {k : Nat} (h : k < l.length) : l.drop k = gI l k :: l.drop (k + 1) := by
  rw [List.drop_eq_getElem_cons h]
  simp [gI, List.getD, h]
theorem cmpL_lt {xs ys : List Int} {k : Nat} (h1 : k < xs.length) (h2 : k < ys.length) (h : gI xs k < gI ys k) : cmpL (xs.drop k) (ys.drop k) = -1 := by
  rw [drop_gI h1, drop_gI h2, cmpL, if_pos h]
theorem cmpL_gt {xs ys : List Int} {k : Nat} (h1 : k < xs.length) (h2 : k < ys.length) (h : gI ys k < gI xs k) : cmpL (xs.drop k) (ys.drop k) = 1 := by
  rw [drop_gI h1, drop_gI h2, cmpL, if_neg (by omega), if_pos h]
theorem cmpL_eq {xs ys : List Int} {k : Nat} (h1 : k < xs.length) (h2 : k < ys.length) (h : gI xs k = gI ys k) : cmpL (xs.drop k) (ys.drop k) = cmpL (xs.drop (k + 1)) (ys.drop (k + 1)) := by
  rw [drop_gI h1, drop_gI h2, cmpL, if_neg (by omega), if_neg (by omega)]
theorem cmpL_short {xs ys : List Int} {k : Nat} (h1 : xs.length ≤ k) (h2 : k < ys.length) : cmpL (xs.drop k) (ys.drop k) = -1 := by
  rw [List.drop_eq_nil_of_le h1, drop_gI h2, cmpL]
theorem cmpL_long {xs ys : List Int} {k : Nat} (h1 : k < xs.length) (h2 : ys.length ≤ k) : cmpL (xs.drop k) (ys.drop k) = 1 := by
  rw [List.drop_eq_nil_of_le h2, drop_gI h1, cmpL]
theorem cmpL_both {xs ys : List Int} {k : Nat} (h1 : xs.length ≤ k) (h2 : ys.length ≤ k) : cmpL (xs.drop k) (ys.drop k) = 0 := by
  rw [List.drop_eq_nil_of_le h1, List.drop_eq_nil_of_le h2, cmpL]
theorem cmpL_two (a b c d : Int) : cmpL [a, b] [c, d] = if cmpI a c = 0 then cmpI b d else cmpI a c := by
  unfold cmpL cmpI
  by_cases h1 : a < c
  · simp [h1]
  · by_cases h2 : c < a
    · simp [h1, h2]
    · simp [h1, h2, cmpL]
/-- What ComparePanels answers. -/
def cmpP (p q : Pan) : Int := if cmpI p.W q.W = 0 then if cmpI p.H q.H = 0 then cmpL p.B q.B else cmpI p.H q.H else cmpI p.W q.W
theorem cmpP_bd (p q : Pan) : -1 ≤ cmpP p q ∧ cmpP p q ≤ 1 := by
  unfold cmpP
  have := cmpI_bd p.W q.W
  have := cmpI_bd p.H q.H
  have := cmpL_bd p.B q.B
  split
  · split <;> omega
  · omega
end Knot
