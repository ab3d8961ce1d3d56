/-
  Plain mathematics: Prs. No program is in sight.
-/
import Derived.Test.YtcfdbjjfdddfeaaPlPut
namespace Knot

/-! ### All points of a panel in order, and the pairs at them -/

/-- The points of the row Y, X below k. -/
def rowPt (y : Int) : Nat → List (Int × Int)
  | 0 => []
  | k + 1 => rowPt y k ++ if ((k : Int) + y) % 2 = 1 then [((k : Int), y)] else []
/-- The points of the rows below m. -/
def allPt (W : Int) : Nat → List (Int × Int)
  | 0 => []
  | m + 1 => allPt W m ++ rowPt (m : Int) (2 * W + 1).toNat
def prsAt (p : Pan) (q : Int × Int) : List (Int × Int) := pairsP p q.1 q.2
def allQ (p : Pan) : List (Int × Int) := (allPt p.W (2 * p.H + 1).toNat).flatMap (prsAt p)
theorem rowPt_yes {y : Int} {k : Nat} (h : ((k : Int) + y) % 2 = 1) : rowPt y (k + 1) = rowPt y k ++ [((k : Int), y)] := by rw [rowPt, if_pos h]
theorem rowPt_no {y : Int} {k : Nat} (h : ¬ ((k : Int) + y) % 2 = 1) : rowPt y (k + 1) = rowPt y k := by rw [rowPt, if_neg h, List.append_nil]
theorem rowPt_len (y : Int) : ∀ k, (rowPt y k).length ≤ k
  | 0 => by simp [rowPt]
  | k + 1 => by
    have := rowPt_len y k
    unfold rowPt
    split <;> simp <;> omega
theorem allPt_len {W : Int} (h : W ≤ 8) : ∀ m, (allPt W m).length ≤ 17 * m
  | 0 => by simp [allPt]
  | m + 1 => by
    have := allPt_len h m
    have h2 := rowPt_len (m : Int) (2 * W + 1).toNat
    rw [allPt, List.length_append]
    omega
theorem rowPt_mem (y : Int) (q : Int × Int) : ∀ k, q ∈ rowPt y k ↔ 0 ≤ q.1 ∧ q.1 < k ∧ q.2 = y ∧ (q.1 + q.2) % 2 = 1
  | 0 => by simp [rowPt]; omega
  | k + 1 => by
    have ih := rowPt_mem y q k
    unfold rowPt
    rw [List.mem_append, ih]
    by_cases h : ((k : Int) + y) % 2 = 1
    · rw [if_pos h, List.mem_singleton]
      constructor
      · rintro (⟨a, b, c, d⟩ | e)
        · exact ⟨a, by omega, c, d⟩
        · subst e; exact ⟨by simp, by simp; omega, rfl, h⟩
      · rintro ⟨a, b, c, d⟩
        by_cases e : q.1 = k
        · exact .inr (Prod.ext e c)
        · exact .inl ⟨a, by omega, c, d⟩
    · rw [if_neg h]
      simp only [List.not_mem_nil, or_false]
      constructor
      · rintro ⟨a, b, c, d⟩
        exact ⟨a, by omega, c, d⟩
      · rintro ⟨a, b, c, d⟩
        refine ⟨a, ?_, c, d⟩
        apply Classical.byContradiction
        intro hk
        have e : q.1 = k := by omega
        rw [e, c] at d
        exact h d
theorem allPt_mem (W : Int) (q : Int × Int) : ∀ m : Nat, q ∈ allPt W m ↔ 0 ≤ q.1 ∧ q.1 < 2 * W + 1 ∧ 0 ≤ q.2 ∧ q.2 < m ∧ (q.1 + q.2) % 2 = 1
  | 0 => by simp [allPt]; omega
  | m + 1 => by
    have ih := allPt_mem W q m
    unfold allPt
    rw [List.mem_append, ih, rowPt_mem]
    constructor
    · rintro (⟨a, b, c, d, e⟩ | ⟨a, b, c, d⟩)
      · exact ⟨a, b, c, by omega, e⟩
      · exact ⟨a, by omega, by omega, by omega, d⟩
    · rintro ⟨a, b, c, d, e⟩
      by_cases h : q.2 = m
      · exact .inr ⟨a, by omega, h, e⟩
      · exact .inl ⟨a, b, c, by omega, e⟩
theorem flatQ_len (p : Pan) : ∀ l : List (Int × Int), (l.flatMap (prsAt p)).length ≤ 2 * l.length
  | [] => by simp
  | a :: t => by
    have := flatQ_len p t
    have h2 := pairsP_len p a.1 a.2
    rw [List.flatMap_cons, List.length_append]
    show (pairsP p a.1 a.2).length + _ ≤ _
    simp only [List.length_cons]
    omega
theorem putAll_len0 (s : List (Int × Int)) : (putAll [] s).length = s.length := by rw [putAll_len]; simp
end Knot
