/-
  Plain mathematics: Jn2. No program is in sight.
-/
import Derived.Test.YtcfdbjjfdddfeaaPlGrp
namespace Knot

/-! ### Joining, undone -/

/-- What a joining does: nothing, or one element more in the log and one parent. -/
theorem join_undo {par log : List Int} {x y : Int} (hx0 : 0 ≤ x) (hx1 : x < par.length) (hy0 : 0 ≤ y) (hy1 : y < par.length) (hxr : gI par x = x) (hyr : gI par y = y) :
    (joinR par log x y = (par, log)) ∨
    ((joinR par log x y).2.length = log.length + 1 ∧ (joinR par log x y).1.set (gI (joinR par log x y).2 (((joinR par log x y).2.length : Int) - 1)).toNat (gI (joinR par log x y).2 (((joinR par log x y).2.length : Int) - 1)) = par ∧
      (joinR par log x y).2.take ((joinR par log x y).2.length - 1) = log) := by
  by_cases e : x = y
  · left; simp [joinR, e]
  · right
    have hm : gI par (max x y) = max x y := by
      rcases (show max x y = x ∨ max x y = y by omega) with h' | h' <;> rw [h'] <;> assumption
    have hlt : (max x y).toNat < par.length := by omega
    have h1 : (joinR par log x y) = (par.set (max x y).toNat (min x y), log ++ [max x y]) := by simp [joinR, e]
    rw [h1]
    have hg : gI (log ++ [max x y]) (((log ++ [max x y]).length : Int) - 1) = max x y := by
      have : (((log ++ [max x y]).length : Int) - 1) = (log.length : Int) := by simp
      rw [this]
      unfold gI
      simp [List.getD]
    simp only []
    rw [hg]
    refine ⟨by simp, ?_, by simp⟩
    apply List.ext_getElem?
    intro i
    rw [List.set_set, List.getElem?_set]
    by_cases hi : (max x y).toNat = i
    · subst hi
      rw [if_pos rfl, if_pos hlt, List.getElem?_eq_getElem hlt]
      have : gI par (max x y) = par[(max x y).toNat] := by unfold gI; simp [List.getD, hlt]
      rw [hm] at this
      rw [← this]
    · rw [if_neg hi]
/-- After joining both stand in one group. -/
theorem join_one {par log : List Int} (h : OkJ par log) {a b : Int} (a0 : 0 ≤ a) (a1 : a < par.length) (b0 : 0 ≤ b) (b1 : b < par.length) :
    root (joinR par log (root par a) (root par b)).1 a = root (joinR par log (root par a) (root par b)).1 b := by
  obtain ⟨r0, r1, r2⟩ := root_spec h.forest a0 a1
  obtain ⟨s0, s1, s2⟩ := root_spec h.forest b0 b1
  rw [root_join h r0 r1 s0 s1 r2 s2 a0 a1, root_join h r0 r1 s0 s1 r2 s2 b0 b1, if_pos (.inl rfl), if_pos (.inr rfl)]
end Knot
