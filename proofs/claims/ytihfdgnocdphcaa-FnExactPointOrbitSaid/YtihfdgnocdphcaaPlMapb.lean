/-
  Plain mathematics: Mapb. No program is in sight.
-/
import Derived.Test.YtihfdgnocdphcaaPlMap
import Derived.Test.YtihfdgnocdphcaaPlCmp
namespace Knot

/-! ### The symmetries of a panel, the least panel -/

theorem mapN_zero {W H k : Int} (h : 1 ≤ W ∧ W ≤ 8) (k0 : 0 ≤ k) : mapN W H 0 k = k := by
  have := pt_num h.1 h.2 k0
  simpa [mapN, mapX, mapW] using this
theorem mapTo_zero {W H : Int} {B : List Int} (h : 1 ≤ W ∧ W ≤ 8) : ∀ k, k ≤ B.length → mapTo W H 0 B B.length k = B.take k ++ List.replicate (B.length - k) 0
  | 0, _ => by simp [mapTo]
  | k + 1, hk => by
    rw [mapTo, mapTo_zero h k (by omega), mapN_zero h (by omega)]
    have e : kindX (gI B k) 0 = gI B k := by simp [kindX]
    have h1 : (B.take k).length = k := by simp; omega
    rw [e, Int.toNat_natCast, List.set_append_right _ _ (by omega), h1, Nat.sub_self, show B.length - k = (B.length - (k + 1)) + 1 by omega, List.replicate_succ, List.set_cons_zero, List.take_add_one]
    have hg : B[k]? = some (gI B k) := by
      have : k < B.length := by omega
      simp [gI, List.getD, this]
    rw [hg]
    simp
theorem mapP_zero {p : Pan} (h : 1 ≤ p.W ∧ p.W ≤ 8) : mapP p 0 = p := by
  obtain ⟨W, H, B⟩ := p
  have e := mapTo_zero (H := H) (B := B) h B.length (Nat.le_refl _)
  simp only [mapP, mapW, mapH] at *
  simp at e ⊢
  exact e
/-- The symmetries that do not change a panel, of the first k. -/
def symsTo (p : Pan) : Nat → List Int
  | 0 => []
  | k + 1 => if mapP p k = p then symsTo p k ++ [(k : Int)] else symsTo p k
theorem symsTo_length (p : Pan) : ∀ k, (symsTo p k).length ≤ k
  | 0 => Nat.le_refl _
  | k + 1 => by
    unfold symsTo
    have := symsTo_length p k
    split
    · simp; omega
    · omega
theorem symsTo_yes {p : Pan} {k : Nat} (h : mapP p k = p) : symsTo p (k + 1) = symsTo p k ++ [(k : Int)] := by rw [symsTo, if_pos h]
theorem symsTo_no {p : Pan} {k : Nat} (h : ¬ mapP p k = p) : symsTo p (k + 1) = symsTo p k := by rw [symsTo, if_neg h]
/-- The least panel among those to which the first symmetries move. -/
def leastTo (p : Pan) : Nat → Pan
  | 0 => p
  | k + 1 => if cmpP (mapP p ((k + 1 : Nat) : Int)) (leastTo p k) < 0 then mapP p ((k + 1 : Nat) : Int) else leastTo p k
theorem leastTo_yes {p : Pan} {k : Nat} (h : cmpP (mapP p ((k + 1 : Nat) : Int)) (leastTo p k) < 0) : leastTo p (k + 1) = mapP p ((k + 1 : Nat) : Int) := by rw [leastTo, if_pos h]
theorem leastTo_no {p : Pan} {k : Nat} (h : ¬ cmpP (mapP p ((k + 1 : Nat) : Int)) (leastTo p k) < 0) : leastTo p (k + 1) = leastTo p k := by rw [leastTo, if_neg h]
theorem mapP_len (p : Pan) (s : Int) : (mapP p s).B.length = p.B.length := mapTo_length _ _ _ _ _ _
theorem leastTo_len (p : Pan) : ∀ k, (leastTo p k).B.length = p.B.length
  | 0 => rfl
  | k + 1 => by
    unfold leastTo
    split
    · exact mapP_len p _
    · exact leastTo_len p k
theorem mapP_eq (W H s : Int) (B : List Int) (p' : Pan) : mapP ⟨W, H, B⟩ s = p' ↔ mapW W H s = p'.W ∧ mapH W H s = p'.H ∧ mapTo W H s B B.length B.length = p'.B := by
  obtain ⟨a, b, c⟩ := p'
  simp [mapP]
end Knot
