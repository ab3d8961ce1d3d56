/-
  Plain mathematics: Frt. No program is in sight.
-/
import Derived.Test.YtnldahadldolpaaPlLkb
namespace Knot

/-! ### Columns from the left and from the right are pairings; turned links -/

section
variable {p : Pan} (hp : Ok p)
include hp
theorem colN_int : (colN p : Int) = 2 * p.H := by have := hp.h1; unfold colN; omega
theorem colN_even : colN p % 2 = 0 := by have := hp.h1; unfold colN; omega
theorem colL_pair : ∀ k : Nat, Pairing (colN p) (colL p k).1
  | 0 => nbrsK_pair (colN_even hp)
  | k + 1 => pass_pair (colL_pair k) (links_pair hp.h1 _)
theorem colR_pair : ∀ k : Nat, Pairing (colN p) (colR p k).1
  | 0 => nbrsK_pair (colN_even hp)
  | k + 1 => pass_pair (colR_pair k) (linksR_pair hp.h1 _)
theorem colL_bd : ∀ k : Nat, 0 ≤ (colL p k).2 ∧ (colL p k).2 ≤ 16 * k
  | 0 => ⟨Int.le_refl _, Int.le_refl _⟩
  | k + 1 => by
    have h1 := colL_bd k
    have h2 : 0 ≤ (pass (colL p k).1 (links p ((k : Int) + 1)) (colN p)).2 ∧ (pass (colL p k).1 (links p ((k : Int) + 1)) (colN p)).2 ≤ colN p := cycTo_bd _ _ _ _ _
    have h3 := colN_int hp
    have h4 := hp.h8
    show 0 ≤ (colL p k).2 + _ ∧ (colL p k).2 + _ ≤ 16 * ((k + 1 : Nat) : Int)
    omega
theorem colR_bd : ∀ k : Nat, 0 ≤ (colR p k).2 ∧ (colR p k).2 ≤ 16 * k
  | 0 => ⟨Int.le_refl _, Int.le_refl _⟩
  | k + 1 => by
    have h1 := colR_bd k
    have h2 : 0 ≤ (pass (colR p k).1 (linksR p (2 * p.W - 1 - k)) (colN p)).2 ∧ (pass (colR p k).1 (linksR p (2 * p.W - 1 - k)) (colN p)).2 ≤ colN p := cycTo_bd _ _ _ _ _
    have h3 := colN_int hp
    have h4 := hp.h8
    show 0 ≤ (colR p k).2 + _ ∧ (colR p k).2 + _ ≤ 16 * ((k + 1 : Nat) : Int)
    omega
end
/-- Links turned, when the first k have been laid. -/
def Turned (p : Pan) (X : Int) (T : List Int) (k : Nat) : Prop := ∀ i : Nat, i < k → gI T (swp p i) = swp p (linkA p X i)
theorem turned_step {p : Pan} (hH : 1 ≤ p.H) {X : Int} {T : List Int} (hl : T.length = 2 * colN p) {k : Nat} (hk : k < 2 * colN p) (h : Turned p X T k) : Turned p X (T.set (swp p k).toNat (swp p (linkA p X k))) (k + 1) := by
  have hc : (colN p : Int) = 2 * p.H := by unfold colN; omega
  intro i hi
  obtain ⟨_, s1, s2⟩ := swp_swp (p := p) (i := (k : Int)) (by omega) (by omega)
  by_cases e : i = k
  · subst e
    unfold gI
    rw [List.getD, List.getElem?_set_self (by omega)]
    rfl
  · obtain ⟨t0, t1, t2⟩ := swp_swp (p := p) (i := (i : Int)) (by omega) (by omega)
    have hne : (swp p k).toNat ≠ (swp p i).toNat := by
      intro e2
      have e3 : swp p k = swp p i := by omega
      have := (swp_swp (p := p) (i := (k : Int)) (by omega) (by omega)).1
      rw [e3, t0] at this
      omega
    unfold gI
    rw [List.getD, List.getElem?_set_ne hne]
    exact h i (by omega)
theorem turned_all {p : Pan} (hH : 1 ≤ p.H) {X : Int} {T : List Int} (hl : T.length = 2 * colN p) (h : Turned p X T (2 * colN p)) : T = linksR p X := by
  have hc : (colN p : Int) = 2 * p.H := by unfold colN; omega
  have hll : (linksR p X).length = 2 * colN p := by unfold linksR colN; simp
  refine List.ext_getElem (by rw [hl, hll]) fun i h1 h2 => ?_
  have i1 : (i : Int) < 4 * p.H := by omega
  have e1 : gI T (i : Int) = T[i] := by simp [gI, List.getD, h1]
  have e2 : gI (linksR p X) (i : Int) = (linksR p X)[i] := by simp [gI, List.getD, h2]
  rw [← e1, ← e2, linksR_get (by omega) i1]
  obtain ⟨s1, s2, s3⟩ := swp_swp (p := p) (i := (i : Int)) (by omega) i1
  obtain ⟨q, hq⟩ := Int.eq_ofNat_of_zero_le s2
  have := h q (by omega)
  rw [← hq, s1] at this
  exact this
theorem swp_mod {p : Pan} (hH : 1 ≤ p.H) {i : Int} (h0 : 0 ≤ i) (h1 : i < 4 * p.H) : (i + 2 * p.H) % (2 * (2 * p.H)) = swp p i := by
  unfold swp
  by_cases h : i < 2 * p.H
  · rw [if_pos h, Int.emod_eq_of_lt (by omega) (by omega)]
  · rw [if_neg h, show i + 2 * p.H = (i - 2 * p.H) + 2 * (2 * p.H) by omega, Int.add_emod_right, Int.emod_eq_of_lt (by omega) (by omega)]
end Knot
