/-
  Plain mathematics: Lkb. No program is in sight.
-/
import Derived.Test.YtnldahadldolpaaPlPut
namespace Knot

/-! ### Links laid by the sorted pairs -/

/-- The elements that the pairs name are joined as f tells. -/
def LaidF (f : Int → Int) (Z n : Int) (L : List Int) (l : List (Int × Int)) : Prop := ∀ i, 0 ≤ i → i < n → (∃ r ∈ l, r.1 = Z + i ∨ r.2 = Z + i) → gI L i = f i
theorem laidF_nil (f : Int → Int) (Z n : Int) (L : List Int) : LaidF f Z n L [] := fun i _ _ ⟨r, hr, _⟩ => by simp at hr
theorem laidF_step {f : Int → Int} {Z n : Int} {L : List Int} {l : List (Int × Int)} (hn : (L.length : Int) = n) {i j : Int} (i0 : 0 ≤ i) (i1 : i < n) (j0 : 0 ≤ j) (j1 : j < n) (hij : f i = j) (hji : f j = i) (h : LaidF f Z n L l) :
    LaidF f Z n ((L.set i.toNat j).set j.toNat i) (l ++ [(Z + i, Z + j)]) := by
  intro q q0 q1 hq
  by_cases e1 : q = j
  · subst e1
    unfold gI
    rw [List.getD, List.getElem?_set_self (by rw [List.length_set]; omega)]
    exact hji.symm
  · by_cases e2 : q = i
    · subst e2
      unfold gI
      rw [List.getD, List.getElem?_set_ne (by omega), List.getElem?_set_self (by omega)]
      exact hij.symm
    · have e3 : gI ((L.set i.toNat j).set j.toNat i) q = gI L q := by
        unfold gI
        rw [List.getD, List.getElem?_set_ne (by omega), List.getElem?_set_ne (by omega)]
        rfl
      rw [e3]
      refine h q q0 q1 ?_
      obtain ⟨r, hr, hrq⟩ := hq
      rw [List.mem_append, List.mem_singleton] at hr
      rcases hr with hr | hr
      · exact ⟨r, hr, hrq⟩
      · subst hr
        exfalso
        simp only [] at hrq
        omega
section
variable {p : Pan} (hp : Ok p) {X : Int}
include hp
/-- A sorted pair between two columns is a link. -/
theorem btw_link (hX : 0 < X ∧ X < 2 * p.W) {k : Nat} (hk : k ≤ colN p + 1) {r : Int × Int} (hr : r ∈ btwL p X k) : ∃ i, 0 ≤ i ∧ i < 4 * p.H ∧ r.1 = (X - 1) * (2 * p.H) + i ∧ r.2 = (X - 1) * (2 * p.H) + linkA p X i := by
  obtain ⟨y, q, h1, h2, h3, rfl⟩ := (btwL_mem k).1 hr
  have hH := hp.h1
  have hc : (colN p : Int) = 2 * p.H := by unfold colN; omega
  have hh : Has p X y := ⟨by omega, by omega, by omega, by omega, h2⟩
  obtain ⟨i, i0, i1, e1, e2, _⟩ := pairs_link hp hX hh (a := q.1) (b := q.2) h3
  have hinv := linkA_inv (p := p) (X := X) i0 i1
  obtain ⟨j0, j1, _⟩ := linkA_rng (p := p) (X := X) i0 i1
  unfold nrm
  rw [e1, e2]
  by_cases h : i ≤ linkA p X i
  · exact ⟨i, i0, i1, by simp only []; omega, by simp only []; omega⟩
  · exact ⟨linkA p X i, j0, j1, by simp only []; omega, by rw [hinv]; simp only []; omega⟩
theorem btw_all (hX : 0 < X ∧ X < 2 * p.W) {L : List Int} (hl : L.length = 2 * colN p) (h : LaidF (linkA p X) ((X - 1) * (2 * p.H)) (4 * p.H) L (btwL p X (colN p + 1))) : L = links p X := by
  have hH := hp.h1
  have hc : (colN p : Int) = 2 * p.H := by unfold colN; omega
  have hll : (links p X).length = 2 * colN p := by unfold links colN; simp
  refine List.ext_getElem (by rw [hl, hll]) fun i h1 h2 => ?_
  have i1 : (i : Int) < 4 * p.H := by omega
  have e1 : gI L (i : Int) = L[i] := by simp [gI, List.getD, h1]
  have e2 : gI (links p X) (i : Int) = (links p X)[i] := by simp [gI, List.getD, h2]
  rw [← e1, ← e2, links_get (by omega) i1]
  refine h i (by omega) i1 ?_
  obtain ⟨a, b, hab, hor⟩ := pairs_all hp hX (i := (i : Int)) (by omega) i1
  have hpt := pt_has hX (i := (i : Int)) (by omega) i1
  obtain ⟨y, hy⟩ := Int.eq_ofNat_of_zero_le hpt.2.2.1
  refine ⟨nrm (a, b), (btwL_mem _).2 ⟨y, (a, b), ?_, ?_, ?_, rfl⟩, ?_⟩
  · have := hpt.2.2.2.1; omega
  · have := hpt.2.2.2.2; rw [hy] at this; exact this
  · rw [← hy]; exact hab
  · unfold nrm
    simp only []
    omega
/-- The other one of two neighbours. -/
def nbrF (i : Int) : Int := if i % 2 = 0 then i + 1 else i - 1
theorem btw_right {k : Nat} (hk : k ≤ colN p + 1) {r : Int × Int} (hr : r ∈ btwL p (2 * p.W) k) : ∃ i, 0 ≤ i ∧ i < 2 * p.H ∧ r.1 = (2 * p.W - 1) * (2 * p.H) + i ∧ r.2 = (2 * p.W - 1) * (2 * p.H) + nbrF i := by
  obtain ⟨y, q, h1, h2, h3, rfl⟩ := (btwL_mem k).1 hr
  have hH := hp.h1
  have hW := hp.w1
  have hc : (colN p : Int) = 2 * p.H := by unfold colN; omega
  unfold pairsP at h3
  rw [if_neg (by omega), if_pos rfl, List.mem_singleton] at h3
  have s1 := (sg_is (p := p) (2 * p.W) y (-1)).2
  have s2 := (sg_is (p := p) (2 * p.W) y 1).2
  rw [s1, s2] at h3
  rw [h3]
  unfold nrm
  simp only []
  generalize (2 * p.W - 1) * (2 * p.H) = Z
  refine ⟨(y : Int) - 1, by omega, by omega, by omega, ?_⟩
  unfold nbrF
  rw [if_pos (by omega)]
  omega
theorem right_all {L : List Int} (hl : L.length = colN p) (h : LaidF nbrF ((2 * p.W - 1) * (2 * p.H)) (2 * p.H) L (btwL p (2 * p.W) (colN p + 1))) : L = nbrsK (colN p) := by
  have hH := hp.h1
  have hW := hp.w1
  have hc : (colN p : Int) = 2 * p.H := by unfold colN; omega
  have hll : (nbrsK (colN p)).length = colN p := by simp [nbrsK]
  refine List.ext_getElem (by rw [hl, hll]) fun i h1 h2 => ?_
  have i1 : (i : Int) < 2 * p.H := by omega
  have e1 : gI L (i : Int) = L[i] := by simp [gI, List.getD, h1]
  have e2 : gI (nbrsK (colN p)) (i : Int) = (nbrsK (colN p))[i] := by simp [gI, List.getD, h2]
  rw [← e1, ← e2, nbrsK_get (by omega) (by omega)]
  refine h i (by omega) i1 ?_
  have s := fun y : Int => (sg_is (p := p) (2 * p.W) y (-1)).2
  have s' := fun y : Int => (sg_is (p := p) (2 * p.W) y 1).2
  obtain ⟨y, hy⟩ : ∃ y : Nat, y = if i % 2 = 0 then i + 1 else i := ⟨_, rfl⟩
  refine ⟨nrm (sg p (2 * p.W) y (-1) (-1), sg p (2 * p.W) y (-1) 1), (btwL_mem _).2 ⟨y, _, ?_, ?_, ?_, rfl⟩, ?_⟩
  · split at hy <;> omega
  · split at hy <;> omega
  · unfold pairsP
    rw [if_neg (by omega), if_pos rfl]
    simp
  · rw [s, s']
    unfold nrm
    simp only []
    generalize (2 * p.W - 1) * (2 * p.H) = Z
    split at hy <;> omega
end
theorem nbrF_inv {n : Nat} (hn : n % 2 = 0) {i : Int} (i0 : 0 ≤ i) (i1 : i < n) : 0 ≤ nbrF i ∧ nbrF i < n ∧ nbrF (nbrF i) = i := by
  unfold nbrF
  split <;> (refine ⟨by omega, by omega, ?_⟩; split <;> omega)
end Knot
