/-
  Plain mathematics: Draw. No program is in sight.
-/
import Derived.Test.YtnldahadldolpaaPlLoops
namespace Knot

/-! ### A pairing drawn by shuffling -/

/-- The numbers below k in some order. -/
structure Shuf (k : Nat) (l : List Int) : Prop where
  len : l.length = k
  rng : ∀ i : Int, 0 ≤ i → i < k → 0 ≤ gI l i ∧ gI l i < k
  inj : ∀ i j : Int, 0 ≤ i → i < k → 0 ≤ j → j < k → gI l i = gI l j → i = j

theorem gI_app_l (l : List Int) (x : Int) {i : Int} (h0 : 0 ≤ i) (h1 : i < l.length) : gI (l ++ [x]) i = gI l i := by
  unfold gI
  simp only [List.getD]
  rw [List.getElem?_append_left (by omega)]
theorem gI_app_r (l : List Int) (x : Int) : gI (l ++ [x]) (l.length : Int) = x := by
  simp [gI, List.getD]
theorem gI_set (l : List Int) (k x : Int) {i : Int} (k0 : 0 ≤ k) (i0 : 0 ≤ i) (h : k < l.length) : gI (l.set k.toNat x) i = if i = k then x else gI l i := by
  unfold gI
  simp only [List.getD, List.getElem?_set]
  by_cases e : i = k
  · subst e
    rw [if_pos rfl, if_pos (by omega), if_pos rfl]
    rfl
  · rw [if_neg (by omega), if_neg e]

theorem Shuf.next {k : Nat} {l : List Int} (h : Shuf k l) {a : Int} (a0 : 0 ≤ a) (a1 : a ≤ k) : Shuf (k + 1) (((l ++ [(k : Int)]).set k (gI (l ++ [(k : Int)]) a)).set a.toNat k) := by
  have hl := h.len
  have hk : ∀ i : Int, 0 ≤ i → i ≤ k → gI (l ++ [(k : Int)]) i = if i = k then (k : Int) else gI l i := by
    intro i i0 i1
    by_cases e : i = k
    · subst e
      rw [if_pos rfl]
      have := gI_app_r l (k : Int)
      rw [hl] at this
      exact this
    · rw [if_neg e]
      exact gI_app_l l _ i0 (by omega)
  have hv : ∀ i : Int, 0 ≤ i → i ≤ k → gI (((l ++ [(k : Int)]).set k (gI (l ++ [(k : Int)]) a)).set a.toNat k) i = if i = a then (k : Int) else if i = k then gI l a else gI l i := by
    intro i i0 i1
    rw [gI_set _ a k a0 i0 (by simp; omega)]
    by_cases e : i = a
    · rw [if_pos e, if_pos e]
    · rw [if_neg e, if_neg e]
      have := gI_set (l ++ [(k : Int)]) (k : Int) (gI (l ++ [(k : Int)]) a) (i := i) (by omega) i0 (by simp; omega)
      rw [Int.toNat_natCast] at this
      rw [this]
      by_cases e2 : i = k
      · rw [if_pos e2, if_pos e2, hk a a0 a1, if_neg (by omega)]
      · rw [if_neg e2, if_neg e2, hk i i0 i1, if_neg e2]
  refine ⟨by simp [hl], fun i i0 i1 => ?_, fun i j i0 i1 j0 j1 he => ?_⟩
  · rw [hv i i0 (by omega)]
    by_cases e : i = a
    · rw [if_pos e]; omega
    · rw [if_neg e]
      by_cases e2 : i = k
      · rw [if_pos e2]
        have := h.rng a a0 (by omega)
        omega
      · rw [if_neg e2]
        have := h.rng i i0 (by omega)
        omega
  · rw [hv i i0 (by omega), hv j j0 (by omega)] at he
    by_cases e : i = a
    · by_cases e' : j = a
      · omega
      · rw [if_pos e, if_neg e'] at he
        by_cases e2 : j = k
        · rw [if_pos e2] at he
          have := h.rng a a0 (by omega)
          omega
        · rw [if_neg e2] at he
          have := h.rng j j0 (by omega)
          omega
    · rw [if_neg e] at he
      by_cases e' : j = a
      · rw [if_pos e'] at he
        by_cases e2 : i = k
        · rw [if_pos e2] at he
          have := h.rng a a0 (by omega)
          omega
        · rw [if_neg e2] at he
          have := h.rng i i0 (by omega)
          omega
      · rw [if_neg e'] at he
        by_cases e2 : i = k
        · by_cases e3 : j = k
          · omega
          · rw [if_pos e2, if_neg e3] at he
            have := h.inj a j a0 (by omega) j0 (by omega) he
            omega
        · rw [if_neg e2] at he
          by_cases e3 : j = k
          · rw [if_pos e3] at he
            have := h.inj i a i0 (by omega) a0 (by omega) he
            omega
          · rw [if_neg e3] at he
            exact h.inj i j i0 (by omega) j0 (by omega) he

/-- Each number below k is somewhere. -/
theorem Shuf.all {k : Nat} {l : List Int} (h : Shuf k l) {v : Int} (v0 : 0 ≤ v) (v1 : v < k) : ∃ i : Int, 0 ≤ i ∧ i < k ∧ gI l i = v := by
  apply Classical.byContradiction
  intro hno
  -- the k values and v are k + 1 different numbers below k
  have hnd : (v.toNat :: (List.range k).map fun i : Nat => (gI l i).toNat).Nodup := by
    rw [List.nodup_cons]
    constructor
    · intro hm
      obtain ⟨i, hi, he⟩ := List.mem_map.1 hm
      have hi' := List.mem_range.1 hi
      have := h.rng i (by omega) (by omega)
      exact hno ⟨i, by omega, by omega, by omega⟩
    · rw [List.nodup_iff_pairwise_ne, List.pairwise_map, List.pairwise_iff_getElem]
      intro i j hi hj hij e
      simp only [List.length_range, List.getElem_range] at hi hj e
      have a1 := h.rng i (by omega) (by omega)
      have a2 := h.rng j (by omega) (by omega)
      have := h.inj i j (by omega) (by omega) (by omega) (by omega) (by omega)
      omega
  have := pigeon k _ hnd (by
    intro x hx
    rcases List.mem_cons.1 hx with rfl | hx
    · omega
    · obtain ⟨i, hi, rfl⟩ := List.mem_map.1 hx
      have hi' := List.mem_range.1 hi
      have := h.rng i (by omega) (by omega)
      omega)
  simp at this
  omega

/-- The first k couples are paired. -/
structure Coup (n k : Nat) (l out : List Int) : Prop where
  len : out.length = n
  fst : ∀ i : Int, 0 ≤ i → i < k → gI out (gI l (2 * i)) = gI l (2 * i + 1)
  snd : ∀ i : Int, 0 ≤ i → i < k → gI out (gI l (2 * i + 1)) = gI l (2 * i)
theorem Coup.next {m k : Nat} {l out : List Int} (hl : Shuf (2 * m) l) (h : Coup (2 * m) k l out) (hk : k < m) :
    Coup (2 * m) (k + 1) l ((out.set (gI l (2 * (k : Int))).toNat (gI l (2 * (k : Int) + 1))).set (gI l (2 * (k : Int) + 1)).toNat (gI l (2 * (k : Int)))) := by
  have r0 := hl.rng (2 * (k : Int)) (by omega) (by omega)
  have r1 := hl.rng (2 * (k : Int) + 1) (by omega) (by omega)
  have hne : gI l (2 * (k : Int)) ≠ gI l (2 * (k : Int) + 1) := fun e => by
    have := hl.inj _ _ (by omega) (by omega) (by omega) (by omega) e
    omega
  have hlen := h.len
  have hv : ∀ x : Int, 0 ≤ x → gI ((out.set (gI l (2 * (k : Int))).toNat (gI l (2 * (k : Int) + 1))).set (gI l (2 * (k : Int) + 1)).toNat (gI l (2 * (k : Int)))) x =
      if x = gI l (2 * (k : Int) + 1) then gI l (2 * (k : Int)) else if x = gI l (2 * (k : Int)) then gI l (2 * (k : Int) + 1) else gI out x := by
    intro x x0
    rw [gI_set _ _ _ r1.1 x0 (by simp; omega), gI_set _ _ _ r0.1 x0 (by omega)]
  refine ⟨by simp [hlen], fun i i0 i1 => ?_, fun i i0 i1 => ?_⟩
  · have q := hl.rng (2 * i) (by omega) (by omega)
    rw [hv _ q.1]
    by_cases e : i = k
    · subst e
      rw [if_neg hne, if_pos rfl]
    · rw [if_neg, if_neg, h.fst i i0 (by omega)]
      · intro e2
        have := hl.inj _ _ (by omega) (by omega) (by omega) (by omega) e2
        omega
      · intro e2
        have := hl.inj _ _ (by omega) (by omega) (by omega) (by omega) e2
        omega
  · have q := hl.rng (2 * i + 1) (by omega) (by omega)
    rw [hv _ q.1]
    by_cases e : i = k
    · subst e
      rw [if_pos rfl]
    · rw [if_neg, if_neg, h.snd i i0 (by omega)]
      · intro e2
        have := hl.inj _ _ (by omega) (by omega) (by omega) (by omega) e2
        omega
      · intro e2
        have := hl.inj _ _ (by omega) (by omega) (by omega) (by omega) e2
        omega
theorem Coup.pairing {m : Nat} {l out : List Int} (hl : Shuf (2 * m) l) (h : Coup (2 * m) m l out) : Pairing (2 * m) out := by
  have key : ∀ v : Int, 0 ≤ v → v < (2 * m : Nat) → (0 ≤ gI out v ∧ gI out v < (2 * m : Nat)) ∧ gI out v ≠ v ∧ gI out (gI out v) = v := by
    intro v v0 v1
    obtain ⟨i, i0, i1, rfl⟩ := hl.all v0 v1
    rcases (show (∃ j : Int, 0 ≤ j ∧ j < m ∧ i = 2 * j) ∨ ∃ j : Int, 0 ≤ j ∧ j < m ∧ i = 2 * j + 1 from by
      by_cases hp : i % 2 = 0
      · exact .inl ⟨i / 2, by omega, by omega, by omega⟩
      · exact .inr ⟨i / 2, by omega, by omega, by omega⟩) with ⟨j, j0, j1, rfl⟩ | ⟨j, j0, j1, rfl⟩
    · rw [h.fst j j0 j1, h.snd j j0 j1]
      refine ⟨hl.rng _ (by omega) (by omega), fun e => ?_, rfl⟩
      have := hl.inj _ _ (by omega) (by omega) (by omega) (by omega) e
      omega
    · rw [h.snd j j0 j1, h.fst j j0 j1]
      refine ⟨hl.rng _ (by omega) (by omega), fun e => ?_, rfl⟩
      have := hl.inj _ _ (by omega) (by omega) (by omega) (by omega) e
      omega
  exact ⟨h.len, fun i a b => (key i a b).1.1, fun i a b => (key i a b).1.2, fun i a b => (key i a b).2.1, fun i a b => (key i a b).2.2⟩
end Knot
