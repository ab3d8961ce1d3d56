/-
  Plain mathematics: Syp. No program is in sight.
-/
import Derived.Test.YtihfdgnocdphcaaPlSym
namespace Knot

/-! ### Panels made symmetric: points moved again and again -/

/-- The number of a point that a symmetry has moved some times. -/
def itN (W H s k : Int) : Nat → Int
  | 0 => k
  | i + 1 => mapN W H s (itN W H s k i)
/-- A kind that a symmetry has moved some times. -/
def itK (s kd : Int) : Nat → Int
  | 0 => kd
  | i + 1 => kindX (itK s kd i) s
/-- After how many moves a point is back. -/
def perN (W H s k : Int) : Nat := if itN W H s k 1 = k then 1 else if itN W H s k 2 = k then 2 else if itN W H s k 3 = k then 3 else 4
/-- The places of a point, one after the other. -/
def cycL (W H s k : Int) : Nat → List Int
  | 0 => []
  | m + 1 => cycL W H s k m ++ [itN W H s k m]
def wrS (W H s k kd : Int) (out : List Int) : Nat → List Int
  | 0 => out
  | m + 1 => (wrS W H s k kd out m).set (itN W H s k m).toNat (itK s kd m)
def mkS (W H s k : Int) (done : List Bool) : Nat → List Bool
  | 0 => done
  | m + 1 => (mkS W H s k done m).set (itN W H s k m).toNat true
/-- The kind that a cycle begins with. -/
def kd0 (W H s : Int) (B : List Int) (k : Int) : Int := if 4 ≤ s ∧ perN W H s k % 2 = 1 then 0 else gI B k
def symTo (W H s : Int) (B : List Int) : Nat → List Int × List Bool
  | 0 => (B, List.replicate B.length false)
  | k + 1 => if gB (symTo W H s B k).2 k then symTo W H s B k
    else (wrS W H s k (kd0 W H s B k) (symTo W H s B k).1 (perN W H s k), mkS W H s k (symTo W H s B k).2 (perN W H s k))

theorem cycL_len (W H s k : Int) : ∀ m, (cycL W H s k m).length = m
  | 0 => rfl
  | m + 1 => by simp [cycL, cycL_len W H s k m]
theorem cycL_get (W H s k : Int) : ∀ m (i : Nat), i < m → gI (cycL W H s k m) i = itN W H s k i
  | 0, i, h => by omega
  | m + 1, i, h => by
    have hl := cycL_len W H s k m
    by_cases e : i = m
    · subst e
      simp [cycL, gI, List.getD, hl]
    · have ih := cycL_get W H s k m i (by omega)
      rw [← ih]
      simp [cycL, gI, List.getD, List.getElem?_append, hl, show i < m by omega]
theorem wrS_len (W H s k kd : Int) (out : List Int) : ∀ m, (wrS W H s k kd out m).length = out.length
  | 0 => rfl
  | m + 1 => by rw [wrS, List.length_set, wrS_len W H s k kd out m]
theorem mkS_len (W H s k : Int) (done : List Bool) : ∀ m, (mkS W H s k done m).length = done.length
  | 0 => rfl
  | m + 1 => by rw [mkS, List.length_set, mkS_len W H s k done m]
theorem symTo_len (W H s : Int) (B : List Int) : ∀ k, (symTo W H s B k).1.length = B.length ∧ (symTo W H s B k).2.length = B.length
  | 0 => by simp [symTo]
  | k + 1 => by
    have ih := symTo_len W H s B k
    unfold symTo
    split
    · exact ih
    · rw [wrS_len, mkS_len]
      exact ih
theorem symTo_yes {W H s : Int} {B : List Int} {k : Nat} (h : gB (symTo W H s B k).2 k = true) : symTo W H s B (k + 1) = symTo W H s B k := by rw [symTo, if_pos h]
theorem symTo_no {W H s : Int} {B : List Int} {k : Nat} (h : gB (symTo W H s B k).2 k = false) :
    symTo W H s B (k + 1) = (wrS W H s k (kd0 W H s B k) (symTo W H s B k).1 (perN W H s k), mkS W H s k (symTo W H s B k).2 (perN W H s k)) := by rw [symTo, if_neg (by simp [h])]

section
variable {W H s : Int} (hW : 1 ≤ W ∧ W ≤ 8) (hH : 1 ≤ H ∧ H ≤ 8) (s0 : 0 ≤ s) (s7 : s ≤ 7) (hq : 4 ≤ s → W = H)
include hW hH s0 s7 hq
omit hq in
theorem itN_in {k : Int} (k0 : 0 ≤ k) (k1 : k < inner W H) : ∀ i, 0 ≤ itN W H s k i ∧ itN W H s k i < inner W H
  | 0 => ⟨k0, k1⟩
  | i + 1 => by
    have ih := itN_in k0 k1 i
    exact mapN_in hW hH s0 s7 ih.1 ih.2
omit hW hH s0 s7 in
theorem sq_map : mapW W H s = W ∧ mapH W H s = H := by
  unfold mapW mapH
  by_cases h : 4 ≤ s
  · rw [if_pos h, if_pos h]
    have := hq h
    omega
  · rw [if_neg h, if_neg h]
    exact ⟨rfl, rfl⟩
omit hH in
/-- The point of a moved number is the moved point. -/
theorem mapN_at {k : Int} (k0 : 0 ≤ k) (k1 : k < inner W H) : (ptX W (mapN W H s k), ptY W (mapN W H s k)) = mapX W H (ptX W k) (ptY W k) s := by
  obtain ⟨a, b, c, d, e⟩ := pt_in hW.1 hW.2 k0 k1
  obtain ⟨a', b', c', d', e'⟩ := mapX_in a b c d e s0 s7
  have hm := sq_map hq
  rw [hm.1] at b'
  rw [hm.2] at d'
  have := (num_pt (H := H) hW.1 hW.2 c' d' a' b' e').2.2
  unfold mapN
  rw [hm.1]
  exact Prod.ext this.1 this.2
theorem itN_at {k : Int} (k0 : 0 ≤ k) (k1 : k < inner W H) (i : Nat) : mapX W H (ptX W (itN W H s k i)) (ptY W (itN W H s k i)) s = (ptX W (itN W H s k (i + 1)), ptY W (itN W H s k (i + 1))) := by
  have h := itN_in hW hH s0 s7 k0 k1 i
  exact (mapN_at hW s0 s7 hq h.1 h.2).symm
omit hH s0 s7 hq in
theorem pt_inj {j k : Int} (j0 : 0 ≤ j) (k0 : 0 ≤ k) (h1 : ptX W j = ptX W k) (h2 : ptY W j = ptY W k) : j = k := by
  rw [← pt_num hW.1 hW.2 j0, ← pt_num hW.1 hW.2 k0, h1, h2]
theorem itN_four {k : Int} (k0 : 0 ≤ k) (k1 : k < inner W H) : itN W H s k 4 = k := by
  have h1 := itN_at hW hH s0 s7 hq k0 k1 0
  have h2 := itN_at hW hH s0 s7 hq k0 k1 1
  have h3 := itN_at hW hH s0 s7 hq k0 k1 2
  have h4 := itN_at hW hH s0 s7 hq k0 k1 3
  have hi := itN_in hW hH s0 s7 k0 k1 4
  have e0 : itN W H s k 0 = k := rfl
  rw [e0] at h1
  have key : mapX W H (mapX W H (mapX W H (mapX W H (ptX W k) (ptY W k) s).1 (mapX W H (ptX W k) (ptY W k) s).2 s).1 (mapX W H (mapX W H (ptX W k) (ptY W k) s).1 (mapX W H (ptX W k) (ptY W k) s).2 s).2 s).1
      (mapX W H (mapX W H (mapX W H (ptX W k) (ptY W k) s).1 (mapX W H (ptX W k) (ptY W k) s).2 s).1 (mapX W H (mapX W H (ptX W k) (ptY W k) s).1 (mapX W H (ptX W k) (ptY W k) s).2 s).2 s).2 s = (ptX W k, ptY W k) := by
    generalize ptX W k = x
    generalize ptY W k = y
    rcases sym_cases s0 s7 with rfl | rfl | rfl | rfl | rfl | rfl | rfl | rfl <;> simp [mapX] at hq ⊢ <;> omega
  rw [h1] at key
  simp only [Nat.zero_add, Nat.reduceAdd] at key h2 h3 h4
  rw [h2] at key
  simp only [] at key
  rw [h3] at key
  simp only [] at key
  rw [h4] at key
  exact pt_inj hW hi.1 k0 (congrArg Prod.fst key) (congrArg Prod.snd key)
theorem per_is {k : Int} (k0 : 0 ≤ k) (k1 : k < inner W H) : (1 ≤ perN W H s k ∧ perN W H s k ≤ 4) ∧ itN W H s k (perN W H s k) = k ∧ ∀ i, 1 ≤ i → i < perN W H s k → itN W H s k i ≠ k := by
  have h4 := itN_four hW hH s0 s7 hq k0 k1
  unfold perN
  split
  · exact ⟨by omega, by assumption, fun i _ _ => by omega⟩
  · rename_i n1
    split
    · exact ⟨by omega, by assumption, fun i _ _ => by obtain rfl : i = 1 := by omega
                                                      exact n1⟩
    · rename_i n2
      split
      · refine ⟨by omega, by assumption, fun i _ _ => ?_⟩
        rcases (show i = 1 ∨ i = 2 by omega) with rfl | rfl
        · exact n1
        · exact n2
      · rename_i n3
        refine ⟨by omega, h4, fun i _ _ => ?_⟩
        rcases (show i = 1 ∨ i = 2 ∨ i = 3 by omega) with rfl | rfl | rfl
        · exact n1
        · exact n2
        · exact n3
end
theorem itK_bd {s kd : Int} (h : 0 ≤ kd ∧ kd ≤ 2) : ∀ i, 0 ≤ itK s kd i ∧ itK s kd i ≤ 2
  | 0 => h
  | i + 1 => kindX_bd (itK_bd h i)
theorem itK_zero (s : Int) : ∀ i, itK s 0 i = 0
  | 0 => rfl
  | i + 1 => by rw [itK, itK_zero s i]; simp [kindX]
/-- Zeros over a cycle: what was written before does not matter. -/
theorem wr_zero (W H s k kd : Int) (out : List Int) (T : Nat) : wrS W H s k 0 (wrS W H s k kd out T) T = wrS W H s k 0 out T := by
  have miss : ∀ (c : Int) (o : List Int) (j m : Nat), (∀ i, i < m → (itN W H s k i).toNat ≠ j) → (wrS W H s k c o m)[j]? = o[j]? := by
    intro c o j m
    induction m with
    | zero => intro _; rfl
    | succ m ih =>
      intro h
      rw [wrS, List.getElem?_set_ne (h m (by omega)), ih (fun i hi => h i (by omega))]
  have hit : ∀ (o : List Int) (j m : Nat), (∃ i, i < m ∧ (itN W H s k i).toNat = j) → (wrS W H s k 0 o m)[j]? = if j < o.length then some 0 else none := by
    intro o j m
    induction m with
    | zero => rintro ⟨i, hi, _⟩; omega
    | succ m ih =>
      rintro ⟨i, hi, he⟩
      by_cases e : (itN W H s k m).toNat = j
      · rw [wrS, e, List.getElem?_set, if_pos rfl, wrS_len, itK_zero]
      · rw [wrS, List.getElem?_set_ne e]
        exact ih ⟨i, by rcases Nat.lt_or_ge i m with h | h
                        · exact h
                        · obtain rfl : i = m := by omega
                          exact absurd he e, he⟩
  apply List.ext_getElem?
  intro j
  by_cases h : ∃ i, i < T ∧ (itN W H s k i).toNat = j
  · rw [hit _ j T h, hit _ j T h, wrS_len]
  · have h' : ∀ i, i < T → (itN W H s k i).toNat ≠ j := fun i hi he => h ⟨i, hi, he⟩
    rw [miss _ _ j T h', miss _ _ j T h', miss _ _ j T h']
end Knot
