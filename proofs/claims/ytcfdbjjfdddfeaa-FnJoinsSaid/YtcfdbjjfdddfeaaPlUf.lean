/-
  Plain mathematics: Uf. No program is in sight.
-/
import Derived.Test.YtcfdbjjfdddfeaaPlPass
namespace Knot

/-! ### Elements in groups: roots along parents -/

def rootF (par : List Int) : Nat → Int → Int
  | 0, k => k
  | f + 1, k => if gI par k = k then k else rootF par f (gI par k)

/-- Parents that lead to a root: a height that falls. -/
structure Forest (n : Nat) (par : List Int) (ht : Int → Nat) : Prop where
  len : par.length = n
  lo : ∀ k : Int, 0 ≤ k → k < n → 0 ≤ gI par k
  hi : ∀ k : Int, 0 ≤ k → k < n → gI par k < n
  falls : ∀ k : Int, 0 ≤ k → k < n → gI par k ≠ k → ht (gI par k) < ht k
  small : ∀ k : Int, 0 ≤ k → k < n → ht k ≤ n

theorem rootF_more {n : Nat} {par : List Int} {ht : Int → Nat} (h : Forest n par ht) : ∀ (f : Nat) (k : Int), 0 ≤ k → k < n → ht k ≤ f →
    (0 ≤ rootF par f k ∧ rootF par f k < n ∧ gI par (rootF par f k) = rootF par f k) ∧ ∀ g, ht k ≤ g → rootF par g k = rootF par f k
  | 0, k, h0, h1, hf => by
    have hr : gI par k = k := by
      apply Classical.byContradiction
      intro hne
      have := h.falls k h0 h1 hne
      omega
    refine ⟨⟨h0, h1, hr⟩, fun g _ => ?_⟩
    cases g with
    | zero => rfl
    | succ g => show (if gI par k = k then k else _) = k; rw [if_pos hr]
  | f + 1, k, h0, h1, hf => by
    by_cases hr : gI par k = k
    · have e : rootF par (f + 1) k = k := by show (if gI par k = k then k else _) = k; rw [if_pos hr]
      rw [e]
      refine ⟨⟨h0, h1, hr⟩, fun g _ => ?_⟩
      cases g with
      | zero => rfl
      | succ g => show (if gI par k = k then k else _) = k; rw [if_pos hr]
    · have e : rootF par (f + 1) k = rootF par f (gI par k) := by show (if gI par k = k then k else _) = _; rw [if_neg hr]
      have hfall := h.falls k h0 h1 hr
      obtain ⟨h2, h3⟩ := rootF_more h f (gI par k) (h.lo k h0 h1) (h.hi k h0 h1) (by omega)
      rw [e]
      refine ⟨h2, fun g hg => ?_⟩
      cases g with
      | zero => omega
      | succ g =>
        show (if gI par k = k then k else rootF par g (gI par k)) = _
        rw [if_neg hr]
        exact h3 g (by omega)

def root (par : List Int) (k : Int) : Int := rootF par par.length k

section
variable {n : Nat} {par : List Int} {ht : Int → Nat} (h : Forest n par ht)
include h

theorem root_spec {k : Int} (h0 : 0 ≤ k) (h1 : k < n) : 0 ≤ root par k ∧ root par k < n ∧ gI par (root par k) = root par k := by
  unfold root
  rw [h.len]
  exact (rootF_more h n k h0 h1 (h.small k h0 h1)).1

theorem root_of_root {k : Int} (h0 : 0 ≤ k) (h1 : k < n) (hr : gI par k = k) : root par k = k := by
  unfold root
  rw [(rootF_more h (ht k) k h0 h1 (Nat.le_refl _)).2 par.length (by rw [h.len]; exact h.small k h0 h1)]
  cases ht k with
  | zero => rfl
  | succ f => show (if gI par k = k then k else _) = k; rw [if_pos hr]

theorem root_step {k : Int} (h0 : 0 ≤ k) (h1 : k < n) : root par k = root par (gI par k) := by
  by_cases hr : gI par k = k
  · rw [hr]
  · have hf := h.falls k h0 h1 hr
    have hs := h.small k h0 h1
    unfold root
    rw [h.len]
    obtain ⟨m, rfl⟩ : ∃ m, n = m + 1 := ⟨n - 1, by omega⟩
    show (if gI par k = k then k else rootF par m (gI par k)) = _
    rw [if_neg hr]
    have hl := h.lo k h0 h1
    have hh := h.hi k h0 h1
    exact ((rootF_more h (m + 1) _ hl hh (h.small _ hl hh)).2 m (by omega)).symm ▸ rfl

end

/-- Joining: the greater root gets the lesser one for its parent. -/
def joinR (par log : List Int) (x y : Int) : List Int × List Int :=
  if x = y then (par, log) else (par.set (max x y).toNat (min x y), log ++ [max x y])

theorem gI_set (l : List Int) (i k v : Int) (hk : 0 ≤ k) (hi : 0 ≤ i) (hl : i < l.length) : gI (l.set i.toNat v) k = if k = i then v else gI l k := by
  unfold gI
  by_cases e : k = i
  · subst e
    have : k.toNat < l.length := by omega
    simp [List.getD, this]
  · have : i.toNat ≠ k.toNat := by omega
    simp [List.getD, List.getElem?_set_ne this, e]


/-- What a valid Joined is: parents, and the log of those that were joined to another. -/
structure OkJ (par log : List Int) : Prop where
  n1 : 1 ≤ par.length
  n2 : par.length ≤ 256
  lo : ∀ k : Int, 0 ≤ k → k < par.length → 0 ≤ gI par k
  hi : ∀ k : Int, 0 ≤ k → k < par.length → gI par k < par.length
  llo : ∀ k ∈ log, 0 ≤ k
  lhi : ∀ k ∈ log, k < (par.length : Int)
  nd : log.Nodup
  logged : ∀ k : Int, 0 ≤ k → k < par.length → (k ∈ log ↔ gI par k ≠ k)
  order : ∀ i (h : i < log.length), gI par log[i] ∉ log.take i

def htOf (log : List Int) (k : Int) : Nat := log.length - log.idxOf k

theorem nodup_length_le {n : Nat} {l : List Int} (hd : l.Nodup) (h0 : ∀ k ∈ l, 0 ≤ k) (h1 : ∀ k ∈ l, k < (n : Int)) : l.length ≤ n := by
  have hnd : (l.map Int.toNat).Nodup := by
    rw [List.nodup_iff_pairwise_ne, List.pairwise_map]
    refine List.Pairwise.imp_of_mem ?_ (List.nodup_iff_pairwise_ne.1 hd)
    intro a b ha hb hne e
    have := h0 a ha
    have := h0 b hb
    omega
  have := pigeon n _ hnd (by
    intro x hx
    obtain ⟨k, hk, rfl⟩ := List.mem_map.1 hx
    have := h0 k hk
    have := h1 k hk
    omega)
  simpa using this

theorem OkJ.forest {par log : List Int} (h : OkJ par log) : Forest par.length par (htOf log) := by
  refine ⟨rfl, h.lo, h.hi, ?_, ?_⟩
  · intro k h0 h1 hne
    have hm := (h.logged k h0 h1).2 hne
    have hi := List.idxOf_lt_length_of_mem hm
    have hget : log[log.idxOf k] = k := List.getElem_idxOf hi
    have ho := h.order (log.idxOf k) hi
    rw [hget] at ho
    unfold htOf
    by_cases hp : gI par k ∈ log
    · have hj := List.idxOf_lt_length_of_mem hp
      have hgetj : log[log.idxOf (gI par k)] = gI par k := List.getElem_idxOf hj
      have hge : log.idxOf k ≤ log.idxOf (gI par k) := by
        apply Classical.byContradiction
        intro hlt
        apply ho
        rw [List.mem_take_iff_getElem]
        exact ⟨log.idxOf (gI par k), by omega, hgetj⟩
      have hneq : log.idxOf k ≠ log.idxOf (gI par k) := by
        intro e
        have e2 : log[log.idxOf k]? = log[log.idxOf (gI par k)]? := by rw [e]
        rw [List.getElem?_eq_getElem hi, List.getElem?_eq_getElem hj, hget, hgetj] at e2
        exact hne (Option.some.inj e2).symm
      omega
    · have : log.idxOf (gI par k) = log.length := List.idxOf_eq_length hp
      omega
  · intro k _ _
    unfold htOf
    have := nodup_length_le h.nd h.llo h.lhi
    omega

theorem gI_mem_or (par : List Int) (k : Int) : 0 ≤ k → k < par.length → ∃ x ∈ par, gI par k = x := by
  intro h0 h1
  have : k.toNat < par.length := by omega
  exact ⟨par[k.toNat], List.getElem_mem _, by simp [gI, List.getD, this]⟩

/-- Joining keeps a valid Joined valid. -/
theorem OkJ.join {par log : List Int} (h : OkJ par log) {x y : Int} (hx0 : 0 ≤ x) (hx1 : x < par.length) (hy0 : 0 ≤ y) (hy1 : y < par.length) (hxr : gI par x = x) (hyr : gI par y = y) :
    OkJ (joinR par log x y).1 (joinR par log x y).2 := by
  unfold joinR
  by_cases e : x = y
  · rw [if_pos e]; exact h
  rw [if_neg e]
  simp only []
  have hm0 : 0 ≤ max x y := by omega
  have hm1 : max x y < par.length := by omega
  have hmr : gI par (max x y) = max x y := by
    rcases (show max x y = x ∨ max x y = y by omega) with h' | h' <;> rw [h'] <;> assumption
  have hnr : gI par (min x y) = min x y := by
    rcases (show min x y = x ∨ min x y = y by omega) with h' | h' <;> rw [h'] <;> assumption
  have hml : max x y ∉ log := fun hmem => ((h.logged _ hm0 hm1).1 hmem) hmr
  have hnl : min x y ∉ log := fun hmem => ((h.logged _ (by omega) (by omega)).1 hmem) hnr
  have hg : ∀ k : Int, 0 ≤ k → gI (par.set (max x y).toNat (min x y)) k = if k = max x y then min x y else gI par k := fun k hk => gI_set par _ k _ hk hm0 hm1
  refine ⟨by simpa using h.n1, by simpa using h.n2, ?_, ?_, ?_, ?_, ?_, ?_, ?_⟩
  · intro k h0 h1
    rw [hg k h0]
    have := h.lo k h0 (by simpa using h1)
    split <;> omega
  · intro k h0 h1
    rw [hg k h0]
    have := h.hi k h0 (by simpa using h1)
    simp only [List.length_set] at *
    split <;> omega
  · intro k hk
    rcases List.mem_append.1 hk with h1 | h1
    · exact h.llo k h1
    · simp at h1; omega
  · intro k hk
    simp only [List.length_set]
    rcases List.mem_append.1 hk with h1 | h1
    · exact h.lhi k h1
    · simp at h1; omega
  · rw [List.nodup_append]
    exact ⟨h.nd, by simp, fun a ha b hb => by simp at hb; subst hb; intro e'; subst e'; exact hml ha⟩
  · intro k h0 h1
    rw [hg k h0, List.mem_append]
    have hl := h.logged k h0 (by simpa using h1)
    by_cases ek : k = max x y
    · rw [if_pos ek]
      constructor
      · intro _ ; omega
      · intro _; right; simp [ek]
    · rw [if_neg ek, ← hl]
      simp [ek]
  · intro i hi
    simp only [List.length_append, List.length_cons, List.length_nil] at hi
    by_cases hil : i < log.length
    · rw [List.getElem_append_left hil, List.take_append_of_le_length (by omega)]
      have hlm : log[i] ∈ log := List.getElem_mem _
      have hne : log[i] ≠ max x y := by
        intro e'
        rw [e'] at hlm
        exact hml hlm
      rw [hg _ (h.llo _ hlm), if_neg hne]
      exact h.order i hil
    · have : i = log.length := by omega
      subst this
      rw [List.getElem_append_right (Nat.le_refl _)]
      simp only [Nat.sub_self, List.getElem_cons_zero]
      rw [hg _ hm0, if_pos rfl]
      simpa using hnl

/-- Where the roots are after joining. -/
theorem root_join {par log : List Int} (h : OkJ par log) {x y : Int} (hx0 : 0 ≤ x) (hx1 : x < par.length) (hy0 : 0 ≤ y) (hy1 : y < par.length) (hxr : gI par x = x) (hyr : gI par y = y)
    {k : Int} (h0 : 0 ≤ k) (h1 : k < par.length) :
    root (joinR par log x y).1 k = if root par k = x ∨ root par k = y then min x y else root par k := by
  have hj := (h.join hx0 hx1 hy0 hy1 hxr hyr).forest
  have hf := h.forest
  by_cases e : x = y
  · subst e
    have : joinR par log x x = (par, log) := by simp [joinR]
    rw [this]
    by_cases e2 : root par k = x
    · simp [e2]
    · simp [e2]
  have hj1 : (joinR par log x y).1 = par.set (max x y).toNat (min x y) := by simp [joinR, e]
  have hg : ∀ k : Int, 0 ≤ k → gI (joinR par log x y).1 k = if k = max x y then min x y else gI par k := fun k hk => by
    rw [hj1]; exact gI_set par _ k _ hk (by omega) (by omega)
  have hlen : ((joinR par log x y).1.length : Int) = par.length := by rw [hj1]; simp
  have hmr : gI par (max x y) = max x y := by
    rcases (show max x y = x ∨ max x y = y by omega) with h' | h' <;> rw [h'] <;> assumption
  have hnr : gI par (min x y) = min x y := by
    rcases (show min x y = x ∨ min x y = y by omega) with h' | h' <;> rw [h'] <;> assumption
  have hmin : root (joinR par log x y).1 (min x y) = min x y := root_of_root hj (by omega) (by omega) (by rw [hg _ (by omega), if_neg (by omega), hnr])
  have hmax : root (joinR par log x y).1 (max x y) = min x y := by rw [root_step hj (by omega) (by omega), hg _ (by omega), if_pos rfl, hmin]
  -- by the height of k
  have key : ∀ (m : Nat) (k : Int), 0 ≤ k → k < par.length → htOf log k ≤ m → root (joinR par log x y).1 k = if root par k = x ∨ root par k = y then min x y else root par k := by
    intro m
    induction m with
    | zero =>
      intro k h0 h1 hk
      have hr : gI par k = k := by
        apply Classical.byContradiction
        intro hne
        have := hf.falls k h0 h1 hne
        omega
      rw [root_of_root hf h0 h1 hr]
      by_cases e1 : k = x ∨ k = y
      · rw [if_pos e1]
        rcases (show k = max x y ∨ k = min x y by omega) with h' | h' <;> rw [h'] <;> assumption
      · rw [if_neg e1]
        exact root_of_root hj h0 (by omega) (by rw [hg k h0, if_neg (by omega), hr])
    | succ m ih =>
      intro k h0 h1 hk
      by_cases hr : gI par k = k
      · rw [root_of_root hf h0 h1 hr]
        by_cases e1 : k = x ∨ k = y
        · rw [if_pos e1]
          rcases (show k = max x y ∨ k = min x y by omega) with h' | h' <;> rw [h'] <;> assumption
        · rw [if_neg e1]
          exact root_of_root hj h0 (by omega) (by rw [hg k h0, if_neg (by omega), hr])
      · have hne : k ≠ max x y := fun e' => hr (by rw [e', hmr])
        rw [root_step hj h0 (by omega), hg k h0, if_neg hne, root_step hf h0 h1]
        have := hf.falls k h0 h1 hr
        exact ih _ (h.lo k h0 h1) (h.hi k h0 h1) (by omega)
  exact key _ k h0 h1 (Nat.le_refl _)

end Knot
