/-
  Plain mathematics: Tra. No program is in sight.
-/
import Derived.Test.YtihfdgnocdphcaaPlOrb
namespace Knot

/-- A step that can be walked back, over states that lie two and two on places below N. -/
structure Sys (α : Type) where
  V : α → Prop
  f : α → α
  b : α → α
  seg : α → Nat
  N : Nat
  start : Nat → α
  hf : ∀ a, V a → V (f a)
  hb : ∀ a, V a → V (b a)
  bb : ∀ a, V a → b (b a) = a
  fbf : ∀ a, V a → f (b (f a)) = b a
  seg_b : ∀ a, V a → seg (b a) = seg a
  seg_eq : ∀ a c, V a → V c → seg a = seg c → a = c ∨ a = b c
  seg_lt : ∀ a, V a → seg a < N
  start_V : ∀ k, k < N → V (start k)
  seg_start : ∀ k, k < N → seg (start k) = k
  b_ne : ∀ a, V a → b a ≠ a
  f_ne : ∀ a, V a → f a ≠ b a

namespace Sys
variable {α : Type} (S : Sys α)

theorem f_inj (a c : α) (ha : S.V a) (hc : S.V c) (h : S.f a = S.f c) : a = c := by
  have h1 := S.fbf a ha
  have h2 := S.fbf c hc
  rw [h] at h1
  have h3 : S.b a = S.b c := h1.symm.trans h2
  rw [← S.bb a ha, ← S.bb c hc, h3]

theorem itV (n : Nat) (a : α) (ha : S.V a) : S.V (it S.f n a) := it_mem S.f S.V S.hf n a ha

/-- Going back from n steps ahead. -/
theorem back (n : Nat) (a : α) (ha : S.V a) : it S.f n (S.b (it S.f n a)) = S.b a := by
  induction n with
  | zero => rfl
  | succ n ih =>
    show it S.f (n + 1) (S.b (S.f (it S.f n a))) = _
    rw [it_succ', S.fbf _ (S.itV n a ha)]
    exact ih

/-- The first return. -/
theorem first (a : α) (ha : S.V a) : ∃ T, 1 ≤ T ∧ T ≤ 2 * S.N ∧ it S.f T a = a ∧ ∀ i, 1 ≤ i → i < T → it S.f i a ≠ a := by
  classical
  -- a number of a state: even in one direction, odd in the other
  let code : α → Nat := fun a => 2 * S.seg a + if a = S.start (S.seg a) then 0 else 1
  have code_lt : ∀ a, S.V a → code a < 2 * S.N := by
    intro a ha
    have := S.seg_lt a ha
    show 2 * S.seg a + (if a = S.start (S.seg a) then 0 else 1) < 2 * S.N
    split <;> omega
  have code_inj : ∀ a c, S.V a → S.V c → code a = code c → a = c := by
    intro a c ha hc h
    replace h : 2 * S.seg a + (if a = S.start (S.seg a) then 0 else 1) = 2 * S.seg c + (if c = S.start (S.seg c) then 0 else 1) := h
    have hs : S.seg a = S.seg c := by split at h <;> split at h <;> omega
    rcases S.seg_eq a c ha hc hs with h1 | h1
    · exact h1
    · have hlt := S.seg_lt a ha
      have hst := S.start_V _ hlt
      rw [← hs] at h
      by_cases e1 : a = S.start (S.seg a)
      · by_cases e2 : c = S.start (S.seg a)
        · rw [e1, ← e2]
        · rw [if_pos e1, if_neg e2] at h; omega
      · by_cases e2 : c = S.start (S.seg a)
        · rw [if_neg e1, if_pos e2] at h; omega
        · rcases S.seg_eq a _ ha hst (S.seg_start _ hlt).symm with h3 | h3
          · exact absurd h3 e1
          · rcases S.seg_eq c _ hc hst (by rw [← hs]; exact (S.seg_start _ hlt).symm) with h4 | h4
            · exact absurd h4 e2
            · rw [h3, h4]
  exact comes_back S.f code (2 * S.N) S.V S.hf S.f_inj code_lt code_inj a ha

/-- No walk leads back on its own way. -/
theorem no_back (n : Nat) : ∀ a, S.V a → it S.f n a ≠ S.b a := by
  induction n using Nat.strongRecOn with
  | _ n ih =>
    intro a ha h
    match n, h with
    | 0, h => exact S.b_ne a ha h.symm
    | 1, h => exact S.f_ne a ha h
    | n + 2, h =>
      have h1 : S.f (it S.f (n + 1) a) = S.f (S.b (S.f a)) := by rw [S.fbf a ha]; exact h
      have h2 := S.f_inj _ _ (S.itV _ a ha) (S.hb _ (S.hf a ha)) h1
      rw [it_succ'] at h2
      exact ih n (by omega) (S.f a) (S.hf a ha) h2

/-- Two states of one walk on one place are one. -/
theorem same_seg (a : α) (ha : S.V a) (i j : Nat) (hij : i ≤ j) (h : S.seg (it S.f i a) = S.seg (it S.f j a)) : it S.f (j - i) a = a := by
  have hj : it S.f j a = it S.f (j - i) (it S.f i a) := by rw [← it_add]; congr 1; omega
  have hj' : it S.f j a = it S.f i (it S.f (j - i) a) := by rw [← it_add]; congr 1; omega
  rcases S.seg_eq _ _ (S.itV j a ha) (S.itV i a ha) h.symm with e | e
  · rw [hj'] at e
    exact it_inj S.f S.V S.hf S.f_inj i _ _ (S.itV _ a ha) ha e
  · rw [hj] at e
    exact absurd e (S.no_back _ _ (S.itV i a ha))

/-- Place t is met by the walk from place s. -/
def Rel (s t : Nat) : Prop := ∃ n, S.seg (it S.f n (S.start s)) = t

theorem rel_refl (s : Nat) (hs : s < S.N) : S.Rel s s := ⟨0, S.seg_start s hs⟩

theorem rel_lt {s t : Nat} (hs : s < S.N) (h : S.Rel s t) : t < S.N := by
  obtain ⟨n, rfl⟩ := h
  exact S.seg_lt _ (S.itV n _ (S.start_V s hs))

/-- From whatever state on place s the same places are met. -/
theorem rel_of (a : α) (ha : S.V a) (n : Nat) : S.Rel (S.seg a) (S.seg (it S.f n a)) := by
  have hst := S.start_V _ (S.seg_lt a ha)
  rcases S.seg_eq a _ ha hst (S.seg_start _ (S.seg_lt a ha)).symm with e | e
  · exact ⟨n, by rw [← e]⟩
  · -- a = b s, s the start: the way back from n steps ahead of a; it comes round
    obtain ⟨T, hT1, _, hT, _⟩ := S.first _ (S.itV n a ha)
    have hback := S.back n a ha
    have hbs : S.b a = S.start (S.seg a) := by
      have h2 := congrArg S.b e
      rwa [S.bb _ hst] at h2
    -- u := b (f^n a) leads in n steps to the start; so the start leads on to u
    have hu := S.hb _ (S.itV n a ha)
    obtain ⟨U, hU1, _, hU, _⟩ := S.first _ hu
    refine ⟨U * (n + 1) - n, ?_⟩
    have hmul : ∀ m, it S.f (U * m) (S.b (it S.f n a)) = S.b (it S.f n a) := by
      intro m
      induction m with
      | zero => rfl
      | succ m ih => rw [Nat.mul_succ, it_add, hU, ih]
    have hge : n ≤ U * (n + 1) := by
      calc n ≤ n + 1 := by omega
        _ = 1 * (n + 1) := by omega
        _ ≤ U * (n + 1) := Nat.mul_le_mul_right _ hU1
    have : it S.f (U * (n + 1) - n) (S.start (S.seg a)) = S.b (it S.f n a) := by
      rw [← hbs, ← hback, ← it_add, show U * (n + 1) - n + n = U * (n + 1) by omega]
      exact hmul _
    rw [this, S.seg_b _ (S.itV n a ha)]

theorem rel_symm {s t : Nat} (hs : s < S.N) (h : S.Rel s t) : S.Rel t s := by
  obtain ⟨n, rfl⟩ := h
  have hst := S.start_V s hs
  have hb := S.hb _ (S.itV n _ hst)
  have h1 := S.rel_of _ hb n
  rw [S.back n _ hst, S.seg_b _ (S.itV n _ hst), S.seg_b _ hst, S.seg_start s hs] at h1
  exact h1

theorem rel_trans {s t u : Nat} (hs : s < S.N) (h : S.Rel s t) (h' : S.Rel t u) : S.Rel s u := by
  obtain ⟨n, rfl⟩ := h
  obtain ⟨m, rfl⟩ := h'
  have hst := S.start_V s hs
  have hn := S.itV n _ hst
  -- the start of place t is f^n s or its back
  have htl := S.seg_lt _ hn
  have htt := S.start_V _ htl
  rcases S.seg_eq _ _ htt hn (S.seg_start _ htl) with e | e
  · rw [e, ← it_add]
    exact ⟨m + n, rfl⟩
  · rw [e]
    have h1 := S.rel_of _ (S.hb _ hn) (m)
    -- the walk from b (f^n s): after n steps it is at b s
    have h2 : S.Rel s (S.seg (S.b (it S.f n (S.start s)))) := by rw [S.seg_b _ hn]; exact ⟨n, rfl⟩
    -- b(f^n s) comes round: it = f^U-cycle; use rel_of at b s
    obtain ⟨U, hU1, _, hU, _⟩ := S.first _ (S.hb _ hn)
    have hmul : ∀ k, it S.f (U * k) (S.b (it S.f n (S.start s))) = S.b (it S.f n (S.start s)) := by
      intro k
      induction k with
      | zero => rfl
      | succ k ih => rw [Nat.mul_succ, it_add, hU, ih]
    have hge : n ≤ U * (n + 1) := by
      calc n ≤ n + 1 := by omega
        _ = 1 * (n + 1) := by omega
        _ ≤ U * (n + 1) := Nat.mul_le_mul_right _ hU1
    have h3 : it S.f (U * (n + 1) - n) (S.b (S.start s)) = S.b (it S.f n (S.start s)) := by
      rw [← S.back n _ hst, ← it_add, show U * (n + 1) - n + n = U * (n + 1) by omega]
      exact hmul _
    have h4 := S.rel_of _ (S.hb _ hst) (m + (U * (n + 1) - n))
    rw [it_add, h3, S.seg_b _ hst, S.seg_start s hs] at h4
    exact h4

end Sys
end Knot
