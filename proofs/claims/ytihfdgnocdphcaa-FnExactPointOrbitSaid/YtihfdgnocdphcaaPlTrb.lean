/-
  Plain mathematics: Trb. No program is in sight.
-/
import Derived.Test.YtihfdgnocdphcaaPlTra
namespace Knot

/-- The states from a on, until the step leads to a0. -/
def orbF {α : Type} [DecidableEq α] (f : α → α) (a0 : α) : Nat → α → List α
  | 0, _ => []
  | n + 1, a => a :: (if f a = a0 then [] else orbF f a0 n (f a))

theorem orbF_eq {α : Type} [DecidableEq α] (f : α → α) (a0 : α) (T : Nat) (hT : it f T a0 = a0) (hmin : ∀ i, 1 ≤ i → i < T → it f i a0 ≠ a0) :
    ∀ (n i : Nat), i < T → T - i ≤ n → orbF f a0 n (it f i a0) = (List.range' i (T - i)).map fun j => it f j a0 := by
  intro n
  induction n with
  | zero => intro i h1 h2; omega
  | succ n ih =>
    intro i h1 h2
    have hc : T - i = (T - (i + 1)) + 1 := by omega
    rw [orbF, hc, List.range'_succ, List.map_cons]
    congr 1
    by_cases he : i + 1 = T
    · have e1 : f (it f i a0) = a0 := by
        have e2 : it f (i + 1) a0 = a0 := by rw [he]; exact hT
        exact e2
      rw [if_pos e1, he]
      simp
    · rw [if_neg (show f (it f i a0) ≠ a0 from hmin (i + 1) (by omega) (by omega))]
      exact ih (i + 1) (by omega) (by omega)

/-- Marks: the number c at all places of a list. -/
def mark (c : Int) (own : List Int) (ss : List Nat) : List Int := ss.foldl (fun o s => o.set s c) own

theorem mark_length (c : Int) (ss : List Nat) : ∀ own, (mark c own ss).length = own.length := by
  induction ss with
  | nil => intro own; rfl
  | cons a t ih => intro own; show (mark c (own.set a c) t).length = _; rw [ih]; simp

theorem mark_getD (c : Int) (ss : List Nat) : ∀ own (k : Nat) (d : Int), k < own.length → (mark c own ss).getD k d = if k ∈ ss then c else own.getD k d := by
  induction ss with
  | nil => intro own k d hk; simp [mark]
  | cons a t ih =>
    intro own k d hk
    show (mark c (own.set a c) t).getD k d = _
    rw [ih _ _ _ (by simpa using hk)]
    by_cases h1 : k ∈ t
    · simp [h1]
    · by_cases h2 : k = a
      · subst h2; simp [h1, List.getD, hk]
      · simp [h1, h2, List.getD, Ne.symm h2]

variable {α : Type} [DecidableEq α]

/-- All curves that begin at a place below k, and the curve of each place. -/
def traceTo (f : α → α) (seg : α → Nat) (start : Nat → α) (N : Nat) : Nat → List (List α) × List Int
  | 0 => ([], List.replicate N (-1))
  | k + 1 =>
    let r := traceTo f seg start N k
    if 0 ≤ r.2.getD k 0 then r
    else
      let c := orbF f (start k) (2 * N) (start k)
      (r.1 ++ [c], mark r.1.length r.2 (c.map seg))

namespace Sys
variable (S : Sys α)

def traceTo (k : Nat) := Knot.traceTo S.f S.seg S.start S.N k

theorem orb_mem (k : Nat) (hk : k < S.N) (t : Nat) : t ∈ (orbF S.f (S.start k) (2 * S.N) (S.start k)).map S.seg ↔ S.Rel k t := by
  obtain ⟨T, h1, h2, h3, h4⟩ := S.first _ (S.start_V k hk)
  have he := orbF_eq S.f (S.start k) T h3 h4 (2 * S.N) 0 (by omega) (by omega)
  simp only [it] at he
  rw [he]
  simp only [List.map_map, List.mem_map, List.mem_range'_1, Function.comp]
  constructor
  · rintro ⟨j, _, rfl⟩; exact ⟨j, rfl⟩
  · rintro ⟨n, rfl⟩
    refine ⟨n % T, ⟨by omega, by have := Nat.mod_lt n (show 0 < T by omega); omega⟩, ?_⟩
    have hmul : ∀ m, it S.f (T * m) (S.start k) = S.start k := by
      intro m
      induction m with
      | zero => rfl
      | succ m ih => rw [Nat.mul_succ, it_add, h3, ih]
    have hd := Nat.mod_add_div n T
    have : it S.f n (S.start k) = it S.f (n % T) (S.start k) := by
      conv => lhs; rw [← hd]
      rw [it_add, hmul]
    rw [this]

/-- What the tracing has found when it has come to place k. -/
structure Traced (k : Nat) (r : List (List α) × List Int) (reps : List Nat) : Prop where
  len : r.1.length = reps.length
  olen : r.2.length = S.N
  lt : ∀ s ∈ reps, s < k
  apart : reps.Pairwise fun s t => ¬ S.Rel s t
  cur : ∀ (i : Nat) s, reps[i]? = some s → r.1[i]? = some (orbF S.f (S.start s) (2 * S.N) (S.start s))
  own : ∀ t, t < S.N → (r.2.getD t 0 = -1 ∧ ∀ s ∈ reps, ¬ S.Rel s t) ∨ ∃ (i : Nat) (s : Nat), reps[i]? = some s ∧ S.Rel s t ∧ r.2.getD t 0 = (i : Int)
  all : ∀ t, t < k → ∃ s ∈ reps, S.Rel s t

theorem traced (k : Nat) (hk : k ≤ S.N) : ∃ reps, S.Traced k (S.traceTo k) reps := by
  induction k with
  | zero => exact ⟨[], ⟨rfl, by simp [traceTo, Knot.traceTo], by simp, by simp, by simp, fun t ht => .inl ⟨by simp [traceTo, Knot.traceTo, List.getD, ht], by simp⟩, fun t ht => by omega⟩⟩
  | succ k ih =>
    obtain ⟨reps, h⟩ := ih (by omega)
    have hkN : k < S.N := by omega
    unfold traceTo
    rw [Knot.traceTo]
    simp only []
    have hr : Knot.traceTo S.f S.seg S.start S.N k = S.traceTo k := rfl
    rw [hr]
    by_cases hp : 0 ≤ (S.traceTo k).2.getD k 0
    · rw [if_pos hp]
      refine ⟨reps, ⟨h.len, h.olen, fun s hs => by have := h.lt s hs; omega, h.apart, h.cur, h.own, fun t ht => ?_⟩⟩
      by_cases ht' : t < k
      · exact h.all t ht'
      · have : t = k := by omega
        subst this
        rcases h.own t hkN with ⟨e, _⟩ | ⟨i, s, hi, hs, _⟩
        · omega
        · exact ⟨s, List.mem_of_getElem? hi, hs⟩
    · rw [if_neg hp]
      have hno : ∀ s ∈ reps, ¬ S.Rel s k := by
        rcases h.own k hkN with ⟨_, e⟩ | ⟨i, s, _, _, e⟩
        · exact e
        · exfalso; omega
      have hkk := S.rel_refl k hkN
      refine ⟨reps ++ [k], ⟨by simp [h.len], by simp [mark_length, h.olen], ?_, ?_, ?_, ?_, ?_⟩⟩
      · intro s hs
        rcases List.mem_append.1 hs with h1 | h1
        · have := h.lt s h1; omega
        · simp at h1; omega
      · rw [List.pairwise_append]
        exact ⟨h.apart, by simp, fun a ha b hb => by simp at hb; subst hb; exact hno a ha⟩
      · intro i s hi
        rw [List.getElem?_append] at hi ⊢
        rw [h.len]
        split at hi
        · rename_i hlt; rw [if_pos hlt]; exact h.cur i s hi
        · rename_i hlt
          rw [if_neg hlt]
          have : i - reps.length = 0 := by
            rcases Nat.eq_zero_or_pos (i - reps.length) with h0 | h0
            · exact h0
            · rw [List.getElem?_eq_none (by simp; omega)] at hi; cases hi
          rw [this] at hi ⊢
          simp at hi
          subst hi
          rfl
      · intro t ht
        have hm := mark_getD ((S.traceTo k).1.length : Int) ((orbF S.f (S.start k) (2 * S.N) (S.start k)).map S.seg) (S.traceTo k).2 t 0 (by rw [h.olen]; exact ht)
        simp only [] at hm ⊢
        rw [hm]
        by_cases hrt : S.Rel k t
        · rw [if_pos ((S.orb_mem k hkN t).2 hrt)]
          right
          refine ⟨reps.length, k, by simp, hrt, by rw [h.len]⟩
        · rw [if_neg (fun hh => hrt ((S.orb_mem k hkN t).1 hh))]
          rcases h.own t ht with ⟨e1, e2⟩ | ⟨i, s, hi, hs, e⟩
          · left
            refine ⟨e1, fun s hs => ?_⟩
            rcases List.mem_append.1 hs with h1 | h1
            · exact e2 s h1
            · simp at h1; subst h1; exact hrt
          · right
            refine ⟨i, s, ?_, hs, e⟩
            rw [List.getElem?_append_left (by exact (List.getElem?_eq_some_iff.1 hi).1)]
            exact hi
      · intro t ht
        by_cases ht' : t < k
        · obtain ⟨s, hs, hr⟩ := h.all t ht'
          exact ⟨s, by simp [hs], hr⟩
        · have : t = k := by omega
          subst this
          exact ⟨t, by simp, hkk⟩

/-- The curves are as many as the classes. -/
theorem traced_reps {reps : List Nat} {r : List (List α) × List Int} (h : S.Traced S.N r reps) : Reps S.Rel (· < S.N) reps :=
  ⟨h.lt, h.apart, fun t ht => by
    obtain ⟨s, hs, hr⟩ := h.all t ht
    exact ⟨s, hs, S.rel_symm (h.lt s hs) hr⟩⟩

/-- Two places are of one curve if and only if they are related. -/
theorem traced_same {reps : List Nat} {r : List (List α) × List Int} (h : S.Traced S.N r reps) {a b : Nat} (ha : a < S.N) (hb : b < S.N) :
    r.2.getD a 0 = r.2.getD b 0 ↔ S.Rel a b := by
  obtain ⟨i, s, hi, hs, e⟩ : ∃ (i : Nat) (s : Nat), reps[i]? = some s ∧ S.Rel s a ∧ r.2.getD a 0 = (i : Int) := by
    rcases h.own a ha with ⟨_, e⟩ | h'
    · obtain ⟨s, hs, hr⟩ := h.all a ha; exact absurd hr (e s hs)
    · exact h'
  obtain ⟨j, t, hj, ht, e'⟩ : ∃ (i : Nat) (s : Nat), reps[i]? = some s ∧ S.Rel s b ∧ r.2.getD b 0 = (i : Int) := by
    rcases h.own b hb with ⟨_, e⟩ | h'
    · obtain ⟨s, hs, hr⟩ := h.all b hb; exact absurd hr (e s hs)
    · exact h'
  have hsl := h.lt s (List.mem_of_getElem? hi)
  have htl := h.lt t (List.mem_of_getElem? hj)
  constructor
  · intro hab
    have : i = j := by omega
    subst this
    rw [hi] at hj
    cases hj
    exact S.rel_trans ha (S.rel_symm hsl hs) ht
  · intro hab
    have hst : S.Rel s t := S.rel_trans hsl hs (S.rel_trans ha hab (S.rel_symm htl ht))
    have hts : S.Rel t s := S.rel_symm hsl hst
    rw [e, e']
    have hpw := List.pairwise_iff_getElem.1 h.apart
    obtain ⟨hi1, hi2⟩ := List.getElem?_eq_some_iff.1 hi
    obtain ⟨hj1, hj2⟩ := List.getElem?_eq_some_iff.1 hj
    rcases Nat.lt_trichotomy i j with hlt | heq | hgt
    · exact absurd (by rw [hi2, hj2]; exact hst) (hpw i j hi1 hj1 hlt)
    · rw [heq]
    · exact absurd (by rw [hi2, hj2]; exact hts) (hpw j i hj1 hi1 hgt)

end Sys
end Knot
