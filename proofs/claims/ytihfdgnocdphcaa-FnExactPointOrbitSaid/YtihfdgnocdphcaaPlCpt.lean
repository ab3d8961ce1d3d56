/-
  Plain mathematics: Cpt. No program is in sight.
-/
import Derived.Test.YtihfdgnocdphcaaPlOrbi
namespace Knot

/-! ### Equal neighbours struck out of a list in order -/

theorem lt2_le_of {a b : Int × Int} (h : ¬ lt2 b a) (k : ¬ a = b) : lt2 a b :=
  Classical.byContradiction fun h2 => k (lt2_tri a b h2 h)
/-- The first n points of l have been looked at; k of them stand at the head of m, from place k on m is as l. -/
structure CptI (l m : List (Int × Int)) (n k : Nat) : Prop where
  len : m.length = l.length
  nle : n ≤ l.length
  klt : k ≤ n
  pos : 1 ≤ n
  high : ∀ j, k ≤ j → m[j]? = l[j]?
  srt : Srt (m.take k)
  mem : ∀ q, q ∈ m.take k ↔ q ∈ l.take n
theorem CptI.start {l : List (Int × Int)} (h : 1 ≤ l.length) : CptI l l 1 1 := by
  refine ⟨rfl, h, Nat.le_refl _, Nat.le_refl _, fun _ _ => rfl, ?_, fun q => Iff.rfl⟩
  match l, h with
  | a :: t, _ => simp
theorem take_set_self {l : List (Int × Int)} {k : Nat} {x : Int × Int} (h : k < l.length) : (l.set k x).take (k + 1) = l.take k ++ [x] := by
  apply List.ext_getElem?
  intro j
  rcases Nat.lt_trichotomy j k with e | e | e
  · rw [List.getElem?_take_of_lt (by omega), List.getElem?_set_ne (by omega), List.getElem?_append_left (by rw [List.length_take]; omega), List.getElem?_take_of_lt e]
  · subst e
    rw [List.getElem?_take_of_lt (by omega), List.getElem?_set_self h, List.getElem?_append_right (by rw [List.length_take]; omega), List.length_take, show j - min j l.length = 0 by omega]
    rfl
  · rw [List.getElem?_take_eq_none (by omega), List.getElem?_eq_none (by simp; omega)]
theorem CptI.keep {l m : List (Int × Int)} {n k : Nat} (h : CptI l m n k) (hs : l.Pairwise (fun a b => ¬ lt2 b a)) (hn : n < l.length) (hne : l[n] ≠ l[n - 1]) : CptI l (m.set k l[n]) (n + 1) (k + 1) := by
  have hk := h.klt
  have hp := h.pos
  have hpw := List.pairwise_iff_getElem.1 hs
  have hml := h.len
  have ht := take_set_self (l := m) (k := k) (x := l[n]) (by omega)
  refine ⟨by rw [List.length_set, h.len], hn, by omega, by omega, fun j hj => ?_, ?_, fun q => ?_⟩
  · rw [List.getElem?_set_ne (by omega)]
    exact h.high j (by omega)
  · rw [ht]
    refine List.pairwise_append.2 ⟨h.srt, by simp, fun a ha b hb => ?_⟩
    rw [List.mem_singleton] at hb
    subst hb
    have ha2 := (h.mem a).1 ha
    obtain ⟨i, hi, rfl⟩ := List.getElem_of_mem ha2
    rw [List.length_take] at hi
    rw [List.getElem_take]
    refine lt2_le_of (hpw i n (by omega) hn (by omega)) fun e => hne ?_
    rcases Nat.lt_or_ge i (n - 1) with h1 | h1
    · have h2 := hpw i (n - 1) (by omega) (by omega) h1
      have h3 := hpw (n - 1) n (by omega) hn (by omega)
      rw [e] at h2
      exact lt2_tri _ _ h3 h2
    · obtain rfl : i = n - 1 := by omega
      exact e.symm
  · rw [ht, List.mem_append, h.mem, List.take_succ_eq_append_getElem hn, List.mem_append]
theorem CptI.skip {l m : List (Int × Int)} {n k : Nat} (h : CptI l m n k) (hn : n < l.length) (he : l[n] = l[n - 1]) : CptI l m (n + 1) k := by
  have hp := h.pos
  refine ⟨h.len, hn, by have := h.klt; omega, by omega, h.high, h.srt, fun q => ?_⟩
  rw [h.mem, List.take_succ_eq_append_getElem hn, List.mem_append, List.mem_singleton]
  constructor
  · exact .inl
  · rintro (h1 | h1)
    · exact h1
    · rw [h1, he]
      refine List.mem_iff_getElem?.2 ⟨n - 1, ?_⟩
      rw [List.getElem?_take_of_lt (by omega), List.getElem?_eq_getElem (by omega)]
theorem CptI.done {l m : List (Int × Int)} {k : Nat} (h : CptI l m l.length k) : Srt (m.take k) ∧ ∀ q, q ∈ m.take k ↔ q ∈ l :=
  ⟨h.srt, fun q => by rw [h.mem, List.take_length]⟩
theorem CptI.same {l : List (Int × Int)} {n : Nat} (h : CptI l l n n) (hs : l.Pairwise (fun a b => ¬ lt2 b a)) (hn : n < l.length) (hne : l[n] ≠ l[n - 1]) : CptI l l (n + 1) (n + 1) := by
  have := h.keep hs hn hne
  rwa [List.set_getElem_self] at this
end Knot
