/-
  Plain mathematics: Jn3. No program is in sight.
-/
import Derived.Test.YtcfdbjjfdddfeaaPlJn2
namespace Knot

/-- The groups, row by row. -/
structure GrpRows (n : Nat) (L : List (List Int)) : Prop where
  some : ∀ i (h : i < L.length), 1 ≤ L[i].length ∧ L[i].length ≤ n
  head : ∀ i (h : i + 1 < L.length), gI (L[i]'(by omega)) 0 < gI L[i + 1] 0
  pos : ∀ i (h : i < L.length), ∀ k : Nat, k < L[i].length → 0 ≤ gI L[i] k ∧ gI L[i] k < n
  up : ∀ i (h : i < L.length), ∀ k : Nat, k + 1 < L[i].length → gI L[i] k < gI L[i] ((k + 1 : Nat) : Int)
  sum : (L.map List.length).sum = n
theorem gI_headD (l : List Int) : gI l 0 = l.headD 0 := by cases l <;> simp [gI]
theorem grp_rows (par : List Int) (n : Nat) : GrpRows n ((grpS par n).map Prod.snd) := by
  have h := grpS_ok par n
  have he : ∀ i (hi : i < ((grpS par n).map Prod.snd).length), ∃ a ∈ grpS par n, ((grpS par n).map Prod.snd)[i] = a.2 := fun i hi => by
    rw [List.length_map] at hi
    exact ⟨(grpS par n)[i], List.getElem_mem _, by simp⟩
  have hg : ∀ (l : List Int) (k : Nat) (hk : k < l.length), gI l k = l[k] := fun l k hk => by simp [gI, List.getD, hk]
  refine ⟨fun i hi => ?_, fun i hi => ?_, fun i hi k hk => ?_, fun i hi k hk => ?_, ?_⟩
  · obtain ⟨a, ha, e⟩ := he i hi
    rw [e]
    obtain ⟨e1, e2, e3⟩ := h.each a ha
    have h1 := nodup_length_le (n := n) (l := a.2) (by rw [List.nodup_iff_pairwise_ne]; exact e1.imp fun h => by omega) (fun x hx => (e3 x hx).1) (fun x hx => (e3 x hx).2)
    have : 0 < a.2.length := by cases hq : a.2 with | nil => exact absurd hq e2 | cons x y => simp
    omega
  · have hp := List.pairwise_iff_getElem.1 h.heads
    rw [List.length_map] at hi
    have := hp i (i + 1) (by simp; omega) (by simpa using hi) (by omega)
    simp only [List.getElem_map] at this ⊢
    rw [gI_headD, gI_headD]
    exact this
  · obtain ⟨a, ha, e⟩ := he i hi
    rw [e] at hk ⊢
    rw [hg _ _ hk]
    exact (h.each a ha).2.2 _ (List.getElem_mem _)
  · obtain ⟨a, ha, e⟩ := he i hi
    rw [e] at hk ⊢
    rw [hg _ _ (by omega), hg _ _ hk]
    exact List.pairwise_iff_getElem.1 (h.each a ha).1 k (k + 1) (by omega) hk (by omega)
  · rw [List.map_map]
    exact h.sum
theorem take_sum {L : List (List Int)} {i : Nat} (h : i < L.length) : ((L.take (i + 1)).map List.length).sum = ((L.take i).map List.length).sum + L[i].length := by
  rw [List.take_succ_eq_append_getElem h, List.map_append, List.sum_append]
  simp
theorem take_sum_le : ∀ (L : List (List Int)) (i : Nat), ((L.take i).map List.length).sum ≤ (L.map List.length).sum
  | [], i => by simp
  | a :: t, 0 => by simp
  | a :: t, i + 1 => by
    have := take_sum_le t i
    simp only [List.take_succ_cons, List.map_cons, List.sum_cons]
    omega
end Knot
