/-
  Plain mathematics: Loops. No program is in sight.
-/
import Derived.Test.YtcfdbjjfdddfeaaPlPass
namespace Knot

/-! ### Loops of two pairings, round by round -/

def unseen (s : List Bool) : Nat := s.count false

theorem unseen_le (s : List Bool) : unseen s ≤ s.length := List.count_le_length
theorem unseen_set {s : List Bool} {a : Int} (h0 : 0 ≤ a) (h1 : a < s.length) (h : gB s a = false) : unseen (sB s a) + 1 = unseen s := by
  have hl : a.toNat < s.length := by omega
  have hg : s[a.toNat] = false := by simpa [gB, List.getD, hl] using h
  have hc : 0 < s.count false := List.count_pos_iff.2 (by rw [← hg]; exact List.getElem_mem _)
  unfold unseen sB
  rw [List.count_set hl, hg]
  simp
  omega
theorem unseen_set_le (s : List Bool) (a : Int) : unseen (sB s a) ≤ unseen s := by
  unfold unseen sB
  by_cases hl : a.toNat < s.length
  · rw [List.count_set hl]
    simp
  · rw [List.set_eq_of_length_le (by omega)]
    exact Nat.le_refl _
theorem sB_length (s : List Bool) (a : Int) : (sB s a).length = s.length := by simp [sB]

section
variable {P L : List Int} {n : Nat} (hr : ∀ a : Int, 0 ≤ a → a < n → 0 ≤ nxt P L a ∧ nxt P L a < n)
include hr
theorem cyc_more : ∀ (f : Nat) (s : List Bool) (a : Int), s.length = n → 0 ≤ a → a < n → unseen s < f → ∀ g, unseen s < g → cyc P L f a s = cyc P L g a s
  | 0, _, _, _, _, _, h, _, _ => by omega
  | f + 1, s, a, hs, h0, h1, hf, g, hg => by
    obtain ⟨g, rfl⟩ : ∃ m, g = m + 1 := ⟨g - 1, by omega⟩
    unfold cyc
    by_cases hb : gB s a = true
    · rw [if_pos hb, if_pos hb]
    · rw [if_neg hb, if_neg hb]
      have e := unseen_set (s := s) h0 (by omega) (by simpa using hb)
      have e2 := unseen_set_le (sB s a) (gI P a)
      have hn := hr a h0 h1
      exact cyc_more f _ _ (by rw [sB_length, sB_length, hs]) hn.1 hn.2 (by omega) g (by omega)
theorem cyc_step {s : List Bool} {a : Int} (hs : s.length = n) (h0 : 0 ≤ a) (h1 : a < n) (hb : gB s a = false) :
    cyc P L (unseen s + 1) a s = cyc P L (unseen (sB (sB s a) (gI P a)) + 1) (nxt P L a) (sB (sB s a) (gI P a)) := by
  have e := unseen_set (s := s) h0 (by omega) hb
  have e2 := unseen_set_le (sB s a) (gI P a)
  have hn := hr a h0 h1
  conv => lhs; unfold cyc
  rw [if_neg (by rw [hb]; simp)]
  exact cyc_more hr _ _ _ (by rw [sB_length, sB_length, hs]) hn.1 hn.2 (by omega) _ (by omega)
theorem cyc_start {s : List Bool} {a : Int} (hs : s.length = n) (h0 : 0 ≤ a) (h1 : a < n) : cyc P L (n + 1) a s = cyc P L (unseen s + 1) a s :=
  cyc_more hr _ _ _ hs h0 h1 (by have := unseen_le s; omega) _ (by omega)
end
theorem cyc_stop {P L : List Int} {s : List Bool} {a : Int} (f : Nat) (hb : gB s a = true) : cyc P L (f + 1) a s = s := by
  unfold cyc
  rw [if_pos hb]
theorem cyc_length (P L : List Int) : ∀ (f : Nat) (a : Int) (s : List Bool), (cyc P L f a s).length = s.length
  | 0, _, _ => rfl
  | f + 1, a, s => by
    unfold cyc
    split
    · rfl
    · rw [cyc_length, sB_length, sB_length]
theorem cycTo_length (P L : List Int) (n : Nat) (s : List Bool) : ∀ k, (cycTo P L n s k).2.length = s.length
  | 0 => rfl
  | k + 1 => by
    unfold cycTo
    split
    · exact cycTo_length P L n s k
    · show (cyc _ _ _ _ _).length = _
      rw [cyc_length, cycTo_length]
theorem cycTo_bd (P L : List Int) (n : Nat) (s : List Bool) : ∀ k, 0 ≤ (cycTo P L n s k).1 ∧ (cycTo P L n s k).1 ≤ k
  | 0 => ⟨Int.le_refl _, Int.le_refl _⟩
  | k + 1 => by
    have := cycTo_bd P L n s k
    unfold cycTo
    split
    · omega
    · show 0 ≤ _ + 1 ∧ _ + 1 ≤ _
      omega
theorem cycTo_seen {P L : List Int} {n : Nat} {s : List Bool} {k : Nat} (h : gB (cycTo P L n s k).2 k = true) : cycTo P L n s (k + 1) = cycTo P L n s k := by
  conv => lhs; unfold cycTo
  rw [if_pos h]
theorem cycTo_new {P L : List Int} {n : Nat} {s : List Bool} {k : Nat} (h : gB (cycTo P L n s k).2 k = false) : cycTo P L n s (k + 1) = ((cycTo P L n s k).1 + 1, cyc P L (n + 1) k (cycTo P L n s k).2) := by
  conv => lhs; unfold cycTo
  rw [if_neg (by rw [h]; simp)]
end Knot
