/-
  Plain mathematics: Orbj. No program is in sight.
-/
import Derived.Test.YtihfdgnocdphcaaPlOrbi
namespace Knot

/-! ### The symmetries of a panel are a group, and orbits divide their number -/

theorem symsTo_mem (p : Pan) (s : Int) : ∀ k : Nat, s ∈ symsTo p k ↔ 0 ≤ s ∧ s < k ∧ mapP p s = p
  | 0 => by simp [symsTo]; omega
  | k + 1 => by
    by_cases h : mapP p k = p
    · rw [symsTo_yes h, List.mem_append, symsTo_mem p s k, List.mem_singleton]
      constructor
      · rintro (⟨a, b, c⟩ | e)
        · exact ⟨a, by omega, c⟩
        · subst e; exact ⟨by omega, by omega, h⟩
      · rintro ⟨a, b, c⟩
        by_cases e : s = k
        · exact .inr e
        · exact .inl ⟨a, by omega, c⟩
    · rw [symsTo_no h, symsTo_mem p s k]
      constructor
      · rintro ⟨a, b, c⟩; exact ⟨a, by omega, c⟩
      · rintro ⟨a, b, c⟩
        have : s ≠ k := fun e => h (e ▸ c)
        exact ⟨a, by omega, c⟩
theorem symsTo_nat (p : Pan) : ∀ k : Nat, ∃ l : List Nat, symsTo p k = l.map Int.ofNat ∧ l.Nodup ∧ ∀ a : Nat, a ∈ l ↔ a < k ∧ mapP p a = p
  | 0 => ⟨[], rfl, List.nodup_nil, fun a => by simp⟩
  | k + 1 => by
    obtain ⟨l, h1, h2, h3⟩ := symsTo_nat p k
    by_cases h : mapP p k = p
    · refine ⟨l ++ [k], by rw [symsTo_yes h, h1]; simp, ?_, fun a => ?_⟩
      · refine List.nodup_append.2 ⟨h2, by simp, ?_⟩
        intro a ha b hb e
        rw [List.mem_singleton] at hb
        have := ((h3 a).1 ha).1
        omega
      · rw [List.mem_append, h3, List.mem_singleton]
        constructor
        · rintro (⟨a1, a2⟩ | e)
          · exact ⟨by omega, a2⟩
          · subst e; exact ⟨by omega, h⟩
        · rintro ⟨a1, a2⟩
          by_cases e : a = k
          · exact .inr e
          · exact .inl ⟨by omega, a2⟩
    · refine ⟨l, by rw [symsTo_no h, h1], h2, fun a => ?_⟩
      rw [h3]
      constructor
      · rintro ⟨a1, a2⟩; exact ⟨by omega, a2⟩
      · rintro ⟨a1, a2⟩
        have : a ≠ k := fun e => h (e ▸ a2)
        exact ⟨by omega, a2⟩
theorem compK_nat {a b : Nat} (ha : a < 8) (hb : b < 8) : compK a b = ((compN a b : Nat) : Int) ∧ invK a = ((invN a : Nat) : Int) ∧ compN a b < 8 ∧ invN a < 8 := by
  have h : ∀ a : Nat, a < 8 → ∀ b : Nat, b < 8 → compK a b = ((compN a b : Nat) : Int) ∧ invK a = ((invN a : Nat) : Int) ∧ compN a b < 8 ∧ invN a < 8 := by decide
  exact h a ha b hb
theorem bset (f : Nat → Bool) (h0 : f 0 = true) (hc : ∀ a b, a < 8 → b < 8 → f a = true → f b = true → f (compN a b) = true) : grpB (maskB f) = true := by
  obtain ⟨_, h⟩ := maskB_bit f
  unfold grpB
  simp only [Bool.and_eq_true, List.all_eq_true, List.mem_range, Bool.or_eq_true, Bool.not_eq_true', Bool.and_eq_false_imp]
  refine ⟨by rw [h 0 (by omega)]; exact h0, fun a ha b hb => ?_⟩
  rw [h a ha, h b hb, h _ (compK_nat ha hb).2.2.1]
  by_cases e : f a = true ∧ f b = true
  · exact .inr (hc a b ha hb e.1 e.2)
  · refine .inl fun h1 => ?_
    cases h2 : f b
    · rfl
    · exact absurd ⟨h1, h2⟩ e
section
variable {p : Pan} (hp : Ok p)
include hp
theorem sym_comp {a b : Int} (a0 : 0 ≤ a) (a7 : a ≤ 7) (b0 : 0 ≤ b) (b7 : b ≤ 7) (ha : mapP p a = p) (hb : mapP p b = p) : mapP p (compK a b) = p := by
  rw [← map_comp hp a0 a7 b0 b7, ha, hb]
theorem sym_inv {a : Int} (a0 : 0 ≤ a) (a7 : a ≤ 7) (ha : mapP p a = p) : mapP p (invK a) = p := by
  obtain ⟨⟨i0, i7⟩, i1, i2⟩ := invK_bd a0 a7
  have h := map_comp hp a0 a7 i0 i7
  rw [ha, i1, mapP_zero ⟨hp.w1, hp.w8⟩] at h
  exact h
omit hp in
theorem sym_size {a : Int} (ha : mapP p a = p) : mapW p.W p.H a = p.W ∧ mapH p.W p.H a = p.H := ⟨congrArg Pan.W ha, congrArg Pan.H ha⟩
/-- Orbits of points divide the number of symmetries. -/
theorem orbit_div (x y : Int) : (symsTo p 8).length % (orbL ((symsTo p 8).map fun s => mapX p.W p.H x y s)).length = 0 ∧ 0 < (orbL ((symsTo p 8).map fun s => mapX p.W p.H x y s)).length := by
  obtain ⟨l, h1, h2, h3⟩ := symsTo_nat p 8
  have hx := fun (a b : Int) (a0 : 0 ≤ a) (a7 : a ≤ 7) (b0 : 0 ≤ b) (b7 : b ≤ 7) (ha : mapP p a = p) => (show mapX p.W p.H (mapX p.W p.H x y a).1 (mapX p.W p.H x y a).2 b = mapX p.W p.H x y (compK a b) by
    have h := (mapX_comp p.W p.H x y a0 a7 b0 b7).1
    rwa [(sym_size ha).1, (sym_size ha).2] at h)
  have key := orb_count (f := fun a => mapX p.W p.H x y a) (G := fun a => decide (mapP p a = p)) (S := fun a => decide (mapP p a = p) && decide (mapX p.W p.H x y a = (x, y)))
    (bset _ (by simpa using mapP_zero ⟨hp.w1, hp.w8⟩) fun a b ha hb h k => by
      simp only [decide_eq_true_eq] at h k ⊢
      rw [← (compK_nat ha hb).1]
      exact sym_comp hp (by omega) (by omega) (by omega) (by omega) h k)
    (bset _ (by simpa using ⟨mapP_zero ⟨hp.w1, hp.w8⟩, mapX_zero p.W p.H x y⟩) fun a b ha hb h k => by
      simp only [Bool.and_eq_true, decide_eq_true_eq] at h k ⊢
      rw [← (compK_nat ha hb).1]
      refine ⟨sym_comp hp (by omega) (by omega) (by omega) (by omega) h.1 k.1, ?_⟩
      rw [← hx a b (by omega) (by omega) (by omega) (by omega) h.1, h.2]
      exact k.2)
    (fun a b ha hb h k => by
      simp only [Bool.and_eq_true, decide_eq_true_eq] at h k ⊢
      have hc := compK_nat ha (compK_nat hb hb).2.2.2
      obtain ⟨⟨i0, i7⟩, i1, i2⟩ := invK_bd (a := (b : Int)) (by omega) (by omega)
      have hki := sym_inv hp (by omega) (by omega) k
      rw [← hc.1, ← (compK_nat hb hb).2.1, ← hx a (invK b) (by omega) (by omega) i0 i7 h]
      constructor
      · intro e
        refine ⟨sym_comp hp (by omega) (by omega) i0 i7 h hki, ?_⟩
        rw [e, hx b (invK b) (by omega) (by omega) i0 i7 k, i1, mapX_zero]
      · rintro ⟨_, e⟩
        have e2 := hx (invK b) b i0 i7 (by omega) (by omega) hki
        have e3 := mapX_comp p.W p.H (mapX p.W p.H x y a).1 (mapX p.W p.H x y a).2 i0 i7 (b := (b : Int)) (by omega) (by omega)
        rw [(sym_size hki).1, (sym_size hki).2, e, i2, mapX_zero] at e3
        exact e3.1.symm)
    l (fun a => by rw [h3]; simp) h2
  rw [h1]
  simpa [List.map_map, Function.comp_def] using key
end
end Knot
