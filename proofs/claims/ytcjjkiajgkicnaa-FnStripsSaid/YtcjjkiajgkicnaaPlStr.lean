/-
  Plain mathematics: Str. No program is in sight.
-/
import Derived.Test.YtcjjkiajgkicnaaPlCls
namespace Knot

/-! ### Panels of the height 1: each upright mirror gives one more curve -/

/-- How many of the first k breaks are upright. -/
def ups (B : List Int) : Nat → Int
  | 0 => 0
  | k + 1 => if gI B k = 1 then ups B k + 1 else ups B k
theorem ups_mono (B : List Int) : ∀ (d k : Nat), ups B k ≤ ups B (k + d)
  | 0, _ => Int.le_refl _
  | d + 1, k => by
    have h := ups_mono B d k
    have e : ups B (k + (d + 1)) = if gI B ((k + d : Nat) : Int) = 1 then ups B (k + d) + 1 else ups B (k + d) := rfl
    rw [e]
    split <;> omega

/-- The first segment of each part. -/
def firsts (B : List Int) : Nat → List Nat
  | 0 => [0]
  | k + 1 => if gI B k = 1 then firsts B k ++ [4 * (k + 1)] else firsts B k
theorem firsts_length (B : List Int) : ∀ k, ((firsts B k).length : Int) = ups B k + 1
  | 0 => rfl
  | k + 1 => by
    have := firsts_length B k
    unfold firsts ups
    split
    · simp; omega
    · exact this
theorem firsts_sub (B : List Int) {x : Nat} (k : Nat) : ∀ d, x ∈ firsts B k → x ∈ firsts B (k + d)
  | 0, h => h
  | d + 1, h => by
    have := firsts_sub B k d h
    rw [← Nat.add_assoc]
    unfold firsts
    split
    · exact List.mem_append.2 (.inl this)
    · exact this
theorem firsts_form (B : List Int) : ∀ k, ∀ x ∈ firsts B k, ∃ c, c ≤ k ∧ x = 4 * c
  | 0, x, h => ⟨0, by omega, by simpa [firsts] using h⟩
  | k + 1, x, h => by
    unfold firsts at h
    split at h
    · rcases List.mem_append.1 h with h | h
      · obtain ⟨c, hc, e⟩ := firsts_form B k x h
        exact ⟨c, by omega, e⟩
      · exact ⟨k + 1, by omega, by simpa using h⟩
    · obtain ⟨c, hc, e⟩ := firsts_form B k x h
      exact ⟨c, by omega, e⟩

theorem strip_brk {w : Int} {B : List Int} {x y : Int} (hx : 0 < x) (hx2 : x < 2 * w) (hy : y = 1) : brk ⟨w, 1, B⟩ x y = gI B ((x - 1) / 2) := by
  subst hy
  unfold brk gI
  rw [if_neg (by unfold Edge; show ¬ (x = 0 ∨ x = 2 * w ∨ (1 : Int) = 0 ∨ (1 : Int) = 2 * 1); omega)]
  congr 2
  show rowOf w 1 + (x - 1) / 2 = _
  unfold rowOf
  simp

section
variable {w : Int} {B : List Int} (hp : Ok ⟨w, 1, B⟩)
include hp

/-- What the part of a segment is. -/
def partS (B : List Int) (s : Nat) : Int := ups B (s / 4)

theorem part_step {a : Wk} (h : OkW ⟨w, 1, B⟩ a) : partS B (segI ⟨w, 1, B⟩ (stepW ⟨w, 1, B⟩ a)).toNat = partS B (segI ⟨w, 1, B⟩ a).toNat := by
  obtain ⟨X, Y, dx, dy⟩ := a
  obtain ⟨h1, h2, ⟨a1, a2, a3, a4, a5⟩, ⟨b1, b2, b3, b4, b5⟩⟩ := h
  simp only [] at *
  have w1 : 1 ≤ w := hp.w1
  unfold partS segI stepW
  simp only []
  generalize hx : X + dx = x at *
  generalize hy : Y + dy = y at *
  obtain ⟨e, he⟩ : ∃ e, (if y = 0 ∨ y = 2 * 1 ∨ brk ⟨w, 1, B⟩ x y = 2 then -dy else dy) = e := ⟨_, rfl⟩
  rw [he]
  have he2 : 0 ≤ y + e ∧ y + e ≤ 2 ∧ (e = 1 ∨ e = -1) := by
    rw [← he]
    split <;> omega
  clear he
  obtain ⟨c1, c2, c3⟩ := he2
  have r0 : 0 ≤ min y (y + e) ∧ min y (y + e) ≤ 1 := by omega
  have r1 : 0 ≤ min Y y ∧ min Y y ≤ 1 := by omega
  generalize min y (y + e) = r at *
  generalize min Y y = q at *
  by_cases hin : (x = 0 ∨ x = 2 * w) ∨ y ≠ 1
  · have hk : brk ⟨w, 1, B⟩ x y = 0 := by
      unfold brk
      rw [if_pos]
      unfold Edge
      show x = 0 ∨ x = 2 * w ∨ y = 0 ∨ y = 2 * 1
      omega
    rw [hk]
    congr 1
    by_cases hc : x = 0 ∨ x = 2 * w
    · rw [if_pos (show x = 0 ∨ x = 2 * w ∨ (0 : Int) = 1 by omega)]
      rcases h1 with rfl | rfl
      · rw [show min x (x + -1) = x - 1 by omega, show min X x = x - 1 by omega]
        clear c1 c2 c3 hk hx
        omega
      · rw [show min x (x + - -1) = x by omega, show min X x = x by omega]
        clear c1 c2 c3 hk hx
        omega
    · rw [if_neg (show ¬ (x = 0 ∨ x = 2 * w ∨ (0 : Int) = 1) by omega)]
      have hodd : x % 2 = 1 := by omega
      rcases h1 with rfl | rfl
      · rw [show min x (x + 1) = x by omega, show min X x = x - 1 by omega]
        clear c1 c2 c3 hk hx hin hc
        omega
      · rw [show min x (x + -1) = x - 1 by omega, show min X x = x by omega]
        clear c1 c2 c3 hk hx hin hc
        omega
  · have hk := strip_brk (B := B) (w := w) (x := x) (y := y) (by omega) (by omega) (by omega)
    obtain ⟨c, hc⟩ : ∃ c : Nat, x = 2 * (c : Int) + 2 := ⟨((x - 2) / 2).toNat, by omega⟩
    rw [hk, show (x - 1) / 2 = (c : Int) by omega]
    by_cases hu : gI B c = 1
    · rw [if_pos (show x = 0 ∨ x = 2 * w ∨ gI B c = 1 by omega)]
      congr 1
      rcases h1 with rfl | rfl
      · rw [show min x (x + -1) = x - 1 by omega, show min X x = x - 1 by omega]
        clear c1 c2 c3 hk hx hin
        omega
      · rw [show min x (x + - -1) = x by omega, show min X x = x by omega]
        clear c1 c2 c3 hk hx hin
        omega
    · rw [if_neg (show ¬ (x = 0 ∨ x = 2 * w ∨ gI B c = 1) by omega)]
      have hup : ups B (c + 1) = ups B c := by
        conv => lhs; unfold ups
        rw [if_neg hu]
      rcases h1 with rfl | rfl
      · rw [show min x (x + 1) = x by omega, show min X x = x - 1 by omega]
        have e1 : (x * (2 * 1) + r).toNat / 4 = c + 1 := by clear c1 c2 c3 hk hx hin; omega
        have e2 : ((x - 1) * (2 * 1) + q).toNat / 4 = c := by clear c1 c2 c3 hk hx hin; omega
        rw [e1, e2, hup]
      · rw [show min x (x + -1) = x - 1 by omega, show min X x = x by omega]
        have e1 : ((x - 1) * (2 * 1) + r).toNat / 4 = c := by clear c1 c2 c3 hk hx hin; omega
        have e2 : (x * (2 * 1) + q).toNat / 4 = c + 1 := by clear c1 c2 c3 hk hx hin; omega
        rw [e1, e2, hup]

theorem part_on {a b : Nat} (h : On ⟨w, 1, B⟩ hp a b) : partS B b = partS B a :=
  h.min hp (Q := fun x => partS B x = partS B a) (fun v hv hq => by rw [part_step hp hv]; exact hq) rfl

/-- One step, given by what it does. -/
theorem strip_on {X Y dx dy : Int} (h1 : dx = 1 ∨ dx = -1) (h2 : dy = 1 ∨ dy = -1) (hX : 0 ≤ X ∧ X ≤ 2 * w) (hY : 0 ≤ Y ∧ Y ≤ 2) (ho : (X + Y) % 2 = 1) (hx : 0 ≤ X + dx ∧ X + dx ≤ 2 * w) (hy : 0 ≤ Y + dy ∧ Y + dy ≤ 2)
    {a b : Nat} (ha : segI ⟨w, 1, B⟩ ⟨X, Y, dx, dy⟩ = a) (hb : segI ⟨w, 1, B⟩ (stepW ⟨w, 1, B⟩ ⟨X, Y, dx, dy⟩) = b) : On ⟨w, 1, B⟩ hp a b := by
  have hk : OkW ⟨w, 1, B⟩ ⟨X, Y, dx, dy⟩ := okW_mk h1 h2 ⟨hX.1, hX.2, hY.1, hY.2, ho⟩ ⟨hx.1, hx.2, hy.1, hy.2, by omega⟩
  have := On.step hp hk
  rwa [ha, hb] at this

omit hp in
theorem strip_edge {x y : Int} (h : y = 0 ∨ y = 2 ∨ x = 0 ∨ x = 2 * w) : brk ⟨w, 1, B⟩ x y = 0 := by
  unfold brk
  rw [if_pos]
  unfold Edge
  show x = 0 ∨ x = 2 * w ∨ y = 0 ∨ y = 2 * 1
  omega

theorem strip_top {c : Nat} (hc : (c : Int) < w) : On ⟨w, 1, B⟩ hp (4 * c) (4 * c + 2) := by
  refine strip_on hp (X := 2 * c) (Y := 1) (dx := 1) (dy := -1) (.inl rfl) (.inr rfl) (by omega) (by omega) (by omega) (by omega) (by omega) ?_ ?_
  · unfold segI; simp only []; omega
  · unfold segI stepW
    simp only []
    rw [strip_edge (.inl (by omega)), if_neg (by show ¬ (_ = 0 ∨ _ = 2 * w ∨ (0 : Int) = 1); omega), if_pos (.inl (by omega))]
    show min _ _ * (2 * 1) + min _ _ = _
    omega
theorem strip_bot {c : Nat} (hc : (c : Int) < w) : On ⟨w, 1, B⟩ hp (4 * c + 1) (4 * c + 3) := by
  refine strip_on hp (X := 2 * c) (Y := 1) (dx := 1) (dy := 1) (.inl rfl) (.inl rfl) (by omega) (by omega) (by omega) (by omega) (by omega) ?_ ?_
  · unfold segI; simp only []; omega
  · unfold segI stepW
    simp only []
    rw [strip_edge (.inr (.inl (by omega))), if_neg (by show ¬ (_ = 0 ∨ _ = 2 * w ∨ (0 : Int) = 1); omega), if_pos (.inr (.inl (by show _ = 2 * (1 : Int); omega)))]
    show min _ _ * (2 * 1) + min _ _ = _
    omega
theorem strip_end : On ⟨w, 1, B⟩ hp 0 1 := by
  have w1 : 1 ≤ w := hp.w1
  refine strip_on hp (X := 1) (Y := 0) (dx := -1) (dy := 1) (.inr rfl) (.inl rfl) (by omega) (by omega) (by omega) (by omega) (by omega) ?_ ?_
  · unfold segI; simp only []; omega
  · unfold segI stepW
    simp only []
    rw [strip_edge (.inr (.inr (.inl (by omega)))), if_pos (.inl (by omega)), if_neg (by show ¬ (_ = 0 ∨ _ = 2 * 1 ∨ (0 : Int) = 2); omega)]
    show min _ _ * (2 * 1) + min _ _ = _
    omega
/-- From the left over the point between two cells. -/
theorem strip_in {c : Nat} (hc : (c : Int) + 1 < w) : (gI B c = 1 → On ⟨w, 1, B⟩ hp (4 * (c + 1)) (4 * (c + 1) + 1)) ∧
    (gI B c ≠ 1 → gI B c ≠ 2 → On ⟨w, 1, B⟩ hp (4 * c + 2) (4 * (c + 1) + 1) ∧ On ⟨w, 1, B⟩ hp (4 * c + 3) (4 * (c + 1))) ∧
    (gI B c = 2 → On ⟨w, 1, B⟩ hp (4 * c + 2) (4 * (c + 1)) ∧ On ⟨w, 1, B⟩ hp (4 * c + 3) (4 * (c + 1) + 1)) := by
  have hb : ∀ x y : Int, x = 2 * (c : Int) + 2 → y = 1 → brk ⟨w, 1, B⟩ x y = gI B c := by
    intro x y hx hy
    rw [strip_brk (by omega) (by omega) hy, show (x - 1) / 2 = (c : Int) by omega]
  refine ⟨fun hu => ?_, fun h1 h2 => ⟨?_, ?_⟩, fun h2 => ⟨?_, ?_⟩⟩
  · refine strip_on hp (X := 2 * c + 3) (Y := 0) (dx := -1) (dy := 1) (.inr rfl) (.inl rfl) (by omega) (by omega) (by omega) (by omega) (by omega) ?_ ?_
    · unfold segI; simp only []; omega
    · unfold segI stepW
      simp only []
      rw [hb _ _ (by omega) (by omega), hu, if_pos (.inr (.inr rfl)), if_neg (by show ¬ (_ = 0 ∨ _ = 2 * 1 ∨ (1 : Int) = 2); omega)]
      show min _ _ * (2 * 1) + min _ _ = _
      omega
  · refine strip_on hp (X := 2 * c + 1) (Y := 0) (dx := 1) (dy := 1) (.inl rfl) (.inl rfl) (by omega) (by omega) (by omega) (by omega) (by omega) ?_ ?_
    · unfold segI; simp only []; omega
    · unfold segI stepW
      simp only []
      rw [hb _ _ (by omega) (by omega), if_neg (by show ¬ (_ = 0 ∨ _ = 2 * w ∨ _ = 1); omega), if_neg (by show ¬ (_ = 0 ∨ _ = 2 * 1 ∨ _ = 2); omega)]
      show min _ _ * (2 * 1) + min _ _ = _
      omega
  · refine strip_on hp (X := 2 * c + 1) (Y := 2) (dx := 1) (dy := -1) (.inl rfl) (.inr rfl) (by omega) (by omega) (by omega) (by omega) (by omega) ?_ ?_
    · unfold segI; simp only []; omega
    · unfold segI stepW
      simp only []
      rw [hb _ _ (by omega) (by omega), if_neg (by show ¬ (_ = 0 ∨ _ = 2 * w ∨ _ = 1); omega), if_neg (by show ¬ (_ = 0 ∨ _ = 2 * 1 ∨ _ = 2); omega)]
      show min _ _ * (2 * 1) + min _ _ = _
      omega
  · refine strip_on hp (X := 2 * c + 1) (Y := 0) (dx := 1) (dy := 1) (.inl rfl) (.inl rfl) (by omega) (by omega) (by omega) (by omega) (by omega) ?_ ?_
    · unfold segI; simp only []; omega
    · unfold segI stepW
      simp only []
      rw [hb _ _ (by omega) (by omega), h2, if_neg (by show ¬ (_ = 0 ∨ _ = 2 * w ∨ (2 : Int) = 1); omega), if_pos (.inr (.inr rfl))]
      show min _ _ * (2 * 1) + min _ _ = _
      omega
  · refine strip_on hp (X := 2 * c + 1) (Y := 2) (dx := 1) (dy := -1) (.inl rfl) (.inr rfl) (by omega) (by omega) (by omega) (by omega) (by omega) ?_ ?_
    · unfold segI; simp only []; omega
    · unfold segI stepW
      simp only []
      rw [hb _ _ (by omega) (by omega), h2, if_neg (by show ¬ (_ = 0 ∨ _ = 2 * w ∨ (2 : Int) = 1); omega), if_pos (.inr (.inr rfl))]
      show min _ _ * (2 * 1) + min _ _ = _
      omega

/-- The four segments of a cell are of one curve, and it goes through a first segment. -/
theorem strip_cell : ∀ c : Nat, (c : Int) < w → On ⟨w, 1, B⟩ hp (4 * c) (4 * c + 1) ∧ ∃ b ∈ firsts B c, On ⟨w, 1, B⟩ hp (4 * c) b
  | 0, h => ⟨strip_end hp, 0, by simp [firsts], On.refl hp (by
      have := hp.w1
      show 0 < (4 * w * 1).toNat
      omega)⟩
  | c + 1, h => by
    obtain ⟨h1, b, hb, h2⟩ := strip_cell c (by omega)
    have ht := strip_top hp (c := c) (by omega)
    have hbo := strip_bot hp (c := c) (by omega)
    obtain ⟨i1, i2, i3⟩ := strip_in hp (c := c) (by omega)
    have hsub := firsts_sub B c 1 hb
    by_cases hu : gI B c = 1
    · refine ⟨i1 hu, 4 * (c + 1), ?_, On.refl hp ((i1 hu).lt hp).1⟩
      unfold firsts
      rw [if_pos hu]
      simp
    · have tb : On ⟨w, 1, B⟩ hp (4 * c + 2) (4 * c + 3) := (ht.symm hp).trans hp (h1.trans hp hbo)
      have t2 : On ⟨w, 1, B⟩ hp (4 * c + 2) b := (ht.symm hp).trans hp h2
      by_cases hl : gI B c = 2
      · obtain ⟨j1, j2⟩ := i3 hl
        exact ⟨(j1.symm hp).trans hp (tb.trans hp j2), b, hsub, (j1.symm hp).trans hp t2⟩
      · obtain ⟨j1, j2⟩ := i2 hu hl
        exact ⟨(j2.symm hp).trans hp ((tb.symm hp).trans hp j1), b, hsub, (j2.symm hp).trans hp ((tb.symm hp).trans hp t2)⟩

omit hp in
theorem strip_apart : ∀ k, (firsts B k).Pairwise fun a b => partS B a ≠ partS B b
  | 0 => by simp [firsts]
  | k + 1 => by
    have ih := strip_apart k
    unfold firsts
    split
    · rename_i hu
      rw [List.pairwise_append]
      refine ⟨ih, by simp, fun a ha b hb => ?_⟩
      simp at hb
      subst hb
      obtain ⟨c, hc, rfl⟩ := firsts_form B k a ha
      unfold partS
      rw [show 4 * c / 4 = c by omega, show 4 * (k + 1) / 4 = k + 1 by omega]
      have := ups_mono B (k - c) c
      rw [show c + (k - c) = k by omega] at this
      have e : ups B (k + 1) = ups B k + 1 := by
        conv => lhs; unfold ups
        rw [if_pos hu]
      omega
    · exact ih

/-- Each upright mirror gives one more curve. -/
theorem strip_count : cntP ⟨w, 1, B⟩ = ups B B.length + 1 := by
  have w1 : 1 ≤ w := hp.w1
  have hl : (B.length : Int) = w * (1 - 1) + 1 * (w - 1) := hp.len
  rw [Int.sub_self, Int.mul_zero] at hl
  have hN : segN ⟨w, 1, B⟩ = (4 * w).toNat := by show (4 * w * 1).toNat = _; rw [Int.mul_one]
  rw [cnt_reps hp (L := firsts B B.length), firsts_length]
  refine ⟨fun a ha => ?_, (strip_apart _).imp fun h k => h (part_on hp k).symm, fun a ha => ?_⟩
  · obtain ⟨c, hc, rfl⟩ := firsts_form B _ a ha
    rw [hN]
    omega
  · rw [hN] at ha
    obtain ⟨c, hc⟩ : ∃ c, c = a / 4 := ⟨_, rfl⟩
    have hcw : (c : Int) < w := by omega
    obtain ⟨h1, b, hb, h2⟩ := strip_cell hp c hcw
    have ht := strip_top hp hcw
    have hbo := strip_bot hp hcw
    have hsub := firsts_sub B c (B.length - c) hb
    rw [show c + (B.length - c) = B.length by omega] at hsub
    refine ⟨b, hsub, ?_⟩
    have h4 : a = 4 * c ∨ a = 4 * c + 1 ∨ a = 4 * c + 2 ∨ a = 4 * c + 3 := by omega
    rcases h4 with rfl | rfl | rfl | rfl
    · exact h2
    · exact (h1.symm hp).trans hp h2
    · exact (ht.symm hp).trans hp h2
    · exact (hbo.symm hp).trans hp ((h1.symm hp).trans hp h2)
end
end Knot
