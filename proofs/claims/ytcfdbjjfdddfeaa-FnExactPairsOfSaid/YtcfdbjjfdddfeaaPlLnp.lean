/-
  Plain mathematics: Lnp. No program is in sight.
-/
import Derived.Test.YtcfdbjjfdddfeaaPlCol
namespace Knot

/-! ### The pairs at the points between two columns are the links -/

section
variable {p : Pan} (hp : Ok p) {X : Int} (hX : 0 < X ∧ X < 2 * p.W)
include hp hX

omit hp hX in
theorem sg_is (X y dy : Int) : sg p X y 1 dy = (X - 1) * (2 * p.H) + (2 * p.H + min y (y + dy)) ∧ sg p X y (-1) dy = (X - 1) * (2 * p.H) + min y (y + dy) := by
  have hXX : X * (2 * p.H) = (X - 1) * (2 * p.H) + 2 * p.H := by rw [Int.sub_mul]; omega
  constructor
  · show min X (X + 1) * (2 * p.H) + min y (y + dy) = _
    rw [show min X (X + 1) = X by omega, hXX]; omega
  · show min X (X + -1) * (2 * p.H) + min y (y + dy) = _
    rw [show min X (X + -1) = X - 1 by omega]
omit hp hX in
theorem row_pt {X i y : Int} (hy : (X + y) % 2 = 1) (h : (i < 2 * p.H ∧ (i = y ∨ i = y - 1)) ∨ (2 * p.H ≤ i ∧ (i = 2 * p.H + y ∨ i = 2 * p.H + y - 1))) :
    ptL p X i = y ∧ rowL p i = (if i < 2 * p.H then i else i - 2 * p.H) ∧ othL p X i = (if rowL p i = y then y - 1 else y) := by
  unfold ptL othL rowL
  split <;> (refine ⟨?_, rfl, ?_⟩ <;> (split <;> (try split) <;> omega))
set_option maxHeartbeats 1600000 in
/-- A pair at a point between two columns is a link. -/
theorem pairs_link {y : Int} (hh : Has p X y) {a b : Int} (hm : (a, b) ∈ pairsP p X y) :
    ∃ i, 0 ≤ i ∧ i < 4 * p.H ∧ a = (X - 1) * (2 * p.H) + i ∧ b = (X - 1) * (2 * p.H) + linkA p X i ∧ ptL p X i = y := by
  obtain ⟨_, _, y0, y1, hpar⟩ := hh
  have H1 := hp.h1
  clear hp
  unfold pairsP at hm
  rw [if_neg (by omega), if_neg (by omega)] at hm
  have key : ∀ i : Int, ((i < 2 * p.H ∧ (i = y ∨ i = y - 1)) ∨ (2 * p.H ≤ i ∧ (i = 2 * p.H + y ∨ i = 2 * p.H + y - 1))) → ptL p X i = y ∧
      linkA p X i = (if y = 0 ∨ y = 2 * p.H ∨ brk p X y = 2 then (if i < 2 * p.H then 2 * p.H + i else i - 2 * p.H)
        else if brk p X y = 1 then (if i < 2 * p.H then (if i = y then y - 1 else y) else 2 * p.H + (if i - 2 * p.H = y then y - 1 else y))
        else (if i < 2 * p.H then 2 * p.H + (if i = y then y - 1 else y) else (if i - 2 * p.H = y then y - 1 else y))) := by
    intro i hi
    obtain ⟨e1, e2, e3⟩ := row_pt hpar hi
    refine ⟨e1, ?_⟩
    unfold linkA
    rw [e1, e3, e2]
    split
    · split
      · rfl
      · rfl
    · split
      · split <;> simp_all
      · split <;> simp_all
  have ed : y = 0 ∨ y = 2 * p.H → brk p X y = 0 := by
    intro h
    unfold brk
    rw [if_pos]
    unfold Edge
    omega
  have s1 := sg_is (p := p) X y 1
  have s2 := sg_is (p := p) X y (-1)
  rw [show min y (y + 1) = y by omega] at s1
  rw [show min y (y + -1) = y - 1 by omega] at s2
  rw [s1.1, s1.2, s2.1, s2.2] at hm
  generalize brk p X y = k at *
  split at hm
  · simp only [List.mem_singleton, Prod.mk.injEq] at hm
    refine ⟨y, by omega, by omega, hm.1, ?_, (key y (by omega)).1⟩
    rw [(key y (by omega)).2, if_pos (by omega), if_pos (by omega), hm.2]
  · split at hm
    · simp only [List.mem_singleton, Prod.mk.injEq] at hm
      refine ⟨y - 1, by omega, by omega, hm.1, ?_, (key (y - 1) (by omega)).1⟩
      rw [(key (y - 1) (by omega)).2, if_pos (by omega), if_pos (by omega), hm.2]
    · split at hm
      · simp only [List.mem_cons, Prod.mk.injEq, List.not_mem_nil, or_false] at hm
        rcases hm with hm | hm
        · refine ⟨y - 1, by omega, by omega, hm.1, ?_, (key (y - 1) (by omega)).1⟩
          rw [(key (y - 1) (by omega)).2, if_neg (by omega), if_pos (by omega), if_pos (by omega), if_neg (by omega), hm.2]
        · refine ⟨2 * p.H + (y - 1), by omega, by omega, hm.1, ?_, (key (2 * p.H + (y - 1)) (by omega)).1⟩
          rw [(key (2 * p.H + (y - 1)) (by omega)).2, if_neg (by omega), if_pos (by omega), if_neg (by omega), if_neg (by omega), hm.2]
      · split at hm
        · simp only [List.mem_cons, Prod.mk.injEq, List.not_mem_nil, or_false] at hm
          rcases hm with hm | hm
          · refine ⟨y - 1, by omega, by omega, hm.1, ?_, (key (y - 1) (by omega)).1⟩
            rw [(key (y - 1) (by omega)).2, if_pos (by omega), if_pos (by omega), hm.2]
          · refine ⟨y, by omega, by omega, hm.1, ?_, (key y (by omega)).1⟩
            rw [(key y (by omega)).2, if_pos (by omega), if_pos (by omega), hm.2]
        · simp only [List.mem_cons, Prod.mk.injEq, List.not_mem_nil, or_false] at hm
          rcases hm with hm | hm
          · refine ⟨y - 1, by omega, by omega, hm.1, ?_, (key (y - 1) (by omega)).1⟩
            rw [(key (y - 1) (by omega)).2, if_neg (by omega), if_neg (by omega), if_pos (by omega), if_neg (by omega), hm.2]
          · refine ⟨2 * p.H + (y - 1), by omega, by omega, hm.1, ?_, (key (2 * p.H + (y - 1)) (by omega)).1⟩
            rw [(key (2 * p.H + (y - 1)) (by omega)).2, if_neg (by omega), if_neg (by omega), if_neg (by omega), if_neg (by omega), hm.2]
omit hp in
theorem pt_has {i : Int} (h0 : 0 ≤ i) (h1 : i < 4 * p.H) : Has p X (ptL p X i) := by
  unfold ptL rowL Has
  refine ⟨by omega, by omega, ?_, ?_, ?_⟩ <;> split <;> split <;> omega
/-- The pairs at a point hold all segments that meet there. -/
theorem pairs_all {i : Int} (h0 : 0 ≤ i) (h1 : i < 4 * p.H) : ∃ a b, (a, b) ∈ pairsP p X (ptL p X i) ∧ (a = (X - 1) * (2 * p.H) + i ∨ b = (X - 1) * (2 * p.H) + i) := by
  have hh := pt_has hX h0 h1
  have H1 := hp.h1
  obtain ⟨y, hy⟩ : ∃ y, ptL p X i = y := ⟨_, rfl⟩
  have hi : (i < 2 * p.H ∧ (i = y ∨ i = y - 1)) ∨ (2 * p.H ≤ i ∧ (i = 2 * p.H + y ∨ i = 2 * p.H + y - 1)) := by
    unfold ptL rowL at hy
    split at hy <;> split at hy <;> omega
  rw [hy] at hh ⊢
  obtain ⟨_, _, y0, y1, hpar⟩ := hh
  have s1 := sg_is (p := p) X y 1
  have s2 := sg_is (p := p) X y (-1)
  rw [show min y (y + 1) = y by omega] at s1
  rw [show min y (y + -1) = y - 1 by omega] at s2
  unfold pairsP
  rw [if_neg (by omega), if_neg (by omega), s1.1, s1.2, s2.1, s2.2]
  generalize (X - 1) * (2 * p.H) = Z
  split
  · exact ⟨_, _, List.mem_singleton.2 rfl, by omega⟩
  · split
    · exact ⟨_, _, List.mem_singleton.2 rfl, by omega⟩
    · split
      · by_cases e : i < 2 * p.H
        · exact ⟨_, _, List.mem_cons_self, by omega⟩
        · exact ⟨_, _, List.mem_cons_of_mem _ List.mem_cons_self, by omega⟩
      · split
        · by_cases e : i = y - 1 ∨ i = 2 * p.H + (y - 1)
          · exact ⟨_, _, List.mem_cons_self, by omega⟩
          · exact ⟨_, _, List.mem_cons_of_mem _ List.mem_cons_self, by omega⟩
        · by_cases e : i = y - 1 ∨ i = 2 * p.H + y
          · exact ⟨_, _, List.mem_cons_self, by omega⟩
          · exact ⟨_, _, List.mem_cons_of_mem _ List.mem_cons_self, by omega⟩
end
end Knot
