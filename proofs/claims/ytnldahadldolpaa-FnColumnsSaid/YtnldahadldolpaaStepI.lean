/-
  A step of a walker, by the program.
-/
import Derived.Test.YtnldahadldolpaaSegC
import Derived.Test.YtnldahadldolpaaAppAt
import Derived.Deep.RegionHeld3
import Derived.BigRegion
import Derived.Test.YtnldahadldolpaaCut
namespace Go.Proofs.Ytnldahadldolpaa
open Go.RowKit Knot

theorem keep_cell {w w' : World} (hb : Below w.heap.size w w') {b o : Nat} {v : Value} (h : w.cell? ⟨b, o, none⟩ = some v) : w'.cell? ⟨b, o, none⟩ = some v := by
  have hl := World.block_lt_of_cell? w _ h
  exact (hb.cell (p := ⟨b, o, none⟩) hl).trans h
theorem Box.setc {w : World} {k : Nat} {t : TypeId} {cs : Array Value} (h : Box w k t cs) {p : Addr} (hp : k ≠ p.block) (u : Value) : Box (w.setCell p u) k t cs := h.far hp u
/-- Where a walker's next point may lie, and what the step does there. -/
theorem step_cases {W H x y dx dy : Int} {B : List Int} (hp : Ok ⟨W, H, B⟩) (hk : OkW ⟨W, H, B⟩ ⟨x, y, dx, dy⟩) :
    (x + dx = 0 ∧ Knot.Edge ⟨W, H, B⟩ (x + dx) (y + dy) ∧ y + dy ≠ 0 ∧ y + dy ≠ 2 * H ∧ x + dx ≠ 2 * W ∧ stepW ⟨W, H, B⟩ ⟨x, y, dx, dy⟩ = ⟨x + dx, y + dy, -dx, dy⟩) ∨
    (x + dx = 2 * W ∧ Knot.Edge ⟨W, H, B⟩ (x + dx) (y + dy) ∧ y + dy ≠ 0 ∧ y + dy ≠ 2 * H ∧ x + dx ≠ 0 ∧ stepW ⟨W, H, B⟩ ⟨x, y, dx, dy⟩ = ⟨x + dx, y + dy, -dx, dy⟩) ∨
    (y + dy = 0 ∧ Knot.Edge ⟨W, H, B⟩ (x + dx) (y + dy) ∧ x + dx ≠ 0 ∧ x + dx ≠ 2 * W ∧ y + dy ≠ 2 * H ∧ stepW ⟨W, H, B⟩ ⟨x, y, dx, dy⟩ = ⟨x + dx, y + dy, dx, -dy⟩) ∨
    (y + dy = 2 * H ∧ Knot.Edge ⟨W, H, B⟩ (x + dx) (y + dy) ∧ x + dx ≠ 0 ∧ x + dx ≠ 2 * W ∧ y + dy ≠ 0 ∧ stepW ⟨W, H, B⟩ ⟨x, y, dx, dy⟩ = ⟨x + dx, y + dy, dx, -dy⟩) ∨
    (¬ Knot.Edge ⟨W, H, B⟩ (x + dx) (y + dy) ∧ (x + dx ≠ 0 ∧ x + dx ≠ 2 * W ∧ y + dy ≠ 0 ∧ y + dy ≠ 2 * H) ∧ (1 ≤ x + dx ∧ x + dx ≤ 15 ∧ 1 ≤ y + dy ∧ y + dy ≤ 15 ∧ (x + dx + (y + dy)) % 2 = 1) ∧
      (0 ≤ rowOf W (y + dy) + (x + dx - 1) / 2 ∧ rowOf W (y + dy) + (x + dx - 1) / 2 < B.length) ∧
      ((gI B (rowOf W (y + dy) + (x + dx - 1) / 2) = 0 ∧ stepW ⟨W, H, B⟩ ⟨x, y, dx, dy⟩ = ⟨x + dx, y + dy, dx, dy⟩) ∨ (gI B (rowOf W (y + dy) + (x + dx - 1) / 2) = 1 ∧ stepW ⟨W, H, B⟩ ⟨x, y, dx, dy⟩ = ⟨x + dx, y + dy, -dx, dy⟩) ∨
        (gI B (rowOf W (y + dy) + (x + dx - 1) / 2) = 2 ∧ stepW ⟨W, H, B⟩ ⟨x, y, dx, dy⟩ = ⟨x + dx, y + dy, dx, -dy⟩))) := by
  obtain ⟨h1, h2, ⟨a1, a2, a3, a4, a5⟩, ⟨b1, b2, b3, b4, b5⟩⟩ := hk
  have w1 := hp.w1
  have w8 := hp.w8
  have h1' := hp.h1
  have h8 := hp.h8
  have hlen := hp.len
  have hkind := hp.kind
  simp only [] at *
  by_cases e1 : x + dx = 0
  · refine .inl ⟨e1, .inl e1, by omega, by omega, by omega, ?_⟩
    have he : Knot.Edge ⟨W, H, B⟩ (x + dx) (y + dy) := .inl e1
    simp only [stepW, brk, if_pos he]
    rw [if_pos (.inl e1), if_neg (by omega)]
  by_cases e2 : x + dx = 2 * W
  · refine .inr (.inl ⟨e2, .inr (.inl e2), by omega, by omega, by omega, ?_⟩)
    have he : Knot.Edge ⟨W, H, B⟩ (x + dx) (y + dy) := .inr (.inl e2)
    simp only [stepW, brk, if_pos he]
    rw [if_pos (.inr (.inl e2)), if_neg (by omega)]
  by_cases e3 : y + dy = 0
  · refine .inr (.inr (.inl ⟨e3, .inr (.inr (.inl e3)), by omega, by omega, by omega, ?_⟩))
    have he : Knot.Edge ⟨W, H, B⟩ (x + dx) (y + dy) := .inr (.inr (.inl e3))
    simp only [stepW, brk, if_pos he]
    rw [if_neg (by omega), if_pos (.inl e3)]
  by_cases e4 : y + dy = 2 * H
  · refine .inr (.inr (.inr (.inl ⟨e4, .inr (.inr (.inr e4)), by omega, by omega, by omega, ?_⟩)))
    have he : Knot.Edge ⟨W, H, B⟩ (x + dx) (y + dy) := .inr (.inr (.inr e4))
    simp only [stepW, brk, if_pos he]
    rw [if_neg (by omega), if_pos (.inr (.inl e4))]
  have he : ¬ Knot.Edge ⟨W, H, B⟩ (x + dx) (y + dy) := by
    rintro (h | h | h | h) <;> (try simp only [] at h) <;> omega
  obtain ⟨n1, n2, _, _⟩ := num_pt (H := H) w1 w8 (y := y + dy) (x := x + dx) (by omega) (by omega) (by omega) (by omega) b5
  refine .inr (.inr (.inr (.inr ⟨he, ⟨e1, e2, e3, e4⟩, ⟨by omega, by omega, by omega, by omega, b5⟩, ⟨n1, by omega⟩, ?_⟩)))
  have hk2 : brk ⟨W, H, B⟩ (x + dx) (y + dy) = gI B (rowOf W (y + dy) + (x + dx - 1) / 2) := by
    simp only [brk, if_neg he, num, gI]
  have hrng : 0 ≤ gI B (rowOf W (y + dy) + (x + dx - 1) / 2) ∧ gI B (rowOf W (y + dy) + (x + dx - 1) / 2) ≤ 2 := by
    have hl : (rowOf W (y + dy) + (x + dx - 1) / 2).toNat < B.length := by omega
    have : gI B (rowOf W (y + dy) + (x + dx - 1) / 2) = B[(rowOf W (y + dy) + (x + dx - 1) / 2).toNat] := by simp [gI, List.getD, hl]
    rw [this]
    exact hkind _ (List.getElem_mem _)
  simp only [stepW, hk2]
  generalize gI B (rowOf W (y + dy) + (x + dx - 1) / 2) = k at *
  rcases (show k = 0 ∨ k = 1 ∨ k = 2 by omega) with rfl | rfl | rfl
  · refine .inl ⟨rfl, ?_⟩
    rw [if_neg (by omega), if_neg (by omega)]
  · refine .inr (.inl ⟨rfl, ?_⟩)
    rw [if_pos (by omega), if_neg (by omega)]
  · refine .inr (.inr ⟨rfl, ?_⟩)
    rw [if_neg (by omega), if_pos (by omega)]
end Go.Proofs.Ytnldahadldolpaa
