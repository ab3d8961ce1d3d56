/-
  The walker along a segment.
-/
import Derived.Test.YtnldahadldolpaaEdge
namespace Go.Proofs.Ytnldahadldolpaa
open Go.RowKit Knot

theorem ret_wk {a b c d a' b' c' d' : Int} (h1 : a = a') (h2 : b = b') (h3 : c = c') (h4 : d = d') : Ending.returned (.agg #[.int .i64 a, .int .i64 b, .int .i64 c, .int .i64 d]) = .returned (.agg #[.int .i64 a', .int .i64 b', .int .i64 c', .int .i64 d']) := by rw [h1, h2, h3, h4]
theorem seg_div {W H k : Int} (hW : 1 ≤ W ∧ W ≤ 8) (hH : 1 ≤ H ∧ H ≤ 8) (k0 : 0 ≤ k) (k1 : k < 4 * W * H) : (0 ≤ k / (2 * H) ∧ k / (2 * H) < 2 * W) ∧ 0 ≤ k % (2 * H) ∧ k % (2 * H) < 2 * H := by
  obtain ⟨h1, h2⟩ := hH
  rcases eight_cases h1 h2 with rfl | rfl | rfl | rfl | rfl | rfl | rfl | rfl <;> omega
set_option maxHeartbeats 4000000 in
theorem l03Walker_any {w : World} {b : Nat} {W H k X Y dx dy : Int} {v : Value} {B : List Int} (ba : Box w b 41 #[.int .i64 W, .int .i64 H, v]) (hW : 1 ≤ W ∧ W ≤ 8) (hH : 1 ≤ H ∧ H ≤ 8) (k0 : 0 ≤ k) (k1 : k < 4 * W * H) (hr : startI ⟨W, H, B⟩ k = ⟨X, Y, dx, dy⟩) :
    Calls Try.prog 106 #[.pointer (some ⟨b, 0, none⟩), .int .i64 k] w fun e w' => e = .returned (.agg #[.int .i64 X, .int .i64 Y, .int .i64 dx, .int .i64 dy]) ∧ Below w.heap.size w w' := by
  have bl := Joins.below_alloc1 w (.cells #[.int .i64 0, .int .i64 0, .int .i64 0, .int .i64 0] 119)
  replace ba := ba.alloc (.cells #[.int .i64 0, .int .i64 0, .int .i64 0, .int .i64 0] 119)
  have br := Box.new w 119 #[.int .i64 0, .int .i64 0, .int .i64 0, .int .i64 0]
  obtain ⟨⟨d0, d1⟩, m0, m1⟩ := seg_div hW hH k0 k1
  have hk := (mul4 hW hH).2
  obtain ⟨w1, w8⟩ := hW
  obtain ⟨h1, h8⟩ := hH
  have k2 : k ≤ 256 := by omega
  obtain ⟨q, hq⟩ : ∃ q, k / (2 * H) = q := ⟨_, rfl⟩
  obtain ⟨r, hrr⟩ : ∃ r, k % (2 * H) = r := ⟨_, rfl⟩
  unfold startI at hr
  simp only [] at hr
  rw [hq] at d0 d1 hr
  rw [hrr] at m0 m1 hr
  have hne : ¬ (2 * H = 0) := by omega
  clear hk k1
  by_cases hq2 : q % 2 = 0
  · by_cases hr2 : r % 2 = 1
    · rw [if_pos (by omega)] at hr
      injection hr with e1 e2 e3 e4
      subst e1 e2 e3 e4
      have u1 : (q % 2 == 0) = true := eqb_t (by omega)
      have p0 := ba.cell 0
      have p1 := ba.cell 1
      have pn := ba.lt
      simp only [List.getElem?_toArray, List.getElem?_cons_zero, List.getElem?_cons_succ] at p0 p1
      clear ba br
      go_enter Try.func106, Try.ntmps106
      go_wp2
      refine bodyPost_ret (v := .agg #[.int .i64 q, .int .i64 (r / 2 * 2 + 1), .int .i64 1, .int .i64 1]) (by simp [results, Try.results106, go_sem]) rfl ⟨ret_wk rfl (by omega) rfl (by omega), ?_⟩
      exact Joins.below_alloc1 _ _
    · rw [if_neg (by omega)] at hr
      injection hr with e1 e2 e3 e4
      subst e1 e2 e3 e4
      have u1 : (q % 2 == 0) = true := eqb_t (by omega)
      have u3 : r % 2 = 0 := by omega
      have p0 := ba.cell 0
      have p1 := ba.cell 1
      have pn := ba.lt
      simp only [List.getElem?_toArray, List.getElem?_cons_zero, List.getElem?_cons_succ] at p0 p1
      clear ba br
      go_enter Try.func106, Try.ntmps106
      go_wp2
      refine bodyPost_ret (v := .agg #[.int .i64 q, .int .i64 (r / 2 * 2 + 1), .int .i64 1, .int .i64 (-1)]) (by simp [results, Try.results106, go_sem]) rfl ⟨ret_wk rfl (by omega) rfl (by omega), ?_⟩
      exact Joins.below_alloc1 _ _
  · by_cases hr2 : r % 2 = 1
    · rw [if_neg (by omega)] at hr
      injection hr with e1 e2 e3 e4
      subst e1 e2 e3 e4
      have u1 : (q % 2 == 0) = false := eqb_f (by omega)
      have u2 : (r % 2 == 1) = true := eqb_t (by omega)
      have p0 := ba.cell 0
      have p1 := ba.cell 1
      have pn := ba.lt
      simp only [List.getElem?_toArray, List.getElem?_cons_zero, List.getElem?_cons_succ] at p0 p1
      clear ba br
      go_enter Try.func106, Try.ntmps106
      go_wp2
      refine bodyPost_ret (v := .agg #[.int .i64 q, .int .i64 ((r + 1) / 2 * 2), .int .i64 1, .int .i64 (-1)]) (by simp [results, Try.results106, go_sem]) rfl ⟨ret_wk rfl (by omega) rfl (by omega), ?_⟩
      exact Joins.below_alloc2 _ _ _
    · rw [if_pos (by omega)] at hr
      injection hr with e1 e2 e3 e4
      subst e1 e2 e3 e4
      have u1 : (q % 2 == 0) = false := eqb_f (by omega)
      have u2 : (r % 2 == 1) = false := eqb_f (by omega)
      have u3 : r % 2 = 0 := by omega
      have p0 := ba.cell 0
      have p1 := ba.cell 1
      have pn := ba.lt
      simp only [List.getElem?_toArray, List.getElem?_cons_zero, List.getElem?_cons_succ] at p0 p1
      clear ba br
      go_enter Try.func106, Try.ntmps106
      go_wp2
      refine bodyPost_ret (v := .agg #[.int .i64 q, .int .i64 ((r + 1) / 2 * 2), .int .i64 1, .int .i64 1]) (by simp [results, Try.results106, go_sem]) rfl ⟨ret_wk rfl (by omega) rfl (by omega), ?_⟩
      exact Joins.below_alloc2 _ _ _
end Go.Proofs.Ytnldahadldolpaa
