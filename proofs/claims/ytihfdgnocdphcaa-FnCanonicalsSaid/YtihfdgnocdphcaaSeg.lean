/-
  The walker along a segment.
-/
import Derived.Test.YtihfdgnocdphcaaEdge
namespace Go.Proofs.Ytihfdgnocdphcaa
open Go.RowKit Knot

theorem ret_wk {a b c d a' b' c' d' : Int} (h1 : a = a') (h2 : b = b') (h3 : c = c') (h4 : d = d') : Ending.returned (.agg #[.int .i64 a, .int .i64 b, .int .i64 c, .int .i64 d]) = .returned (.agg #[.int .i64 a', .int .i64 b', .int .i64 c', .int .i64 d']) := by rw [h1, h2, h3, h4]
theorem seg_div {W H k : Int} (hW : 1 ≤ W ∧ W ≤ 8) (hH : 1 ≤ H ∧ H ≤ 8) (k0 : 0 ≤ k) (k1 : k < 4 * W * H) : (0 ≤ k / (2 * H) ∧ k / (2 * H) < 2 * W) ∧ 0 ≤ k % (2 * H) ∧ k % (2 * H) < 2 * H := by
  obtain ⟨h1, h2⟩ := hH
  rcases eight_cases h1 h2 with rfl | rfl | rfl | rfl | rfl | rfl | rfl | rfl <;> omega
set_option maxHeartbeats 2000000 in
theorem walker_any {w : World} {W H k X Y dx dy : Int} {A : Option Addr} {n c : Nat} {B : List Int} (hW : 1 ≤ W ∧ W ≤ 8) (hH : 1 ≤ H ∧ H ≤ 8) (k0 : 0 ≤ k) (k1 : k < 4 * W * H) (hr : startI ⟨W, H, B⟩ k = ⟨X, Y, dx, dy⟩) :
    Calls Try.prog 142 #[.agg #[.int .i64 W, .int .i64 H, .slice A n c], .int .i64 k] w fun e w' => e = .returned (.agg #[.int .i64 X, .int .i64 Y, .int .i64 dx, .int .i64 dy]) ∧ Below w.heap.size w w' := by
  have bl := Joins.below_alloc2 w (.cells #[.int .i64 W, .int .i64 H, .slice A n c] 30) (.cells #[.int .i64 0, .int .i64 0, .int .i64 0, .int .i64 0] 134)
  have ba := (Box.new w 30 #[.int .i64 W, .int .i64 H, .slice A n c]).alloc (.cells #[.int .i64 0, .int .i64 0, .int .i64 0, .int .i64 0] 134)
  have br := Box.new (w.alloc (.cells #[.int .i64 W, .int .i64 H, .slice A n c] 30)) 134 #[.int .i64 0, .int .i64 0, .int .i64 0, .int .i64 0]
  rw [World.size_alloc] at br
  obtain ⟨⟨d0, d1⟩, m0, m1⟩ := seg_div hW hH k0 k1
  have hk := (mul4 hW hH).2
  obtain ⟨w1, w8⟩ := hW
  obtain ⟨h1, h8⟩ := hH
  have k2 : k ≤ 256 := by omega
  obtain ⟨q, hq⟩ : ∃ q, k / (2 * H) = q := ⟨_, rfl⟩
  obtain ⟨r, hrr⟩ : ∃ r, k % (2 * H) = r := ⟨_, rfl⟩
  unfold startI at hr
  simp only [] at hr
  rw [hq] at d0 d1 hr
  rw [hrr] at m0 m1 hr
  have hne : ¬ (2 * H = 0) := by omega
  clear hk k1
  by_cases ho : (q + r) % 2 = 1
  · rw [if_pos ho] at hr
    have t1 : ((q + r) % 2 == 1) = true := eqb_t ho
    injection hr with e1 e2 e3 e4
    subst e1 e2 e3 e4
    clear ho
    go_enter Try.func142, Try.ntmps142
    go_wp2
    generalize ((w.alloc (.cells #[.int .i64 W, .int .i64 H, .slice A n c] 30)).alloc (.cells #[.int .i64 0, .int .i64 0, .int .i64 0, .int .i64 0] 134)) = V at ba br bl ⊢
    have p0 := ba.cell 0
    have p1 := ba.cell 1
    have pn := ba.lt
    have x0 := br.cell 0
    have x1 := br.cell 1
    have x2 := br.cell 2
    have x3 := br.cell 3
    have y0 := br.free 0
    have y1 := br.free 1
    have y2 := br.free 2
    have y3 := br.free 3
    have xn := br.lt
    simp only [List.getElem?_toArray, List.getElem?_cons_zero, List.getElem?_cons_succ] at p0 p1 x0 x1 x2 x3
    clear ba br
    go_quiet (fail)
    go_wp2
    refine bodyPost_ret (v := .agg #[.int .i64 q, .int .i64 r, .int .i64 1, .int .i64 1]) (by simp [results, Try.results142, go_sem, x0, x1, x2, x3, y0, y1, y2, y3, xn]) rfl ⟨rfl, ?_⟩
    exact ((((bl.trans (below_drewN _ _ _)).setCell (p := ⟨w.heap.size + 1, 0, none⟩) (by simp) _).setCell (p := ⟨w.heap.size + 1, 1, none⟩) (by simp) _).setCell (p := ⟨w.heap.size + 1, 2, none⟩) (by simp) _).setCell (p := ⟨w.heap.size + 1, 3, none⟩) (by simp) _
  · rw [if_neg ho] at hr
    have t1 : ((q + r) % 2 == 1) = false := eqb_f ho
    injection hr with e1 e2 e3 e4
    subst e1 e2 e3 e4
    clear ho
    go_enter Try.func142, Try.ntmps142
    go_wp2
    generalize ((w.alloc (.cells #[.int .i64 W, .int .i64 H, .slice A n c] 30)).alloc (.cells #[.int .i64 0, .int .i64 0, .int .i64 0, .int .i64 0] 134)) = V at ba br bl ⊢
    have p0 := ba.cell 0
    have p1 := ba.cell 1
    have pn := ba.lt
    have x0 := br.cell 0
    have x1 := br.cell 1
    have x2 := br.cell 2
    have x3 := br.cell 3
    have y0 := br.free 0
    have y1 := br.free 1
    have y2 := br.free 2
    have y3 := br.free 3
    have xn := br.lt
    simp only [List.getElem?_toArray, List.getElem?_cons_zero, List.getElem?_cons_succ] at p0 p1 x0 x1 x2 x3
    clear ba br
    go_quiet (fail)
    go_wp2
    refine bodyPost_ret (v := .agg #[.int .i64 q, .int .i64 (r + 1), .int .i64 1, .int .i64 (-1)]) (by simp [results, Try.results142, go_sem, x0, x1, x2, x3, y0, y1, y2, y3, xn]) rfl ⟨rfl, ?_⟩
    exact ((((bl.trans (below_drewN _ _ _)).setCell (p := ⟨w.heap.size + 1, 0, none⟩) (by simp) _).setCell (p := ⟨w.heap.size + 1, 1, none⟩) (by simp) _).setCell (p := ⟨w.heap.size + 1, 2, none⟩) (by simp) _).setCell (p := ⟨w.heap.size + 1, 3, none⟩) (by simp) _
set_option maxHeartbeats 4000000 in
theorem l03Walker_any {w : World} {b : Nat} {W H k X Y dx dy : Int} {v : Value} {B : List Int} (ba : Box w b 30 #[.int .i64 W, .int .i64 H, v]) (hW : 1 ≤ W ∧ W ≤ 8) (hH : 1 ≤ H ∧ H ≤ 8) (k0 : 0 ≤ k) (k1 : k < 4 * W * H) (hr : startI ⟨W, H, B⟩ k = ⟨X, Y, dx, dy⟩) :
    Calls Try.prog 140 #[.pointer (some ⟨b, 0, none⟩), .int .i64 k] w fun e w' => e = .returned (.agg #[.int .i64 X, .int .i64 Y, .int .i64 dx, .int .i64 dy]) ∧ Below w.heap.size w w' := by
  have bl := Joins.below_alloc1 w (.cells #[.int .i64 0, .int .i64 0, .int .i64 0, .int .i64 0] 134)
  replace ba := ba.alloc (.cells #[.int .i64 0, .int .i64 0, .int .i64 0, .int .i64 0] 134)
  have br := Box.new w 134 #[.int .i64 0, .int .i64 0, .int .i64 0, .int .i64 0]
  obtain ⟨⟨d0, d1⟩, m0, m1⟩ := seg_div hW hH k0 k1
  have hk := (mul4 hW hH).2
  obtain ⟨w1, w8⟩ := hW
  obtain ⟨h1, h8⟩ := hH
  have k2 : k ≤ 256 := by omega
  obtain ⟨q, hq⟩ : ∃ q, k / (2 * H) = q := ⟨_, rfl⟩
  obtain ⟨r, hrr⟩ : ∃ r, k % (2 * H) = r := ⟨_, rfl⟩
  unfold startI at hr
  simp only [] at hr
  rw [hq] at d0 d1 hr
  rw [hrr] at m0 m1 hr
  have hne : ¬ (2 * H = 0) := by omega
  clear hk k1
  by_cases hq2 : q % 2 = 0
  · by_cases hr2 : r % 2 = 1
    · rw [if_pos (by omega)] at hr
      injection hr with e1 e2 e3 e4
      subst e1 e2 e3 e4
      have u1 : (q % 2 == 0) = true := eqb_t (by omega)
      have p0 := ba.cell 0
      have p1 := ba.cell 1
      have pn := ba.lt
      simp only [List.getElem?_toArray, List.getElem?_cons_zero, List.getElem?_cons_succ] at p0 p1
      clear ba br
      go_enter Try.func140, Try.ntmps140
      go_wp2
      refine bodyPost_ret (v := .agg #[.int .i64 q, .int .i64 (r / 2 * 2 + 1), .int .i64 1, .int .i64 1]) (by simp [results, Try.results140, go_sem]) rfl ⟨ret_wk rfl (by omega) rfl (by omega), ?_⟩
      exact Joins.below_alloc1 _ _
    · rw [if_neg (by omega)] at hr
      injection hr with e1 e2 e3 e4
      subst e1 e2 e3 e4
      have u1 : (q % 2 == 0) = true := eqb_t (by omega)
      have u3 : r % 2 = 0 := by omega
      have p0 := ba.cell 0
      have p1 := ba.cell 1
      have pn := ba.lt
      simp only [List.getElem?_toArray, List.getElem?_cons_zero, List.getElem?_cons_succ] at p0 p1
      clear ba br
      go_enter Try.func140, Try.ntmps140
      go_wp2
      refine bodyPost_ret (v := .agg #[.int .i64 q, .int .i64 (r / 2 * 2 + 1), .int .i64 1, .int .i64 (-1)]) (by simp [results, Try.results140, go_sem]) rfl ⟨ret_wk rfl (by omega) rfl (by omega), ?_⟩
      exact Joins.below_alloc1 _ _
  · by_cases hr2 : r % 2 = 1
    · rw [if_neg (by omega)] at hr
      injection hr with e1 e2 e3 e4
      subst e1 e2 e3 e4
      have u1 : (q % 2 == 0) = false := eqb_f (by omega)
      have u2 : (r % 2 == 1) = true := eqb_t (by omega)
      have p0 := ba.cell 0
      have p1 := ba.cell 1
      have pn := ba.lt
      simp only [List.getElem?_toArray, List.getElem?_cons_zero, List.getElem?_cons_succ] at p0 p1
      clear ba br
      go_enter Try.func140, Try.ntmps140
      go_wp2
      refine bodyPost_ret (v := .agg #[.int .i64 q, .int .i64 ((r + 1) / 2 * 2), .int .i64 1, .int .i64 (-1)]) (by simp [results, Try.results140, go_sem]) rfl ⟨ret_wk rfl (by omega) rfl (by omega), ?_⟩
      exact Joins.below_alloc2 _ _ _
    · rw [if_pos (by omega)] at hr
      injection hr with e1 e2 e3 e4
      subst e1 e2 e3 e4
      have u1 : (q % 2 == 0) = false := eqb_f (by omega)
      have u2 : (r % 2 == 1) = false := eqb_f (by omega)
      have u3 : r % 2 = 0 := by omega
      have p0 := ba.cell 0
      have p1 := ba.cell 1
      have pn := ba.lt
      simp only [List.getElem?_toArray, List.getElem?_cons_zero, List.getElem?_cons_succ] at p0 p1
      clear ba br
      go_enter Try.func140, Try.ntmps140
      go_wp2
      refine bodyPost_ret (v := .agg #[.int .i64 q, .int .i64 ((r + 1) / 2 * 2), .int .i64 1, .int .i64 1]) (by simp [results, Try.results140, go_sem]) rfl ⟨ret_wk rfl (by omega) rfl (by omega), ?_⟩
      exact Joins.below_alloc2 _ _ _
end Go.Proofs.Ytihfdgnocdphcaa
