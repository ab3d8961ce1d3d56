/-
  The border; the number of segments.
-/
import Derived.Test.YtihfdgnocdphcaaNum
namespace Go.Proofs.Ytihfdgnocdphcaa
open Go.RowKit Knot

theorem eqb_t {a b : Int} (h : a = b) : (a == b) = true := by simp [h]
theorem eqb_f {a b : Int} (h : ¬ a = b) : (a == b) = false := by simp [h]
theorem mul4 {W H : Int} (hW : 1 ≤ W ∧ W ≤ 8) (hH : 1 ≤ H ∧ H ≤ 8) : 4 ≤ 4 * W * H ∧ 4 * W * H ≤ 256 := by
  obtain ⟨h1, h2⟩ := hH
  rcases eight_cases hW.1 hW.2 with rfl | rfl | rfl | rfl | rfl | rfl | rfl | rfl <;> omega
set_option maxHeartbeats 2000000 in
theorem segments_any {w : World} {W H : Int} {A : Option Addr} {n c : Nat} (hW : 1 ≤ W ∧ W ≤ 8) (hH : 1 ≤ H ∧ H ≤ 8) :
    Calls Try.prog 141 #[.agg #[.int .i64 W, .int .i64 H, .slice A n c]] w fun e w' => e = .returned (.int .i64 (4 * W * H)) ∧ Below w.heap.size w w' := by
  have bl := Joins.below_alloc1 w (.cells #[.int .i64 W, .int .i64 H, .slice A n c] 30)
  have ba := Box.new w 30 #[.int .i64 W, .int .i64 H, .slice A n c]
  have q0 := ba.cell 0
  have q1 := ba.cell 1
  have n0 := ba.lt
  have hm := mul4 hW hH
  obtain ⟨m1, m2⟩ := hm
  obtain ⟨w1, w8⟩ := hW
  obtain ⟨h1, h8⟩ := hH
  clear ba
  go_enter Try.func141, Try.ntmps141
  go_wp2
  go_ret
  exact ⟨rfl, bl⟩
set_option maxHeartbeats 4000000 in
theorem isBorder_any {w : World} {W H x y : Int} {A : Option Addr} {n c : Nat} {B : List Int} {r : Bool} (hW : 1 ≤ W ∧ W ≤ 8) (hH : 1 ≤ H ∧ H ≤ 8) (hr : r = true ↔ Knot.Edge ⟨W, H, B⟩ x y) :
    Calls Try.prog 158 #[.agg #[.int .i64 W, .int .i64 H, .slice A n c], .agg #[.int .i64 x, .int .i64 y]] w fun e w' => e = .returned (.bool r) ∧ Below w.heap.size w w' := by
  have bl := Joins.below_alloc2 w (.cells #[.int .i64 W, .int .i64 H, .slice A n c] 30) (.cells #[.int .i64 x, .int .i64 y] 36)
  have ba := (Box.new w 30 #[.int .i64 W, .int .i64 H, .slice A n c]).alloc (.cells #[.int .i64 x, .int .i64 y] 36)
  have bb := Box.new (w.alloc (.cells #[.int .i64 W, .int .i64 H, .slice A n c] 30)) 36 #[.int .i64 x, .int .i64 y]
  rw [World.size_alloc] at bb
  have q0 := ba.cell 0
  have q1 := ba.cell 1
  have p0 := bb.cell 0
  have p1 := bb.cell 1
  have n0 := ba.lt
  have n1 := bb.lt
  simp only [List.getElem?_toArray, List.getElem?_cons_zero, List.getElem?_cons_succ] at q0 q1 p0 p1
  obtain ⟨w1, w8⟩ := hW
  obtain ⟨h1, h8⟩ := hH
  clear ba bb
  unfold Knot.Edge at hr
  simp only [] at hr
  by_cases e0 : x = 0
  · have t0 := eqb_t e0
    have hc := bool_true hr (by omega)
    subst hc
    clear hr e0
    go_enter Try.func158, Try.ntmps158
    go_wp2
    go_ret
    exact ⟨rfl, bl⟩

  have t0 := eqb_f e0
  by_cases e1 : x = 2 * W
  · have t1 := eqb_t e1
    have hc := bool_true hr (by omega)
    subst hc
    clear hr e0 e1
    go_enter Try.func158, Try.ntmps158
    go_wp2
    go_ret
    exact ⟨rfl, bl⟩

  have t1 := eqb_f e1
  by_cases e2 : y = 0
  · have t2 := eqb_t e2
    have hc := bool_true hr (by omega)
    subst hc
    clear hr e0 e1 e2
    go_enter Try.func158, Try.ntmps158
    go_wp2
    go_ret
    exact ⟨rfl, bl⟩

  have t2 := eqb_f e2
  by_cases e3 : y = 2 * H
  · have t3 := eqb_t e3
    have hc := bool_true hr (by omega)
    subst hc
    clear hr e0 e1 e2 e3
    go_enter Try.func158, Try.ntmps158
    go_wp2
    go_ret
    exact ⟨rfl, bl⟩

  have t3 := eqb_f e3
  have hc := bool_false hr (by omega)
  subst hc
  clear hr e0 e1 e2 e3
  go_enter Try.func158, Try.ntmps158
  go_wp2
  go_ret
  exact ⟨rfl, bl⟩

set_option maxHeartbeats 4000000 in
theorem l02Edge_any {w : World} {b : Nat} {W H x y : Int} {v : Value} {B : List Int} {r : Bool} (ba : Box w b 30 #[.int .i64 W, .int .i64 H, v]) (hW : 1 ≤ W ∧ W ≤ 8) (hH : 1 ≤ H ∧ H ≤ 8) (hr : r = true ↔ Knot.Edge ⟨W, H, B⟩ x y) :
    Calls Try.prog 165 #[.pointer (some ⟨b, 0, none⟩), .agg #[.int .i64 x, .int .i64 y]] w fun e w' => e = .returned (.bool r) ∧ Below w.heap.size w w' := by
  have bl := Joins.below_alloc1 w (.cells #[.int .i64 x, .int .i64 y] 36)
  replace ba := ba.alloc (.cells #[.int .i64 x, .int .i64 y] 36)
  have bb := Box.new w 36 #[.int .i64 x, .int .i64 y]
  have q0 := ba.cell 0
  have q1 := ba.cell 1
  have p0 := bb.cell 0
  have p1 := bb.cell 1
  have n0 := ba.lt
  have n1 := bb.lt
  simp only [List.getElem?_toArray, List.getElem?_cons_zero, List.getElem?_cons_succ] at q0 q1 p0 p1
  obtain ⟨w1, w8⟩ := hW
  obtain ⟨h1, h8⟩ := hH
  clear ba bb
  unfold Knot.Edge at hr
  simp only [] at hr
  by_cases e0 : x = 0
  · have t0 := eqb_t e0
    have hc := bool_true hr (by omega)
    subst hc
    clear hr e0
    go_enter Try.func165, Try.ntmps165
    go_wp2
    go_quiet (fail)
    go_wp2
    go_ret
    exact ⟨rfl, bl.trans (below_drewN _ _ _)⟩

  have t0 := eqb_f e0
  by_cases e1 : y = 0
  · have t1 := eqb_t e1
    have hc := bool_true hr (by omega)
    subst hc
    clear hr e0 e1
    go_enter Try.func165, Try.ntmps165
    go_wp2
    go_quiet (fail)
    go_wp2
    go_ret
    exact ⟨rfl, bl.trans (below_drewN _ _ _)⟩

  have t1 := eqb_f e1
  by_cases e2 : x = 2 * W
  · have t2 := eqb_t e2
    have hc := bool_true hr (by omega)
    subst hc
    clear hr e0 e1 e2
    go_enter Try.func165, Try.ntmps165
    go_wp2
    go_quiet (fail)
    go_wp2
    go_ret
    exact ⟨rfl, bl.trans (below_drewN _ _ _)⟩

  have t2 := eqb_f e2
  by_cases e3 : y = 2 * H
  · have t3 := eqb_t e3
    have hc := bool_true hr (by omega)
    subst hc
    clear hr e0 e1 e2 e3
    go_enter Try.func165, Try.ntmps165
    go_wp2
    go_quiet (fail)
    go_wp2
    go_ret
    exact ⟨rfl, bl.trans (below_drewN _ _ _)⟩

  have t3 := eqb_f e3
  have hc := bool_false hr (by omega)
  subst hc
  clear hr e0 e1 e2 e3
  go_enter Try.func165, Try.ntmps165
  go_wp2
  go_quiet (fail)
  go_wp2
  go_ret
  exact ⟨rfl, bl.trans (below_drewN _ _ _)⟩

end Go.Proofs.Ytihfdgnocdphcaa
