/-
  Points of panels and walkers in them, as the program and the reference test them.
-/
import Derived.Test.YtihfdgnocdphcaaVal
import Derived.Deep.RegionHeld3
namespace Go.Proofs.Ytihfdgnocdphcaa
open Go.RowKit Knot

set_option maxHeartbeats 2000000 in
theorem isPoint_any {w : World} {W H x y : Int} {A : Option Addr} {n c : Nat} {B : List Int} {r : Bool} (hW : 0 ≤ W ∧ W ≤ 1000000) (hH : 0 ≤ H ∧ H ≤ 1000000) (hr : r = true ↔ Has ⟨W, H, B⟩ x y) :
    Calls Try.prog 81 #[.agg #[.int .i64 W, .int .i64 H, .slice A n c], .agg #[.int .i64 x, .int .i64 y]] w fun e w' => e = .returned (.bool r) ∧ Below w.heap.size w w' := by
  have bl := Joins.below_alloc2 w (.cells #[.int .i64 W, .int .i64 H, .slice A n c] 30) (.cells #[.int .i64 x, .int .i64 y] 36)
  have ba := (Box.new w 30 #[.int .i64 W, .int .i64 H, .slice A n c]).alloc (.cells #[.int .i64 x, .int .i64 y] 36)
  have bb := Box.new (w.alloc (.cells #[.int .i64 W, .int .i64 H, .slice A n c] 30)) 36 #[.int .i64 x, .int .i64 y]
  rw [World.size_alloc] at bb
  have q0 := ba.cell 0
  have q1 := ba.cell 1
  have q2 := bb.cell 0
  have q3 := bb.cell 1
  have n0 := ba.lt
  have n1 := bb.lt
  obtain ⟨w0, w6⟩ := hW
  obtain ⟨h0, h6⟩ := hH
  clear ba bb
  unfold Has at hr
  simp only [] at hr
  by_cases hx : 0 ≤ x ∧ x ≤ 2 * W
  rotate_left
  · have hcf := bool_false hr (fun h => hx ⟨h.1, h.2.1⟩)
    subst hcf
    have HX := Lib.hid (inR_f hx)
    clear hr hx
    go_enter Try.func81, Try.ntmps81
    go_wp2_with (go_at_call 116; with_reducible refine (inRange_any _ _ _ _ HX.out _).mono ?_; rintro e w' ⟨rfl, rfl⟩)
    go_ret
    exact ⟨rfl, bl⟩
  have HX := Lib.hid (inR_t hx)
  by_cases hy : 0 ≤ y ∧ y ≤ 2 * H
  rotate_left
  · have hcf := bool_false hr (fun h => hy ⟨h.2.2.1, h.2.2.2.1⟩)
    subst hcf
    have HY := Lib.hid (inR_f hy)
    clear hr hx hy
    go_enter Try.func81, Try.ntmps81
    go_wp2_with (go_at_call 116; first | (with_reducible refine (inRange_any x _ _ _ HX.out _).mono ?_; rintro e w' ⟨rfl, rfl⟩) | (with_reducible refine (inRange_any y _ _ _ HY.out _).mono ?_; rintro e w' ⟨rfl, rfl⟩))
    go_ret
    exact ⟨rfl, bl⟩
  have HY := Lib.hid (inR_t hy)
  obtain ⟨x0, x1⟩ := hx
  obtain ⟨y0, y1⟩ := hy
  have s0 : 0 ≤ x + y := by omega
  by_cases ho : (x + y) % 2 = 1
  · have hct := bool_true hr ⟨x0, x1, y0, y1, ho⟩
    subst hct
    have t1 : ((x + y) % 2 == 1) = true := by simp [ho]
    clear hr ho
    go_enter Try.func81, Try.ntmps81
    go_wp2_with (go_at_call 116; first | (with_reducible refine (inRange_any x _ _ _ HX.out _).mono ?_; rintro e w' ⟨rfl, rfl⟩) | (with_reducible refine (inRange_any y _ _ _ HY.out _).mono ?_; rintro e w' ⟨rfl, rfl⟩))
    go_ret
    exact ⟨rfl, bl⟩
  · have hcf := bool_false hr (fun h => ho h.2.2.2.2)
    subst hcf
    have t1 : ((x + y) % 2 == 1) = false := by simp [ho]
    clear hr ho
    go_enter Try.func81, Try.ntmps81
    go_wp2_with (go_at_call 116; first | (with_reducible refine (inRange_any x _ _ _ HX.out _).mono ?_; rintro e w' ⟨rfl, rfl⟩) | (with_reducible refine (inRange_any y _ _ _ HY.out _).mono ?_; rintro e w' ⟨rfl, rfl⟩))
    go_ret
    exact ⟨rfl, bl⟩
set_option maxHeartbeats 2000000 in
theorem l02Has_any {w : World} {b : Nat} {W H x y : Int} {v : Value} {B : List Int} {r : Bool} (ba : Box w b 30 #[.int .i64 W, .int .i64 H, v]) (hW : 0 ≤ W ∧ W ≤ 1000000) (hH : 0 ≤ H ∧ H ≤ 1000000) (hr : r = true ↔ Has ⟨W, H, B⟩ x y) :
    Calls Try.prog 78 #[.pointer (some ⟨b, 0, none⟩), .agg #[.int .i64 x, .int .i64 y]] w fun e w' => e = .returned (.bool r) ∧ Below w.heap.size w w' := by
  have bl := Joins.below_alloc1 w (.cells #[.int .i64 x, .int .i64 y] 36)
  replace ba := ba.alloc (.cells #[.int .i64 x, .int .i64 y] 36)
  have bb := Box.new w 36 #[.int .i64 x, .int .i64 y]
  have q0 := ba.cell 0
  have q1 := ba.cell 1
  have q2 := bb.cell 0
  have q3 := bb.cell 1
  have n0 := ba.lt
  have n1 := bb.lt
  obtain ⟨w0, w6⟩ := hW
  obtain ⟨h0, h6⟩ := hH
  clear ba bb
  simp only [List.getElem?_toArray, List.getElem?_cons_zero, List.getElem?_cons_succ] at q0 q1 q2 q3
  unfold Has at hr
  simp only [] at hr
  by_cases hx : 0 ≤ x ∧ x ≤ 2 * W
  rotate_left
  · have hcf := bool_false hr (fun h => hx ⟨h.1, h.2.1⟩)
    subst hcf
    have HX := Lib.hid (inR_f hx)
    clear hr hx
    go_enter Try.func78, Try.ntmps78
    go_wp2
    go_quiet ((go_at_call 115; with_reducible exact qsame (l00In_any _ _ _ _ HX.out _)))
    go_wp2
    go_ret
    exact ⟨rfl, bl.trans (below_drewN _ _ _)⟩
  have HX := Lib.hid (inR_t hx)
  by_cases hy : 0 ≤ y ∧ y ≤ 2 * H
  rotate_left
  · have hcf := bool_false hr (fun h => hy ⟨h.2.2.1, h.2.2.2.1⟩)
    subst hcf
    have HY := Lib.hid (inR_f hy)
    clear hr hx hy
    go_enter Try.func78, Try.ntmps78
    go_wp2
    go_quiet ((go_at_call 115; first | with_reducible exact qsame (l00In_any x _ _ _ HX.out _) | with_reducible exact qsame (l00In_any y _ _ _ HY.out _)))
    go_wp2
    go_ret
    exact ⟨rfl, bl.trans (below_drewN _ _ _)⟩
  have HY := Lib.hid (inR_t hy)
  obtain ⟨x0, x1⟩ := hx
  obtain ⟨y0, y1⟩ := hy
  have s0 : 0 ≤ x + y := by omega
  by_cases ho : (x + y) % 2 = 1
  · have hct := bool_true hr ⟨x0, x1, y0, y1, ho⟩
    subst hct
    have t1 : ((x + y) % 2 == 1) = true := by simp [ho]
    clear hr ho
    go_enter Try.func78, Try.ntmps78
    go_wp2
    go_quiet ((go_at_call 115; first | with_reducible exact qsame (l00In_any x _ _ _ HX.out _) | with_reducible exact qsame (l00In_any y _ _ _ HY.out _)))
    go_wp2
    go_ret
    exact ⟨rfl, bl.trans (below_drewN _ _ _)⟩
  · have hcf := bool_false hr (fun h => ho h.2.2.2.2)
    subst hcf
    have t1 : ((x + y) % 2 == 1) = false := by simp [ho]
    clear hr ho
    go_enter Try.func78, Try.ntmps78
    go_wp2
    go_quiet ((go_at_call 115; first | with_reducible exact qsame (l00In_any x _ _ _ HX.out _) | with_reducible exact qsame (l00In_any y _ _ _ HY.out _)))
    go_wp2
    go_ret
    exact ⟨rfl, bl.trans (below_drewN _ _ _)⟩

theorem sgn_cases {d : Int} : (d = 1 ∨ d = -1) ∨ (d ≠ 1 ∧ d ≠ -1) := by omega

set_option maxHeartbeats 1000000 in
theorem next_any {w : World} {x y dx dy : Int} (h : (0 ≤ x ∧ x ≤ 2000000) ∧ (0 ≤ y ∧ y ≤ 2000000) ∧ (dx = 1 ∨ dx = -1) ∧ (dy = 1 ∨ dy = -1)) :
    Calls Try.prog 157 #[.agg #[.int .i64 x, .int .i64 y, .int .i64 dx, .int .i64 dy]] w fun e w' => e = .returned (.agg #[.int .i64 (x + dx), .int .i64 (y + dy)]) ∧ Below w.heap.size w w' := by
  have bl := Joins.below_alloc1 w (.cells #[.int .i64 x, .int .i64 y, .int .i64 dx, .int .i64 dy] 134)
  have ba := Box.new w 134 #[.int .i64 x, .int .i64 y, .int .i64 dx, .int .i64 dy]
  have q0 := ba.cell 0
  have q1 := ba.cell 1
  have q2 := ba.cell 2
  have q3 := ba.cell 3
  have n0 := ba.lt
  clear ba
  obtain ⟨⟨x0, x1⟩, ⟨y0, y1⟩, hdx, hdy⟩ := h
  have d0 : -1 ≤ dx ∧ dx ≤ 1 := by omega
  have d1 : -1 ≤ dy ∧ dy ≤ 1 := by omega
  obtain ⟨d0, d0'⟩ := d0
  obtain ⟨d1, d1'⟩ := d1
  clear hdx hdy
  go_enter Try.func157, Try.ntmps157
  go_wp2
  refine bodyPost_ret (v := .agg #[.int .i64 (x + dx), .int .i64 (y + dy)]) (by simp [results, Try.results157, go_sem]) rfl ⟨rfl, ?_⟩
  exact bl.trans ((Joins.below_alloc1 _ _).mono (by simp))
set_option maxHeartbeats 1000000 in
theorem l03Next_any {w : World} {x y dx dy : Int} (h : (0 ≤ x ∧ x ≤ 2000000) ∧ (0 ≤ y ∧ y ≤ 2000000) ∧ (dx = 1 ∨ dx = -1) ∧ (dy = 1 ∨ dy = -1)) :
    Calls Try.prog 164 #[.agg #[.int .i64 x, .int .i64 y, .int .i64 dx, .int .i64 dy]] w fun e w' => e = .returned (.agg #[.int .i64 (x + dx), .int .i64 (y + dy)]) ∧ Below w.heap.size w w' := by
  have bl := Joins.below_alloc1 w (.cells #[.int .i64 x, .int .i64 y, .int .i64 dx, .int .i64 dy] 134)
  have ba := Box.new w 134 #[.int .i64 x, .int .i64 y, .int .i64 dx, .int .i64 dy]
  have q0 := ba.cell 0
  have q1 := ba.cell 1
  have q2 := ba.cell 2
  have q3 := ba.cell 3
  have n0 := ba.lt
  clear ba
  obtain ⟨⟨x0, x1⟩, ⟨y0, y1⟩, hdx, hdy⟩ := h
  have d0 : -1 ≤ dx ∧ dx ≤ 1 := by omega
  have d1 : -1 ≤ dy ∧ dy ≤ 1 := by omega
  obtain ⟨d0, d0'⟩ := d0
  obtain ⟨d1, d1'⟩ := d1
  clear hdx hdy
  go_enter Try.func164, Try.ntmps164
  go_wp2
  refine bodyPost_ret (v := .agg #[.int .i64 (x + dx), .int .i64 (y + dy)]) (by simp [results, Try.results164, go_sem]) rfl ⟨rfl, ?_⟩
  exact bl.trans ((Joins.below_alloc1 _ _).mono (by simp))

/-- A walker that stands at a point of the panel and goes to one. -/
def OkWk (W H x y dx dy : Int) : Prop := (dx = 1 ∨ dx = -1) ∧ (dy = 1 ∨ dy = -1) ∧ Has ⟨W, H, []⟩ x y ∧ Has ⟨W, H, []⟩ (x + dx) (y + dy)

end Go.Proofs.Ytihfdgnocdphcaa
