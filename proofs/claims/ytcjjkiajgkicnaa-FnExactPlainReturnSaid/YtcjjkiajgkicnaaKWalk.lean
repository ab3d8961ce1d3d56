/-
  Walkers and points, copied and compared by the laws' helpers.
-/
import Derived.Test.YtcjjkiajgkicnaaKind
namespace Go.Proofs.Ytcjjkiajgkicnaa
open Go.RowKit Knot

set_option maxHeartbeats 1000000 in
theorem K_toPoint {w : World} {x y : Int} :
    Calls Try.prog 57 #[.agg #[.int .i64 x, .int .i64 y]] w fun e w' => e = .returned (.agg #[.int .i64 x, .int .i64 y]) ∧ Below w.heap.size w w' := by
  go_enter Try.func57, Try.ntmps57
  go_wp2
  refine bodyPost_ret (v := .agg #[.int .i64 x, .int .i64 y]) (by simp [results, Try.results57, go_sem]) rfl ⟨rfl, ?_⟩
  exact Joins.below_alloc3 _ _ _ _
set_option maxHeartbeats 1000000 in
theorem K_eqPoint {w : World} {x y x' y' : Int} {r : Bool} (hr : decide (x = x' ∧ y = y') = r) :
    Calls Try.prog 67 #[.agg #[.int .i64 x, .int .i64 y], .agg #[.int .i64 x', .int .i64 y']] w fun e w' => e = .returned (.bool r) ∧ Below w.heap.size w w' := by
  have bl := Joins.below_alloc2 w (.cells #[.int .i64 x, .int .i64 y] 36) (.cells #[.int .i64 x', .int .i64 y'] 36)
  by_cases e1 : x = x'
  · have t1 : (x != x') = false := by simp [e1]
    by_cases e2 : y = y'
    · have t2 : (y != y') = false := by simp [e2]
      have hrt : r = true := by rw [← hr]; exact decide_eq_true ⟨e1, e2⟩
      subst hrt
      clear e1 e2 hr
      go_enter Try.func67, Try.ntmps67
      go_wp2_with fail
      go_ret
      exact ⟨rfl, bl⟩
    · have t2 : (y != y') = true := by simp [e2]
      have hrf : r = false := by rw [← hr]; exact decide_eq_false fun h => e2 h.2
      subst hrf
      clear e1 e2 hr
      go_enter Try.func67, Try.ntmps67
      go_wp2_with fail
      go_ret
      exact ⟨rfl, bl⟩
  · have t1 : (x != x') = true := by simp [e1]
    have hrf : r = false := by rw [← hr]; exact decide_eq_false fun h => e1 h.1
    subst hrf
    clear e1 hr
    go_enter Try.func67, Try.ntmps67
    go_wp2_with fail
    go_ret
    exact ⟨rfl, bl⟩
set_option maxHeartbeats 1000000 in
theorem K_toWalker {w : World} {x y dx dy : Int} :
    Calls Try.prog 31 #[.agg #[.int .i64 x, .int .i64 y, .int .i64 dx, .int .i64 dy]] w fun e w' => e = .returned (.agg #[.int .i64 x, .int .i64 y, .int .i64 dx, .int .i64 dy]) ∧ Below w.heap.size w w' := by
  go_enter Try.func31, Try.ntmps31
  go_wp2_with fail
  refine (K_toPoint (x := x) (y := y)).mono ?_
  rintro e w1 ⟨rfl, hb⟩
  obtain ⟨hc, hf⟩ := bcell hb
  have B1 : Below w.heap.size w w1 := bnext (Joins.below_alloc3 _ _ _ _) hb
  have n2 : w.heap.size + 1 + 1 < w1.heap.size := by have := hb.size; simp at this; omega
  have n1 : w.heap.size + 1 < w1.heap.size := by omega
  have n0 : w.heap.size < w1.heap.size := by omega
  go_wp2_with fail
  refine bodyPost_ret (v := .agg #[.int .i64 x, .int .i64 y, .int .i64 dx, .int .i64 dy]) (by simp [results, Try.results31, go_sem, hc, hf, n0, n1, n2]) rfl ⟨rfl, ?_⟩
  refine (((((((B1.setCell ?_ _).setCell ?_ _).setCell ?_ _).setCell ?_ _).setCell ?_ _).setCell ?_ _).setCell ?_ _).setCell ?_ _ <;> (show _ ≤ _; simp; try omega)
set_option maxHeartbeats 2000000 in
theorem K_eqWalker {w : World} {x y dx dy x' y' dx' dy' : Int} {r : Bool} (hr : decide (x = x' ∧ y = y' ∧ dx = dx' ∧ dy = dy') = r) :
    Calls Try.prog 40 #[.agg #[.int .i64 x, .int .i64 y, .int .i64 dx, .int .i64 dy], .agg #[.int .i64 x', .int .i64 y', .int .i64 dx', .int .i64 dy']] w fun e w' => e = .returned (.bool r) ∧ Below w.heap.size w w' := by
  have bl := Joins.below_alloc2 w (.cells #[.int .i64 x, .int .i64 y, .int .i64 dx, .int .i64 dy] 38) (.cells #[.int .i64 x', .int .i64 y', .int .i64 dx', .int .i64 dy'] 38)
  have ba := (Box.new w 38 #[.int .i64 x, .int .i64 y, .int .i64 dx, .int .i64 dy]).alloc (.cells #[.int .i64 x', .int .i64 y', .int .i64 dx', .int .i64 dy'] 38)
  have bb := Box.new (w.alloc (.cells #[.int .i64 x, .int .i64 y, .int .i64 dx, .int .i64 dy] 38)) 38 #[.int .i64 x', .int .i64 y', .int .i64 dx', .int .i64 dy']
  rw [World.size_alloc] at bb
  by_cases e0 : x = x' ∧ y = y'
  · have E0 := Lib.hid (decide_eq_true e0)
    by_cases e1 : dx = dx'
    · have t1 : (dx != dx') = false := by simp [e1]
      by_cases e2 : dy = dy'
      · have t2 : (dy != dy') = false := by simp [e2]
        have hrt : r = true := by rw [← hr]; exact decide_eq_true ⟨e0.1, e0.2, e1, e2⟩
        subst hrt
        clear e0 e1 e2 hr
        go_enter Try.func40, Try.ntmps40
        go_wp2_with fail
        refine (K_eqPoint E0.out).mono ?_
        rintro e w1 ⟨rfl, hb⟩
        replace ba := ba.below hb
        replace bb := bb.below hb
        have a2 := ba.cell 2
        have a3 := ba.cell 3
        have b2 := bb.cell 2
        have b3 := bb.cell 3
        have an := ba.lt
        have bn := bb.lt
        go_wp2_with fail
        go_ret
        exact ⟨rfl, bnext bl hb⟩
      · have t2 : (dy != dy') = true := by simp [e2]
        have hrf : r = false := by rw [← hr]; exact decide_eq_false fun h => e2 h.2.2.2
        subst hrf
        clear e0 e1 e2 hr
        go_enter Try.func40, Try.ntmps40
        go_wp2_with fail
        refine (K_eqPoint E0.out).mono ?_
        rintro e w1 ⟨rfl, hb⟩
        replace ba := ba.below hb
        replace bb := bb.below hb
        have a2 := ba.cell 2
        have a3 := ba.cell 3
        have b2 := bb.cell 2
        have b3 := bb.cell 3
        have an := ba.lt
        have bn := bb.lt
        go_wp2_with fail
        go_ret
        exact ⟨rfl, bnext bl hb⟩
    · have t1 : (dx != dx') = true := by simp [e1]
      have hrf : r = false := by rw [← hr]; exact decide_eq_false fun h => e1 h.2.2.1
      subst hrf
      clear e0 e1 hr
      go_enter Try.func40, Try.ntmps40
      go_wp2_with fail
      refine (K_eqPoint E0.out).mono ?_
      rintro e w1 ⟨rfl, hb⟩
      replace ba := ba.below hb
      replace bb := bb.below hb
      have a2 := ba.cell 2
      have a3 := ba.cell 3
      have b2 := bb.cell 2
      have b3 := bb.cell 3
      have an := ba.lt
      have bn := bb.lt
      go_wp2_with fail
      go_ret
      exact ⟨rfl, bnext bl hb⟩
  · have E0 := Lib.hid (decide_eq_false e0)
    have hrf : r = false := by rw [← hr]; exact decide_eq_false fun h => e0 ⟨h.1, h.2.1⟩
    subst hrf
    clear e0 hr
    go_enter Try.func40, Try.ntmps40
    go_wp2_with fail
    refine (K_eqPoint E0.out).mono ?_
    rintro e w1 ⟨rfl, hb⟩
    go_wp2_with fail
    go_ret
    exact ⟨rfl, bnext bl hb⟩
end Go.Proofs.Ytcjjkiajgkicnaa
