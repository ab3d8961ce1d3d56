/-
  Walkers and points, copied and compared by the laws' helpers.
-/
import Derived.Test.YtihfdgnocdphcaaKind
namespace Go.Proofs.Ytihfdgnocdphcaa
open Go.RowKit Knot

set_option maxHeartbeats 1000000 in
theorem K_toPoint {w : World} {x y : Int} :
    Calls Try.prog 23 #[.agg #[.int .i64 x, .int .i64 y]] w fun e w' => e = .returned (.agg #[.int .i64 x, .int .i64 y]) ∧ Below w.heap.size w w' := by
  go_enter Try.func23, Try.ntmps23
  go_wp2
  refine bodyPost_ret (v := .agg #[.int .i64 x, .int .i64 y]) (by simp [results, Try.results23, go_sem]) rfl ⟨rfl, ?_⟩
  exact Joins.below_alloc3 _ _ _ _
set_option maxHeartbeats 1000000 in
theorem K_eqPoint {w : World} {x y x' y' : Int} {r : Bool} (hr : decide (x = x' ∧ y = y') = r) :
    Calls Try.prog 25 #[.agg #[.int .i64 x, .int .i64 y], .agg #[.int .i64 x', .int .i64 y']] w fun e w' => e = .returned (.bool r) ∧ Below w.heap.size w w' := by
  have bl := Joins.below_alloc2 w (.cells #[.int .i64 x, .int .i64 y] 36) (.cells #[.int .i64 x', .int .i64 y'] 36)
  by_cases e1 : x = x'
  · have t1 : (x != x') = false := by simp [e1]
    by_cases e2 : y = y'
    · have t2 : (y != y') = false := by simp [e2]
      have hrt : r = true := by rw [← hr]; exact decide_eq_true ⟨e1, e2⟩
      subst hrt
      clear e1 e2 hr
      go_enter Try.func25, Try.ntmps25
      go_wp2_with fail
      go_ret
      exact ⟨rfl, bl⟩
    · have t2 : (y != y') = true := by simp [e2]
      have hrf : r = false := by rw [← hr]; exact decide_eq_false fun h => e2 h.2
      subst hrf
      clear e1 e2 hr
      go_enter Try.func25, Try.ntmps25
      go_wp2_with fail
      go_ret
      exact ⟨rfl, bl⟩
  · have t1 : (x != x') = true := by simp [e1]
    have hrf : r = false := by rw [← hr]; exact decide_eq_false fun h => e1 h.1
    subst hrf
    clear e1 hr
    go_enter Try.func25, Try.ntmps25
    go_wp2_with fail
    go_ret
    exact ⟨rfl, bl⟩
end Go.Proofs.Ytihfdgnocdphcaa
