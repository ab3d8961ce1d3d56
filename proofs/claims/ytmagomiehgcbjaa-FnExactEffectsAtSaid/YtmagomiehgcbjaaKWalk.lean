/-
  Walkers and points, copied and compared by the laws' helpers.
-/
import Derived.Test.YtmagomiehgcbjaaKind
namespace Go.Proofs.Ytmagomiehgcbjaa
open Go.RowKit Knot

set_option maxHeartbeats 1000000 in
theorem K_toPoint {w : World} {x y : Int} :
    Calls Try.prog 16 #[.agg #[.int .i64 x, .int .i64 y]] w fun e w' => e = .returned (.agg #[.int .i64 x, .int .i64 y]) ∧ Below w.heap.size w w' := by
  go_enter Try.func16, Try.ntmps16
  go_wp2
  refine bodyPost_ret (v := .agg #[.int .i64 x, .int .i64 y]) (by simp [results, Try.results16, go_sem]) rfl ⟨rfl, ?_⟩
  exact Joins.below_alloc3 _ _ _ _
end Go.Proofs.Ytmagomiehgcbjaa
