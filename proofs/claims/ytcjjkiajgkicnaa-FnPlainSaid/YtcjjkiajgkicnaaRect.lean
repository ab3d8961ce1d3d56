/-
  The formulas for panels without breaks, by the program and by the reference.
-/
import Derived.Test.YtcjjkiajgkicnaaGcd
namespace Go.Proofs.Ytcjjkiajgkicnaa
open Go.RowKit Knot

def num6 (n : Int) : Bool := inR n 1 1000000
theorem num6_bd {n : Int} (h : num6 n = true) : 1 ≤ n ∧ n ≤ 1000000 := by
  unfold num6 inR at h
  simp at h
  exact h

set_option maxHeartbeats 400000 in
theorem validNumber_any (n : Int) (c : Bool) (h : num6 n = c) (w : World) :
    Calls Try.prog 51 #[.int .i64 n] w fun e w' => e = .returned (.bool c) ∧ w = w' := by
  go_enter Try.func51, Try.ntmps51
  go_wp2_with (go_at_call 55; refine (inRange_any _ _ _ c h _).mono ?_; rintro e w' ⟨rfl, rfl⟩)
  go_ret
  exact ⟨rfl, rfl⟩
set_option maxHeartbeats 400000 in
theorem l07Size_any (n : Int) (c : Bool) (h : num6 n = c) (w : World) :
    Calls Try.prog 49 #[.int .i64 n] w fun e w' => e = .returned (.bool c) ∧ w = w' := by
  go_enter Try.func49, Try.ntmps49
  go_wp2_with (go_at_call 64; refine (l00In_any _ _ _ c h _).mono ?_; rintro e w' ⟨rfl, rfl⟩)
  go_ret
  exact ⟨rfl, rfl⟩
def gdM (a b : Int) : Int × Int := if num6 a && num6 b then (gcdI a b, 0) else (0, 2)
set_option maxHeartbeats 400000 in
theorem GreatestDivisor_any (a b : Int) (w : World) :
    Calls Try.prog 16 #[.int .i64 a, .int .i64 b] w fun e w' => e = .returned (.tuple #[.int .i64 (gdM a b).1, .int .i64 (gdM a b).2]) ∧ ∃ n, w.drewN n = w' := by
  unfold gdM
  cases ha : num6 a
  · go_enter Try.func16, Try.ntmps16
    go_wp2_with (go_at_call 51; refine (validNumber_any _ _ ha _).mono ?_; rintro e w' ⟨rfl, rfl⟩)
    go_ret2
    exact ⟨rfl, 0, rfl⟩
  · cases hb : num6 b
    · go_enter Try.func16, Try.ntmps16
      go_wp2_with (go_at_call 51; (first | with_reducible refine (validNumber_any a _ ha _).mono ?_ | with_reducible refine (validNumber_any b _ hb _).mono ?_); rintro e w' ⟨rfl, rfl⟩)
      go_ret2
      exact ⟨rfl, 0, rfl⟩
    · have h1 := num6_bd ha
      have h2 := num6_bd hb
      go_enter Try.func16, Try.ntmps16
      go_wp2_with (first | (go_at_call 51; (first | with_reducible refine (validNumber_any a _ ha _).mono ?_ | with_reducible refine (validNumber_any b _ hb _).mono ?_); rintro e w' ⟨rfl, rfl⟩) | (go_at_call 52; refine (gcd_any a b (by omega) (by omega) (by omega) (by omega) _).mono ?_; rintro e w' ⟨rfl, n, rfl⟩))
      go_ret2
      exact ⟨rfl, _, rfl⟩
set_option maxHeartbeats 400000 in
theorem sGreatestDivisor_any (a b : Int) (w : World) :
    Calls Try.prog 15 #[.int .i64 a, .int .i64 b] w fun e w' => e = .returned (.tuple #[.int .i64 (gdM a b).1, .int .i64 (gdM a b).2]) ∧ w = w' := by
  unfold gdM
  cases ha : num6 a
  · go_enter Try.func15, Try.ntmps15
    go_wp2_with (go_at_call 49; refine (l07Size_any _ _ ha _).mono ?_; rintro e w' ⟨rfl, rfl⟩)
    go_ret2
    exact ⟨rfl, rfl⟩
  · cases hb : num6 b
    · go_enter Try.func15, Try.ntmps15
      go_wp2_with (go_at_call 49; (first | with_reducible refine (l07Size_any a _ ha _).mono ?_ | with_reducible refine (l07Size_any b _ hb _).mono ?_); rintro e w' ⟨rfl, rfl⟩)
      go_ret2
      exact ⟨rfl, rfl⟩
    · have h1 := num6_bd ha
      have h2 := num6_bd hb
      go_enter Try.func15, Try.ntmps15
      go_wp2_with (first | (go_at_call 49; (first | with_reducible refine (l07Size_any a _ ha _).mono ?_ | with_reducible refine (l07Size_any b _ hb _).mono ?_); rintro e w' ⟨rfl, rfl⟩) | (go_at_call 50; refine (l07Gcd_any a b (by omega) (by omega) (by omega) (by omega) _).mono ?_; rintro e w' ⟨rfl, rfl⟩))
      go_ret2
      exact ⟨rfl, rfl⟩
set_option maxHeartbeats 400000 in
theorem FnExactGreatestDivisor_walk (a b : Int) (w : World) (_wa : (Lit.int .i64 a).wf = true) (_wb : (Lit.int .i64 b).wf = true) :
    Calls Try.prog 3 #[.int .i64 a, .int .i64 b] w fun e w' => e = .returned (.bool true) ∧ Below w.heap.size w w' := by
  go_enter Try.func3, Try.ntmps3
  go_wp2_with (first | (go_at_call 15; refine (sGreatestDivisor_any a b _).mono ?_; rintro e w' ⟨rfl, rfl⟩) | (go_at_call 16; refine (GreatestDivisor_any a b _).mono ?_; rintro e w' ⟨rfl, n, rfl⟩))
  go_ret
  exact ⟨rfl, below_drewN _ _ _⟩
end Go.Proofs.Ytcjjkiajgkicnaa
