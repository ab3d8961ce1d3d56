/-
  Small numbers: ranges and the greatest common divisor, as the program and the reference compute them.
-/
import Derived.Test.YtcjjkiajgkicnaaProg
import Derived.WalkKit
import Derived.WalkSpells
import Derived.WalkLawsBesides
import Derived.Deep.QuietTactic
import Derived.BigQuiet
import Derived.Lib.Hide
namespace Go.Proofs.Ytcjjkiajgkicnaa
open Go.RowKit

theorem ret_int {k : IntKind} {a b : Int} (h : a = b) : Ending.returned (.int k a) = .returned (.int k b) := by rw [h]
theorem ret_bool {a b : Bool} (h : a = b) : Ending.returned (.bool a) = .returned (.bool b) := by rw [h]

def inR (x a b : Int) : Bool := decide (a ≤ x) && decide (x ≤ b)
theorem inR_t {x a b : Int} (h : a ≤ x ∧ x ≤ b) : inR x a b = true := by simp [inR, h.1, h.2]
theorem inR_f {x a b : Int} (h : ¬ (a ≤ x ∧ x ≤ b)) : inR x a b = false := by
  by_cases h1 : a ≤ x <;> by_cases h2 : x ≤ b <;> simp [inR, h1, h2] <;> omega

set_option maxHeartbeats 400000 in
theorem inRange_any (x a b : Int) (c : Bool) (h : inR x a b = c) (w : World) :
    Calls Try.prog 55 #[.int .i64 x, .int .i64 a, .int .i64 b] w fun e w' => e = .returned (.bool c) ∧ w = w' := by
  by_cases h1 : a ≤ x
  · by_cases h2 : x ≤ b
    · have hc : c = true := by rw [← h]; exact inR_t ⟨h1, h2⟩
      subst hc
      clear h
      go_enter Try.func55, Try.ntmps55
      go_wp2
      go_ret
      exact ⟨rfl, rfl⟩
    · have hc : c = false := by rw [← h]; exact inR_f (by omega)
      subst hc
      clear h
      go_enter Try.func55, Try.ntmps55
      go_wp2
      go_ret
      exact ⟨rfl, rfl⟩
  · have hc : c = false := by rw [← h]; exact inR_f (by omega)
    subst hc
    clear h
    go_enter Try.func55, Try.ntmps55
    go_wp2
    go_ret
    exact ⟨rfl, rfl⟩

end Go.Proofs.Ytcjjkiajgkicnaa
