/-
  Symmetries as numbers: composing and inverting, by the program and by the reference.
-/
import Derived.Test.YtihfdgnocdphcaaBase
namespace Go.Proofs.Ytihfdgnocdphcaa
open Go.RowKit Knot

def symOk (n : Int) : Bool := inR n 0 7
theorem symOk_bd {n : Int} (h : symOk n = true) : 0 ≤ n ∧ n ≤ 7 := by
  unfold symOk inR at h
  simp at h
  exact h
theorem eight {n : Int} (h0 : 0 ≤ n) (h1 : n ≤ 7) : n = 0 ∨ n = 1 ∨ n = 2 ∨ n = 3 ∨ n = 4 ∨ n = 5 ∨ n = 6 ∨ n = 7 := by omega

/-- The bits 0 and 1 exchanged, if the other one exchanges X and Y. -/
def exch (a b : Int) : Int := if b < 4 then a else a / 4 * 4 + a % 2 * 2 + a / 2 % 2
def xorI (a b : Int) : Int := ((a.toNat ^^^ b.toNat : Nat) : Int)
def compI (a b : Int) : Int := xorI (exch a b) b

set_option maxHeartbeats 1600000 in
theorem exchanged_any (a b : Int) (a0 : 0 ≤ a) (a7 : a ≤ 7) (w : World) :
    Calls Try.prog 71 #[.int .i64 a, .int .i64 b] w fun e w' => e = .returned (.int .i64 (exch a b)) ∧ w = w' := by
  by_cases hb : b < 4
  · have he : exch a b = a := by simp [exch, hb]
    rw [he]
    clear he
    go_enter Try.func71, Try.ntmps71
    go_wp2
    go_ret
    exact ⟨rfl, rfl⟩
  · have he : exch a b = a / 4 * 4 + a % 2 * 2 + a / 2 % 2 := by simp [exch, hb]
    rw [he]
    clear he
    rcases eight a0 a7 with rfl | rfl | rfl | rfl | rfl | rfl | rfl | rfl
    all_goals
      go_enter Try.func71, Try.ntmps71
      go_wp2
      go_ret
      exact ⟨ret_int (by decide +kernel), rfl⟩
theorem xor_comp {a b : Int} (a0 : 0 ≤ a) (a7 : a ≤ 7) (b0 : 0 ≤ b) (b7 : b ≤ 7) : bits .xor .i64 (exch a b) b = compI a b := by
  rcases eight a0 a7 with rfl | rfl | rfl | rfl | rfl | rfl | rfl | rfl <;> rcases eight b0 b7 with rfl | rfl | rfl | rfl | rfl | rfl | rfl | rfl <;> decide +kernel
def csM (a b : Int) : Int × Int := if symOk a && symOk b then (compI a b, 0) else (0, 2)
set_option maxHeartbeats 400000 in
theorem validSym_any (n : Int) (c : Bool) (h : symOk n = c) (w : World) :
    Calls Try.prog 70 #[.int .i64 n] w fun e w' => e = .returned (.bool c) ∧ w = w' := by
  go_enter Try.func70, Try.ntmps70
  go_wp2_with (go_at_call 116; refine (inRange_any _ _ _ c h _).mono ?_; rintro e w' ⟨rfl, rfl⟩)
  go_ret
  exact ⟨rfl, rfl⟩
set_option maxHeartbeats 400000 in
theorem l06Sym_any (n : Int) (c : Bool) (h : symOk n = c) (w : World) :
    Calls Try.prog 68 #[.int .i64 n] w fun e w' => e = .returned (.bool c) ∧ w = w' := by
  go_enter Try.func68, Try.ntmps68
  go_wp2_with (go_at_call 115; refine (l00In_any _ _ _ c h _).mono ?_; rintro e w' ⟨rfl, rfl⟩)
  go_ret
  exact ⟨rfl, rfl⟩
set_option maxHeartbeats 400000 in
theorem ComposeSyms_any (a b : Int) (w : World) :
    Calls Try.prog 16 #[.int .i64 a, .int .i64 b] w fun e w' => e = .returned (.tuple #[.int .i64 (csM a b).1, .int .i64 (csM a b).2]) ∧ w = w' := by
  unfold csM
  cases ha : symOk a
  · go_enter Try.func16, Try.ntmps16
    go_wp2_with (go_at_call 70; refine (validSym_any _ _ ha _).mono ?_; rintro e w' ⟨rfl, rfl⟩)
    go_ret2
    exact ⟨rfl, rfl⟩
  · cases hb : symOk b
    · go_enter Try.func16, Try.ntmps16
      go_wp2_with (go_at_call 70; (first | with_reducible refine (validSym_any a _ ha _).mono ?_ | with_reducible refine (validSym_any b _ hb _).mono ?_); rintro e w' ⟨rfl, rfl⟩)
      go_ret2
      exact ⟨rfl, rfl⟩
    · have h1 := symOk_bd ha
      have h2 := symOk_bd hb
      go_enter Try.func16, Try.ntmps16
      go_wp2_with (first | (go_at_call 70; (first | with_reducible refine (validSym_any a _ ha _).mono ?_ | with_reducible refine (validSym_any b _ hb _).mono ?_); rintro e w' ⟨rfl, rfl⟩) | (go_at_call 71; refine (exchanged_any a b h1.1 h1.2 _).mono ?_; rintro e w' ⟨rfl, rfl⟩))
      go_ret2
      exact ⟨ret_pair (xor_comp h1.1 h1.2 h2.1 h2.2) rfl, rfl⟩
set_option maxHeartbeats 400000 in
theorem l06Compose_any (a b : Int) (a0 : 0 ≤ a) (a7 : a ≤ 7) (b0 : 0 ≤ b) (b7 : b ≤ 7) (w : World) :
    Calls Try.prog 69 #[.int .i64 a, .int .i64 b] w fun e w' => e = .returned (.int .i64 (compI a b)) ∧ w = w' := by
  by_cases hb : b < 4
  · have hz : (bits .and .i64 b 4 == 0) = true := by rcases eight b0 b7 with rfl | rfl | rfl | rfl | rfl | rfl | rfl | rfl <;> first | decide +kernel | omega
    go_enter Try.func69, Try.ntmps69
    go_wp2
    go_ret
    exact ⟨ret_int (by rcases eight a0 a7 with rfl | rfl | rfl | rfl | rfl | rfl | rfl | rfl <;> rcases eight b0 b7 with rfl | rfl | rfl | rfl | rfl | rfl | rfl | rfl <;> first | decide +kernel | omega), rfl⟩
  · have hz : (bits .and .i64 b 4 == 0) = false := by rcases eight b0 b7 with rfl | rfl | rfl | rfl | rfl | rfl | rfl | rfl <;> first | decide +kernel | omega
    go_enter Try.func69, Try.ntmps69
    go_wp2
    go_ret
    exact ⟨ret_int (by rcases eight a0 a7 with rfl | rfl | rfl | rfl | rfl | rfl | rfl | rfl <;> rcases eight b0 b7 with rfl | rfl | rfl | rfl | rfl | rfl | rfl | rfl <;> first | decide +kernel | omega), rfl⟩
set_option maxHeartbeats 400000 in
theorem sComposeSyms_any (a b : Int) (w : World) :
    Calls Try.prog 15 #[.int .i64 a, .int .i64 b] w fun e w' => e = .returned (.tuple #[.int .i64 (csM a b).1, .int .i64 (csM a b).2]) ∧ w = w' := by
  unfold csM
  cases ha : symOk a
  · go_enter Try.func15, Try.ntmps15
    go_wp2_with (go_at_call 68; refine (l06Sym_any _ _ ha _).mono ?_; rintro e w' ⟨rfl, rfl⟩)
    go_ret2
    exact ⟨rfl, rfl⟩
  · cases hb : symOk b
    · go_enter Try.func15, Try.ntmps15
      go_wp2_with (go_at_call 68; (first | with_reducible refine (l06Sym_any a _ ha _).mono ?_ | with_reducible refine (l06Sym_any b _ hb _).mono ?_); rintro e w' ⟨rfl, rfl⟩)
      go_ret2
      exact ⟨rfl, rfl⟩
    · have h1 := symOk_bd ha
      have h2 := symOk_bd hb
      go_enter Try.func15, Try.ntmps15
      go_wp2_with (first | (go_at_call 68; (first | with_reducible refine (l06Sym_any a _ ha _).mono ?_ | with_reducible refine (l06Sym_any b _ hb _).mono ?_); rintro e w' ⟨rfl, rfl⟩) | (go_at_call 69; refine (l06Compose_any a b h1.1 h1.2 h2.1 h2.2 _).mono ?_; rintro e w' ⟨rfl, rfl⟩))
      go_ret2
      exact ⟨rfl, rfl⟩
set_option maxHeartbeats 400000 in
theorem FnExactComposeSyms_walk (a b : Int) (w : World) (_wa : (Lit.int .i64 a).wf = true) (_wb : (Lit.int .i64 b).wf = true) :
    Calls Try.prog 3 #[.int .i64 a, .int .i64 b] w fun e w' => e = .returned (.bool true) ∧ Below w.heap.size w w' := by
  go_enter Try.func3, Try.ntmps3
  go_wp2_with (first | (go_at_call 15; refine (sComposeSyms_any a b _).mono ?_; rintro e w' ⟨rfl, rfl⟩) | (go_at_call 16; refine (ComposeSyms_any a b _).mono ?_; rintro e w' ⟨rfl, rfl⟩))
  go_ret
  exact ⟨rfl, Below.refl _ _⟩
end Go.Proofs.Ytihfdgnocdphcaa
