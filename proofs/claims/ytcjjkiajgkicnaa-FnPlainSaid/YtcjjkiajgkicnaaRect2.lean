/-
  The least common multiple and the formulas that stand on it, by the program and by the reference.
-/
import Derived.Test.YtcjjkiajgkicnaaRect
namespace Go.Proofs.Ytcjjkiajgkicnaa
open Go.RowKit Knot

def lcmI (a b : Int) : Int := a / gcdI a b * b
theorem mul_bdr {x y m n : Int} (h0 : 0 ≤ x) (h1 : x ≤ m) (h2 : 0 ≤ y) (h3 : y ≤ n) : 0 ≤ x * y ∧ x * y ≤ m * n :=
  ⟨Int.mul_nonneg h0 h2, Int.mul_le_mul h1 h3 h2 (Int.le_trans h0 h1)⟩
theorem div_bd {x g m : Int} (h0 : 0 ≤ x) (h1 : x ≤ m) (hg : 1 ≤ g) : 0 ≤ x / g ∧ x / g ≤ m :=
  ⟨Int.ediv_nonneg h0 (by omega), Int.le_trans (Int.ediv_le_self g h0) h1⟩
theorem lcmI_bd {a b : Int} (ha : num6 a = true) (hb : num6 b = true) : 0 ≤ lcmI a b ∧ lcmI a b ≤ 1000000000000 := by
  have h1 := num6_bd ha
  have h2 := num6_bd hb
  have hg := gcdI_pos a b h1.1
  have h3 := div_bd (g := gcdI a b) (x := a) (m := 1000000) (by omega) h1.2 hg
  have h4 := mul_bdr h3.1 h3.2 (y := b) (n := 1000000) (by omega) h2.2
  unfold lcmI
  omega

def lmM (a b : Int) : Int × Int := if num6 a && num6 b then (lcmI a b, 0) else (0, 2)
def plM (a b : Int) : Int × Int := if num6 a && num6 b then (4 * lcmI a b, 0) else (0, 2)
def ptM (a b : Int) : Int × Int := if num6 a && num6 b then (2 * (a + b) / gcdI a b, 0) else (0, 2)
theorem lmM_bd (a b : Int) : 0 ≤ (lmM a b).1 ∧ (lmM a b).1 ≤ 1000000000000 := by
  unfold lmM
  cases ha : num6 a <;> cases hb : num6 b <;> simp
  exact lcmI_bd ha hb
theorem plM_eq (a b : Int) : plM a b = (4 * (lmM a b).1, (lmM a b).2) := by
  unfold plM lmM
  split <;> rfl

set_option maxHeartbeats 400000 in
theorem LeastMultiple_any (a b : Int) (w : World) :
    Calls Try.prog 18 #[.int .i64 a, .int .i64 b] w fun e w' => e = .returned (.tuple #[.int .i64 (lmM a b).1, .int .i64 (lmM a b).2]) ∧ ∃ n, w.drewN n = w' := by
  unfold lmM
  cases ha : num6 a
  · go_enter Try.func18, Try.ntmps18
    go_wp2_with (go_at_call 51; refine (validNumber_any _ _ ha _).mono ?_; rintro e w' ⟨rfl, rfl⟩)
    go_ret2
    exact ⟨rfl, 0, rfl⟩
  · cases hb : num6 b
    · go_enter Try.func18, Try.ntmps18
      go_wp2_with (go_at_call 51; (first | with_reducible refine (validNumber_any a _ ha _).mono ?_ | with_reducible refine (validNumber_any b _ hb _).mono ?_); rintro e w' ⟨rfl, rfl⟩)
      go_ret2
      exact ⟨rfl, 0, rfl⟩
    · have h1 := num6_bd ha
      have h2 := num6_bd hb
      have hg := gcdI_pos a b h1.1
      have h3 := div_bd (g := gcdI a b) (x := a) (m := 1000000) (by omega) h1.2 hg
      have h4 := mul_bdr h3.1 h3.2 (y := b) (n := 1000000) (by omega) h2.2
      go_enter Try.func18, Try.ntmps18
      go_wp2_with (first | (go_at_call 51; (first | with_reducible refine (validNumber_any a _ ha _).mono ?_ | with_reducible refine (validNumber_any b _ hb _).mono ?_); rintro e w' ⟨rfl, rfl⟩) | (go_at_call 52; refine (gcd_any a b (by omega) (by omega) (by omega) (by omega) _).mono ?_; rintro e w' ⟨rfl, n, rfl⟩))
      go_ret2
      exact ⟨rfl, _, rfl⟩
set_option maxHeartbeats 400000 in
theorem l07Lcm_any (a b : Int) (ha : num6 a = true) (hb : num6 b = true) (w : World) :
    Calls Try.prog 53 #[.int .i64 a, .int .i64 b] w fun e w' => e = .returned (.int .i64 (lcmI a b)) ∧ w = w' := by
  have h1 := num6_bd ha
  have h2 := num6_bd hb
  have hg := gcdI_pos a b h1.1
  have h3 := div_bd (g := gcdI a b) (x := a) (m := 1000000) (by omega) h1.2 hg
  have h4 := mul_bdr h3.1 h3.2 (y := b) (n := 1000000) (by omega) h2.2
  clear ha hb
  go_enter Try.func53, Try.ntmps53
  go_wp2_with (go_at_call 50; refine (l07Gcd_any a b (by omega) (by omega) (by omega) (by omega) _).mono ?_; rintro e w' ⟨rfl, rfl⟩)
  go_ret
  exact ⟨rfl, rfl⟩
set_option maxHeartbeats 400000 in
theorem sLeastMultiple_any (a b : Int) (w : World) :
    Calls Try.prog 17 #[.int .i64 a, .int .i64 b] w fun e w' => e = .returned (.tuple #[.int .i64 (lmM a b).1, .int .i64 (lmM a b).2]) ∧ w = w' := by
  unfold lmM
  cases ha : num6 a
  · go_enter Try.func17, Try.ntmps17
    go_wp2_with (go_at_call 49; refine (l07Size_any _ _ ha _).mono ?_; rintro e w' ⟨rfl, rfl⟩)
    go_ret2
    exact ⟨rfl, rfl⟩
  · cases hb : num6 b
    · go_enter Try.func17, Try.ntmps17
      go_wp2_with (go_at_call 49; (first | with_reducible refine (l07Size_any a _ ha _).mono ?_ | with_reducible refine (l07Size_any b _ hb _).mono ?_); rintro e w' ⟨rfl, rfl⟩)
      go_ret2
      exact ⟨rfl, rfl⟩
    · go_enter Try.func17, Try.ntmps17
      go_wp2_with (first | (go_at_call 49; (first | with_reducible refine (l07Size_any a _ ha _).mono ?_ | with_reducible refine (l07Size_any b _ hb _).mono ?_); rintro e w' ⟨rfl, rfl⟩) | (go_at_call 53; refine (l07Lcm_any a b ha hb _).mono ?_; rintro e w' ⟨rfl, rfl⟩))
      go_ret2
      exact ⟨rfl, rfl⟩
set_option maxHeartbeats 400000 in
theorem PlainLength_any (a b : Int) (w : World) :
    Calls Try.prog 24 #[.int .i64 a, .int .i64 b] w fun e w' => e = .returned (.tuple #[.int .i64 (plM a b).1, .int .i64 (plM a b).2]) ∧ ∃ n, w.drewN n = w' := by
  have hb := lmM_bd a b
  rw [plM_eq]
  go_enter Try.func24, Try.ntmps24
  go_wp2_with (go_at_call 18; refine (LeastMultiple_any a b _).mono ?_; rintro e w' ⟨rfl, n, rfl⟩)
  go_ret2
  exact ⟨rfl, _, rfl⟩
set_option maxHeartbeats 400000 in
theorem sPlainLength_any (a b : Int) (w : World) :
    Calls Try.prog 23 #[.int .i64 a, .int .i64 b] w fun e w' => e = .returned (.tuple #[.int .i64 (plM a b).1, .int .i64 (plM a b).2]) ∧ w = w' := by
  have hb := lmM_bd a b
  rw [plM_eq]
  go_enter Try.func23, Try.ntmps23
  go_wp2_with (go_at_call 17; refine (sLeastMultiple_any a b _).mono ?_; rintro e w' ⟨rfl, rfl⟩)
  go_ret2
  exact ⟨rfl, rfl⟩
set_option maxHeartbeats 400000 in
theorem PlainCurves_any (a b : Int) (w : World) :
    Calls Try.prog 20 #[.int .i64 a, .int .i64 b] w fun e w' => e = .returned (.tuple #[.int .i64 (gdM a b).1, .int .i64 (gdM a b).2]) ∧ ∃ n, w.drewN n = w' := by
  go_enter Try.func20, Try.ntmps20
  go_wp2_with (go_at_call 16; refine (GreatestDivisor_any a b _).mono ?_; rintro e w' ⟨rfl, n, rfl⟩)
  go_ret2
  exact ⟨rfl, _, rfl⟩
set_option maxHeartbeats 400000 in
theorem sPlainCurves_any (a b : Int) (w : World) :
    Calls Try.prog 19 #[.int .i64 a, .int .i64 b] w fun e w' => e = .returned (.tuple #[.int .i64 (gdM a b).1, .int .i64 (gdM a b).2]) ∧ w = w' := by
  go_enter Try.func19, Try.ntmps19
  go_wp2_with (go_at_call 15; refine (sGreatestDivisor_any a b _).mono ?_; rintro e w' ⟨rfl, rfl⟩)
  go_ret2
  exact ⟨rfl, rfl⟩
set_option maxHeartbeats 400000 in
theorem PlainTouches_any (a b : Int) (w : World) :
    Calls Try.prog 22 #[.int .i64 a, .int .i64 b] w fun e w' => e = .returned (.tuple #[.int .i64 (ptM a b).1, .int .i64 (ptM a b).2]) ∧ ∃ n, w.drewN n = w' := by
  unfold ptM
  cases hab : num6 a && num6 b
  · have hgd : gdM a b = (0, 2) := by unfold gdM; rw [hab]; rfl
    go_enter Try.func22, Try.ntmps22
    go_wp2_with (go_at_call 16; refine (GreatestDivisor_any a b _).mono ?_; rintro e w' ⟨rfl, n, rfl⟩)
    go_ret2
    exact ⟨rfl, _, rfl⟩
  · have hgd : gdM a b = (gcdI a b, 0) := by unfold gdM; rw [hab]; rfl
    simp at hab
    have h1 := num6_bd hab.1
    have h2 := num6_bd hab.2
    have hg := gcdI_pos a b h1.1
    clear hab
    go_enter Try.func22, Try.ntmps22
    go_wp2_with (go_at_call 16; refine (GreatestDivisor_any a b _).mono ?_; rintro e w' ⟨rfl, n, rfl⟩)
    go_ret2
    exact ⟨rfl, _, rfl⟩
set_option maxHeartbeats 400000 in
theorem sPlainTouches_any (a b : Int) (w : World) :
    Calls Try.prog 21 #[.int .i64 a, .int .i64 b] w fun e w' => e = .returned (.tuple #[.int .i64 (ptM a b).1, .int .i64 (ptM a b).2]) ∧ w = w' := by
  unfold ptM
  cases ha : num6 a
  · go_enter Try.func21, Try.ntmps21
    go_wp2_with (go_at_call 49; refine (l07Size_any _ _ ha _).mono ?_; rintro e w' ⟨rfl, rfl⟩)
    go_ret2
    exact ⟨rfl, rfl⟩
  · cases hb : num6 b
    · go_enter Try.func21, Try.ntmps21
      go_wp2_with (go_at_call 49; (first | with_reducible refine (l07Size_any a _ ha _).mono ?_ | with_reducible refine (l07Size_any b _ hb _).mono ?_); rintro e w' ⟨rfl, rfl⟩)
      go_ret2
      exact ⟨rfl, rfl⟩
    · have h1 := num6_bd ha
      have h2 := num6_bd hb
      have hg := gcdI_pos a b h1.1
      go_enter Try.func21, Try.ntmps21
      go_wp2_with (first | (go_at_call 49; (first | with_reducible refine (l07Size_any a _ ha _).mono ?_ | with_reducible refine (l07Size_any b _ hb _).mono ?_); rintro e w' ⟨rfl, rfl⟩) | (go_at_call 50; refine (l07Gcd_any a b (by omega) (by omega) (by omega) (by omega) _).mono ?_; rintro e w' ⟨rfl, rfl⟩))
      go_ret2
      exact ⟨rfl, rfl⟩
set_option maxHeartbeats 400000 in
theorem FnExactLeastMultiple_walk (a b : Int) (w : World) (_wa : (Lit.int .i64 a).wf = true) (_wb : (Lit.int .i64 b).wf = true) :
    Calls Try.prog 4 #[.int .i64 a, .int .i64 b] w fun e w' => e = .returned (.bool true) ∧ Below w.heap.size w w' := by
  go_enter Try.func4, Try.ntmps4
  go_wp2_with (first | (go_at_call 17; refine (sLeastMultiple_any a b _).mono ?_; rintro e w' ⟨rfl, rfl⟩) | (go_at_call 18; refine (LeastMultiple_any a b _).mono ?_; rintro e w' ⟨rfl, n, rfl⟩))
  go_ret
  exact ⟨rfl, below_drewN _ _ _⟩
set_option maxHeartbeats 400000 in
theorem FnExactPlainCurves_walk (a b : Int) (w : World) (_wa : (Lit.int .i64 a).wf = true) (_wb : (Lit.int .i64 b).wf = true) :
    Calls Try.prog 5 #[.int .i64 a, .int .i64 b] w fun e w' => e = .returned (.bool true) ∧ Below w.heap.size w w' := by
  go_enter Try.func5, Try.ntmps5
  go_wp2_with (first | (go_at_call 19; refine (sPlainCurves_any a b _).mono ?_; rintro e w' ⟨rfl, rfl⟩) | (go_at_call 20; refine (PlainCurves_any a b _).mono ?_; rintro e w' ⟨rfl, n, rfl⟩))
  go_ret
  exact ⟨rfl, below_drewN _ _ _⟩
set_option maxHeartbeats 400000 in
theorem FnExactPlainTouches_walk (a b : Int) (w : World) (_wa : (Lit.int .i64 a).wf = true) (_wb : (Lit.int .i64 b).wf = true) :
    Calls Try.prog 6 #[.int .i64 a, .int .i64 b] w fun e w' => e = .returned (.bool true) ∧ Below w.heap.size w w' := by
  go_enter Try.func6, Try.ntmps6
  go_wp2_with (first | (go_at_call 21; refine (sPlainTouches_any a b _).mono ?_; rintro e w' ⟨rfl, rfl⟩) | (go_at_call 22; refine (PlainTouches_any a b _).mono ?_; rintro e w' ⟨rfl, n, rfl⟩))
  go_ret
  exact ⟨rfl, below_drewN _ _ _⟩
set_option maxHeartbeats 400000 in
theorem FnExactPlainLength_walk (a b : Int) (w : World) (_wa : (Lit.int .i64 a).wf = true) (_wb : (Lit.int .i64 b).wf = true) :
    Calls Try.prog 7 #[.int .i64 a, .int .i64 b] w fun e w' => e = .returned (.bool true) ∧ Below w.heap.size w w' := by
  go_enter Try.func7, Try.ntmps7
  go_wp2_with (first | (go_at_call 23; refine (sPlainLength_any a b _).mono ?_; rintro e w' ⟨rfl, rfl⟩) | (go_at_call 24; refine (PlainLength_any a b _).mono ?_; rintro e w' ⟨rfl, n, rfl⟩))
  go_ret
  exact ⟨rfl, below_drewN _ _ _⟩
end Go.Proofs.Ytcjjkiajgkicnaa
