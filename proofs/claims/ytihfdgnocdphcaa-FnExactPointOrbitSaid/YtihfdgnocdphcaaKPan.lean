/-
  Panels in memory: copied, compared, marked, held by the laws' helpers.
-/
import Derived.Test.YtihfdgnocdphcaaKind
namespace Go.Proofs.Ytihfdgnocdphcaa
open Go.RowKit Knot

set_option maxHeartbeats 2000000 in
theorem toPanel_any (x y : Int) (a : Option Addr) (len cap : Nat) (zs : List Int) (w : World) (hr : IsRow .i64 w a len cap zs) (h1 : len ≤ 1048576) :
    Calls Try.prog 19 #[.agg #[.int .i64 x, .int .i64 y, .slice a len cap]] w fun e w' => ∃ g, e = .returned (.agg #[.int .i64 x, .int .i64 y, .slice (some ⟨g, 0, none⟩) len len]) ∧
      IntsIn w' w.heap.size w'.heap.size (.slice (some ⟨g, 0, none⟩) len len) (zs.take len) ∧ Below w.heap.size w w' := by
  go_enter Try.func19, Try.ntmps19
  go_wp2_with fail
  refine (toInts_any a len cap zs _ (hr.below (Joins.below_alloc3 _ _ _ _)) h1).mono ?_
  rintro e w1 ⟨g, rfl, hv, hb⟩
  obtain ⟨hc, hf⟩ := bcell hb
  have B1 : Below w.heap.size w w1 := bnext (Joins.below_alloc3 _ _ _ _) hb
  have n2 : w.heap.size + 1 + 1 < w1.heap.size := by have := hb.size; simp at this; omega
  have n1 : w.heap.size + 1 < w1.heap.size := by omega
  have n0 : w.heap.size < w1.heap.size := by omega
  simp only [World.size_alloc] at hv
  go_wp2_with fail
  refine bodyPost_ret (v := .agg #[.int .i64 x, .int .i64 y, .slice (some ⟨g, 0, none⟩) len len]) ?_ rfl ?_
  · simp [results, Try.results19, go_sem, hc, hf, n0, n1, n2]
  · refine ⟨g, rfl, ⟨?_, ?_, Nat.le_refl _, hv.len⟩, ?_⟩
    · refine Row.setCell (Row.setCell (Row.setCell (Row.setCell hv.1 ?_ _) ?_ _) ?_ _) ?_ _ |>.le (by omega) <;> (intro j hj; have := Row.lt hv.1 hj; simp; omega)
    · intro j hj
      have := Row.lt hv.1 hj
      simp
      omega
    · refine (((B1.setCell ?_ _).setCell ?_ _).setCell ?_ _).setCell ?_ _ <;> (show _ ≤ _; simp; try omega)
set_option maxHeartbeats 2000000 in
theorem eqPanel_any (x y x' y' : Int) (v u : Value) (xs ys : List Int) (w : World) (lo hi lo' hi' : Nat) (h : IntsIn w lo hi v xs) (k : IntsIn w lo' hi' u ys) (r : Bool) (hr : decide (x = x' ∧ y = y' ∧ xs = ys) = r) :
    Calls Try.prog 21 #[.agg #[.int .i64 x, .int .i64 y, v], .agg #[.int .i64 x', .int .i64 y', u]] w fun e w' => e = .returned (.bool r) ∧ Below w.heap.size w w' := by
  obtain ⟨A1, c1, rfl, _, _⟩ := h.1.open_
  obtain ⟨A2, c2, rfl, _, _⟩ := k.1.open_
  have bl := Joins.below_alloc2 w (.cells #[.int .i64 x, .int .i64 y, .slice A1 xs.length c1] 30) (.cells #[.int .i64 x', .int .i64 y', .slice A2 ys.length c2] 30)
  by_cases e1 : x = x'
  · have t1 : (x != x') = false := by simp [e1]
    by_cases e2 : y = y'
    · have t2 : (y != y') = false := by simp [e2]
      have q : decide (xs = ys) = r := by rw [← hr]; simp [e1, e2]
      have Q := Lib.hid q
      clear e1 e2 hr q
      cases r
      all_goals
        go_enter Try.func21, Try.ntmps21
        go_wp2_with fail
        refine (K_eqInts (h.below bl) (k.below bl) Q.out).mono ?_
        rintro e w1 ⟨rfl, hb⟩
        go_wp2_with fail
        go_ret
        exact ⟨rfl, bnext bl hb⟩
    · have t2 : (y != y') = true := by simp [e2]
      have hrf : r = false := by rw [← hr]; exact decide_eq_false fun h => e2 h.2.1
      subst hrf
      clear e1 e2 hr
      go_enter Try.func21, Try.ntmps21
      go_wp2_with fail
      go_ret
      exact ⟨rfl, bl⟩
  · have t1 : (x != x') = true := by simp [e1]
    have hrf : r = false := by rw [← hr]; exact decide_eq_false fun h => e1 h.1
    subst hrf
    clear e1 hr
    go_enter Try.func21, Try.ntmps21
    go_wp2_with fail
    go_ret
    exact ⟨rfl, bl⟩
section
variable {w : World} {lo hi lo' hi' : Nat} {v u : Value} {xs ys : List Int} {x y x' y' k0 left : Int} {r : Bool} {A : Option Addr} {len cap : Nat} {zs : List Int}
theorem K_toPanel (hr : IsRow .i64 w A len cap zs) (h1 : len ≤ 1048576) :
    Calls Try.prog 19 #[.agg #[.int .i64 x, .int .i64 y, .slice A len cap]] w fun e w' => ∃ g, e = .returned (.agg #[.int .i64 x, .int .i64 y, .slice (some ⟨g, 0, none⟩) len len]) ∧
      IntsIn w' w.heap.size w'.heap.size (.slice (some ⟨g, 0, none⟩) len len) (zs.take len) ∧ Below w.heap.size w w' := toPanel_any x y A len cap zs w hr h1
theorem K_eqPanel (h : IntsIn w lo hi v xs) (k : IntsIn w lo' hi' u ys) (hr : decide (x = x' ∧ y = y' ∧ xs = ys) = r) :
    Calls Try.prog 21 #[.agg #[.int .i64 x, .int .i64 y, v], .agg #[.int .i64 x', .int .i64 y', u]] w fun e w' => e = .returned (.bool r) ∧ Below w.heap.size w w' :=
  eqPanel_any x y x' y' v u xs ys w lo hi lo' hi' h k r hr
set_option maxHeartbeats 1000000 in
theorem K_markPanel (h : IntsIn w lo hi v xs) (hk0 : 0 ≤ k0) (hk1 : k0 ≤ 1000000000000) :
    Calls Try.prog 28 #[.agg #[.int .i64 x, .int .i64 y, v], .int .i64 k0] w fun e w' => e = .returned (.int .i64 (k0 + xs.length)) ∧ IntsIn w' lo hi v (upFrom k0 xs.length) ∧ Chg lo hi w w' := by
  obtain ⟨A1, c1, rfl, _, _⟩ := h.1.open_
  have bl := Joins.below_alloc1 w (.cells #[.int .i64 x, .int .i64 y, .slice A1 xs.length c1] 30)
  go_enter Try.func28, Try.ntmps28
  go_wp2_with fail
  refine (K_markInts (h.below bl) hk0 hk1).mono ?_
  rintro e w1 ⟨rfl, i1, hc⟩
  go_wp2_with fail
  go_ret
  exact ⟨rfl, i1, (Chg.ofBelow bl).trans hc⟩
set_option maxHeartbeats 1000000 in
theorem K_heldPanel {n : Nat} (h : IntsIn w lo hi v (upFrom k0 n)) (hk0 : 0 ≤ k0) (hk1 : k0 ≤ 1000000000000) :
    Calls Try.prog 29 #[.agg #[.int .i64 x, .int .i64 y, v], .int .i64 k0] w fun e w' => e = .returned (.int .i64 (k0 + n)) ∧ Below w.heap.size w w' := by
  obtain ⟨A1, c1, rfl, _, _⟩ := h.1.open_
  have hl := h.len
  rw [upFrom_length] at hl
  simp only [upFrom_length] at h ⊢
  have bl := Joins.below_alloc1 w (.cells #[.int .i64 x, .int .i64 y, .slice A1 n c1] 30)
  go_enter Try.func29, Try.ntmps29
  go_wp2_with fail
  refine (K_heldInts (h.below bl) hk0 hk1).mono ?_
  rintro e w1 ⟨rfl, hb⟩
  go_wp2_with fail
  go_ret
  exact ⟨rfl, bnext bl hb⟩
set_option maxHeartbeats 1000000 in
theorem K_szPanel (h0 : 0 ≤ left) (h1 : left ≤ 1048576) (l1 : len ≤ 9223372036854775807) :
    Calls Try.prog 17 #[.agg #[.int .i64 x, .int .i64 y, .slice A len cap], .int .i64 left] w fun e w' => e = .returned (.int .i64 (if (len : Int) ≤ left then left - len else -1)) ∧ Below w.heap.size w w' := by
  have bl := Joins.below_alloc1 w (.cells #[.int .i64 x, .int .i64 y, .slice A len cap] 27)
  by_cases e1 : (len : Int) ≤ left
  · have Q1 := Lib.hid (if_pos e1 : (if (len : Int) ≤ left then left - len else -1) = left - len)
    rw [if_pos e1]
    go_enter Try.func17, Try.ntmps17
    go_wp2_with fail
    refine (szInt64S_any A len cap left _ h0 h1 l1).mono ?_
    rintro e w' ⟨rfl, rfl⟩
    rw [Q1.out]
    go_wp2_with fail
    go_ret
    exact ⟨rfl, bl⟩
  · have Q1 := Lib.hid (if_neg e1 : (if (len : Int) ≤ left then left - len else -1) = -1)
    rw [if_neg e1]
    go_enter Try.func17, Try.ntmps17
    go_wp2_with fail
    refine (szInt64S_any A len cap left _ h0 h1 l1).mono ?_
    rintro e w' ⟨rfl, rfl⟩
    rw [Q1.out]
    go_wp2_with fail
    go_ret
    exact ⟨rfl, bl⟩
end
end Go.Proofs.Ytihfdgnocdphcaa
