/-
  Two panels compared, by the program and by the reference.
-/
import Derived.Test.YtihfdgnocdphcaaVal
import Derived.Test.YtihfdgnocdphcaaSame
namespace Go.Proofs.Ytihfdgnocdphcaa
open Go.RowKit Knot

set_option maxHeartbeats 4000000 in
theorem SamePanel_any {w : World} {B C : Nat} {x y x' y' : Int} {v u : Value} {xs ys : List Int} {r : Bool} (hx : Ints w B v xs) (hy : Ints w C u ys) (hr : r = true ↔ (x = x' ∧ y = y' ∧ xs = ys)) :
    Calls Try.prog 97 #[.agg #[.int .i64 x, .int .i64 y, v], .agg #[.int .i64 x', .int .i64 y', u]] w fun e w' => e = .returned (.bool r) ∧ Below w.heap.size w w' := by
  obtain ⟨A, cA, rfl, _, _⟩ := hx.open_
  obtain ⟨D, cD, rfl, _, _⟩ := hy.open_
  have bl := Joins.below_alloc2 w (.cells #[.int .i64 x, .int .i64 y, .slice A xs.length cA] 30) (.cells #[.int .i64 x', .int .i64 y', .slice D ys.length cD] 30)
  have hx1 := Row.below hx bl
  have hy1 := Row.below hy bl
  by_cases e1 : x = x'
  · have t1 : (x == x') = true := by simp [e1]
    by_cases e2 : y = y'
    · have t2 : (y == y') = true := by simp [e2]
      obtain ⟨c, hc⟩ : ∃ c, decide (xs = ys) = c := ⟨_, rfl⟩
      have hrc : r = c := by
        rw [← hc, Bool.eq_iff_iff, hr]
        simp [e1, e2]
      have HC := Lib.hid hc
      subst hrc
      clear hr hc e1 e2
      cases r
      all_goals
        go_enter Try.func97, Try.ntmps97
        go_wp2_with fail
        refine (Equal_any _ _ xs ys _ _ _ hx1 hy1 _ HC.out).mono ?_
        rintro e w2 ⟨rfl, hd⟩
        have hb := bdrawn hd
        clear hd
        go_wp2_with fail
        go_ret
        exact ⟨rfl, bnext bl hb⟩
    · have t2 : (y == y') = false := by simp [e2]
      have hcf := bool_false hr (fun h => e2 h.2.1)
      subst hcf
      clear hr e1 e2
      go_enter Try.func97, Try.ntmps97
      go_wp2_with fail
      go_ret
      exact ⟨rfl, bl⟩
  · have t1 : (x == x') = false := by simp [e1]
    have hcf := bool_false hr (fun h => e1 h.1)
    subst hcf
    clear hr e1
    go_enter Try.func97, Try.ntmps97
    go_wp2_with fail
    go_ret
    exact ⟨rfl, bl⟩
set_option maxHeartbeats 4000000 in
theorem l02Same_any {w : World} {b1 b2 B C : Nat} {x y x' y' : Int} {v u : Value} {xs ys : List Int} {r : Bool} (h1 : Box w b1 30 #[.int .i64 x, .int .i64 y, v]) (h2 : Box w b2 30 #[.int .i64 x', .int .i64 y', u]) (hx : Ints w B v xs) (hy : Ints w C u ys) (hr : r = true ↔ (x = x' ∧ y = y' ∧ xs = ys)) :
    Calls Try.prog 96 #[.pointer (some ⟨b1, 0, none⟩), .pointer (some ⟨b2, 0, none⟩)] w fun e w' => e = .returned (.bool r) ∧ ∃ n, w.drewN n = w' := by
  obtain ⟨A, cA, rfl, _, _⟩ := hx.open_
  obtain ⟨D, cD, rfl, _, _⟩ := hy.open_
  have q0 := h1.cell 0
  have q1 := h1.cell 1
  have q2 := h1.cell 2
  have p0 := h2.cell 0
  have p1 := h2.cell 1
  have p2 := h2.cell 2
  simp only [List.getElem?_toArray, List.getElem?_cons_zero, List.getElem?_cons_succ] at q0 q1 q2 p0 p1 p2
  by_cases e1 : x = x'
  · have t1 : (x == x') = true := by simp [e1]
    by_cases e2 : y = y'
    · have t2 : (y == y') = true := by simp [e2]
      obtain ⟨c, hc⟩ : ∃ c, decide (xs = ys) = c := ⟨_, rfl⟩
      have hrc : r = c := by
        rw [← hc, Bool.eq_iff_iff, hr]
        simp [e1, e2]
      have HC := Lib.hid hc
      subst hrc
      clear hr hc e1 e2 h1 h2
      cases r
      all_goals
        go_enter Try.func96, Try.ntmps96
        go_wp2
        go_quiet ((go_at_call 129; exact qdrawn (l00Same_any _ _ xs ys _ _ _ (Row.drewN hx _) (Row.drewN hy _) _ HC.out)))
        go_wp2
        go_ret
        exact ⟨rfl, _, rfl⟩
    · have t2 : (y == y') = false := by simp [e2]
      have hcf := bool_false hr (fun h => e2 h.2.1)
      subst hcf
      clear hr e1 e2 h1 h2
      go_enter Try.func96, Try.ntmps96
      go_wp2
      go_quiet (fail)
      go_wp2
      go_ret
      exact ⟨rfl, _, rfl⟩
  · have t1 : (x == x') = false := by simp [e1]
    have hcf := bool_false hr (fun h => e1 h.1)
    subst hcf
    clear hr e1 h1 h2
    go_enter Try.func96, Try.ntmps96
    go_wp2
    go_quiet (fail)
    go_wp2
    go_ret
    exact ⟨rfl, _, rfl⟩
end Go.Proofs.Ytihfdgnocdphcaa
