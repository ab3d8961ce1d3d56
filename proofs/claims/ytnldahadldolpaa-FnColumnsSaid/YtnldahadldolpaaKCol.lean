/-
  Columns, copied, compared, marked and held by the laws' helpers.
-/
import Derived.Test.YtnldahadldolpaaKind
namespace Go.Proofs.Ytnldahadldolpaa
open Go.RowKit Knot

section
variable {w : World} {lo hi lo' hi' : Nat} {v u : Value} {xs ys : List Int} {x x' k0 left : Int} {r : Bool} {A : Option Addr} {len cap : Nat} {zs : List Int}
set_option maxHeartbeats 2000000 in
theorem K_toColumn (hr : IsRow .i64 w A len cap zs) (h1 : len ≤ 1048576) :
    Calls Try.prog 47 #[.agg #[.slice A len cap, .int .i64 x]] w fun e w' => ∃ g, e = .returned (.agg #[.slice (some ⟨g, 0, none⟩) len len, .int .i64 x]) ∧
      IntsIn w' w.heap.size w'.heap.size (.slice (some ⟨g, 0, none⟩) len len) (zs.take len) ∧ Below w.heap.size w w' := by
  go_enter Try.func47, Try.ntmps47
  go_wp2_with fail
  refine (toInts_any A len cap zs _ (hr.below (Joins.below_alloc3 _ _ _ _)) h1).mono ?_
  rintro e w1 ⟨g, rfl, hv, hb⟩
  obtain ⟨hc, hf⟩ := bcell hb
  have B1 : Below w.heap.size w w1 := bnext (Joins.below_alloc3 _ _ _ _) hb
  have n2 : w.heap.size + 1 + 1 < w1.heap.size := by have := hb.size; simp at this; omega
  have n1 : w.heap.size + 1 < w1.heap.size := by omega
  have n0 : w.heap.size < w1.heap.size := by omega
  simp only [World.size_alloc] at hv
  go_wp2_with fail
  refine bodyPost_ret (v := .agg #[.slice (some ⟨g, 0, none⟩) len len, .int .i64 x]) ?_ rfl ?_
  · simp [results, Try.results47, go_sem, hc, hf, n0, n1, n2]
  · refine ⟨g, rfl, ⟨?_, ?_, Nat.le_refl _, hv.len⟩, ?_⟩
    · refine Row.setCell (Row.setCell (Row.setCell (Row.setCell hv.1 ?_ _) ?_ _) ?_ _) ?_ _ |>.le (by omega) <;> (intro j hj; have := Row.lt hv.1 hj; simp; omega)
    · intro j hj
      have := Row.lt hv.1 hj
      simp
      omega
    · refine (((B1.setCell ?_ _).setCell ?_ _).setCell ?_ _).setCell ?_ _ <;> (show _ ≤ _; simp; try omega)
set_option maxHeartbeats 2000000 in
theorem K_eqColumn (h : IntsIn w lo hi v xs) (k : IntsIn w lo' hi' u ys) (hr : decide (xs = ys ∧ x = x') = r) :
    Calls Try.prog 31 #[.agg #[v, .int .i64 x], .agg #[u, .int .i64 x']] w fun e w' => e = .returned (.bool r) ∧ Below w.heap.size w w' := by
  obtain ⟨A1, c1, rfl, _, _⟩ := h.1.open_
  obtain ⟨A2, c2, rfl, _, _⟩ := k.1.open_
  have bl := Joins.below_alloc2 w (.cells #[.slice A1 xs.length c1, .int .i64 x] 38) (.cells #[.slice A2 ys.length c2, .int .i64 x'] 38)
  have ba := (Box.new w 38 #[.slice A1 xs.length c1, .int .i64 x]).alloc (.cells #[.slice A2 ys.length c2, .int .i64 x'] 38)
  have bb := Box.new (w.alloc (.cells #[.slice A1 xs.length c1, .int .i64 x] 38)) 38 #[.slice A2 ys.length c2, .int .i64 x']
  rw [World.size_alloc] at bb
  by_cases e1 : xs = ys
  · have Q := Lib.hid (decide_eq_true e1)
    by_cases e2 : x = x'
    · have t2 : (x != x') = false := by simp [e2]
      have hrt : r = true := by rw [← hr]; exact decide_eq_true ⟨e1, e2⟩
      subst hrt
      clear e1 e2 hr
      go_enter Try.func31, Try.ntmps31
      go_wp2_with fail
      refine (K_eqInts (h.below bl) (k.below bl) Q.out).mono ?_
      rintro e w1 ⟨rfl, hb⟩
      have a1 := (ba.below hb).cell 1
      have b1 := (bb.below hb).cell 1
      have an := (ba.below hb).lt
      have bn := (bb.below hb).lt
      go_wp2_with fail
      go_ret
      exact ⟨rfl, bnext bl hb⟩
    · have t2 : (x != x') = true := by simp [e2]
      have hrf : r = false := by rw [← hr]; exact decide_eq_false fun h => e2 h.2
      subst hrf
      clear e1 e2 hr
      go_enter Try.func31, Try.ntmps31
      go_wp2_with fail
      refine (K_eqInts (h.below bl) (k.below bl) Q.out).mono ?_
      rintro e w1 ⟨rfl, hb⟩
      have a1 := (ba.below hb).cell 1
      have b1 := (bb.below hb).cell 1
      have an := (ba.below hb).lt
      have bn := (bb.below hb).lt
      go_wp2_with fail
      go_ret
      exact ⟨rfl, bnext bl hb⟩
  · have Q := Lib.hid (decide_eq_false e1)
    have hrf : r = false := by rw [← hr]; exact decide_eq_false fun h => e1 h.1
    subst hrf
    clear e1 hr
    go_enter Try.func31, Try.ntmps31
    go_wp2_with fail
    refine (K_eqInts (h.below bl) (k.below bl) Q.out).mono ?_
    rintro e w1 ⟨rfl, hb⟩
    go_wp2_with fail
    go_ret
    exact ⟨rfl, bnext bl hb⟩
set_option maxHeartbeats 1000000 in
theorem K_markColumn (h : IntsIn w lo hi v xs) (hk0 : 0 ≤ k0) (hk1 : k0 ≤ 1000000000000) :
    Calls Try.prog 34 #[.agg #[v, .int .i64 x], .int .i64 k0] w fun e w' => e = .returned (.int .i64 (k0 + xs.length)) ∧ IntsIn w' lo hi v (upFrom k0 xs.length) ∧ Chg lo hi w w' := by
  obtain ⟨A1, c1, rfl, _, _⟩ := h.1.open_
  have bl := Joins.below_alloc1 w (.cells #[.slice A1 xs.length c1, .int .i64 x] 38)
  go_enter Try.func34, Try.ntmps34
  go_wp2_with fail
  refine (K_markInts (h.below bl) hk0 hk1).mono ?_
  rintro e w1 ⟨rfl, i1, hc⟩
  go_wp2_with fail
  go_ret
  exact ⟨rfl, i1, (Chg.ofBelow bl).trans hc⟩
set_option maxHeartbeats 1000000 in
theorem K_heldColumn {n : Nat} (h : IntsIn w lo hi v (upFrom k0 n)) (hk0 : 0 ≤ k0) (hk1 : k0 ≤ 1000000000000) :
    Calls Try.prog 35 #[.agg #[v, .int .i64 x], .int .i64 k0] w fun e w' => e = .returned (.int .i64 (k0 + n)) ∧ Below w.heap.size w w' := by
  obtain ⟨A1, c1, rfl, _, _⟩ := h.1.open_
  have hl := h.len
  rw [upFrom_length] at hl
  simp only [upFrom_length] at h ⊢
  have bl := Joins.below_alloc1 w (.cells #[.slice A1 n c1, .int .i64 x] 38)
  go_enter Try.func35, Try.ntmps35
  go_wp2_with fail
  refine (K_heldInts (h.below bl) hk0 hk1).mono ?_
  rintro e w1 ⟨rfl, hb⟩
  go_wp2_with fail
  go_ret
  exact ⟨rfl, bnext bl hb⟩
set_option maxHeartbeats 1000000 in
theorem K_szColumn (h0 : 0 ≤ left) (h1 : left ≤ 1048576) (l1 : len ≤ 9223372036854775807) :
    Calls Try.prog 45 #[.agg #[.slice A len cap, .int .i64 x], .int .i64 left] w fun e w' => e = .returned (.int .i64 (if (len : Int) ≤ left then left - len else -1)) ∧ Below w.heap.size w w' := by
  have bl := Joins.below_alloc1 w (.cells #[.slice A len cap, .int .i64 x] 56)
  by_cases e1 : (len : Int) ≤ left
  · have Q1 := Lib.hid (if_pos e1 : (if (len : Int) ≤ left then left - len else -1) = left - len)
    rw [if_pos e1]
    go_enter Try.func45, Try.ntmps45
    go_wp2_with fail
    refine (szInt64S_any A len cap left _ h0 h1 l1).mono ?_
    rintro e w' ⟨rfl, rfl⟩
    rw [Q1.out]
    go_wp2_with fail
    go_ret
    exact ⟨rfl, bl⟩
  · have Q1 := Lib.hid (if_neg e1 : (if (len : Int) ≤ left then left - len else -1) = -1)
    rw [if_neg e1]
    go_enter Try.func45, Try.ntmps45
    go_wp2_with fail
    refine (szInt64S_any A len cap left _ h0 h1 l1).mono ?_
    rintro e w' ⟨rfl, rfl⟩
    rw [Q1.out]
    go_wp2_with fail
    go_ret
    exact ⟨rfl, bl⟩
end
end Go.Proofs.Ytnldahadldolpaa
