/-
  Lists and panels in order: ComparePanels, by the program and by the reference.
-/
import Derived.Test.YtihfdgnocdphcaaVal
import Derived.Test.YtihfdgnocdphcaaPlAllD
import Derived.Deep.RegionHeld3
namespace Go.Proofs.Ytihfdgnocdphcaa
open Go.RowKit Knot

theorem Ints.two2 (w : World) (y z : Int) : Ints (w.alloc (.cells #[.int .i64 y, .int .i64 z] 2)) w.heap.size (.slice (some ⟨w.heap.size, 0, none⟩) 2 2) [y, z] :=
  ⟨by simp, .inr ⟨w.heap.size, 2, #[.int .i64 y, .int .i64 z], rfl, Nat.le_refl _, heap_alloc_new w _, Nat.le_refl _, by unfold maxLen; omega, rfl, by simp⟩⟩

theorem cell_bl {w w' : World} {p : Addr} {u : Value} (hb : Below w.heap.size w w') (h : w.cell? p = some u) : w'.cell? p = some u := (hb.cell (World.block_lt_of_cell? w _ h)).trans h
theorem cell_al {w : World} {o : Obj} {p : Addr} {u : Value} (h : w.cell? p = some u) : (w.alloc o).cell? p = some u := cell_bl (Joins.below_alloc1 _ _) h

set_option maxHeartbeats 1000000 in
theorem compare_any {w : World} {a b r : Int} (hr : cmpI a b = r) :
    Calls Try.prog 75 #[.int .i64 a, .int .i64 b] w fun e w' => e = .returned (.int .i64 r) ∧ w = w' := by
  unfold cmpI at hr
  by_cases h1 : a < b
  · rw [if_pos h1] at hr
    subst hr
    go_enter Try.func75, Try.ntmps75
    go_wp2
    go_ret
    exact ⟨rfl, rfl⟩
  · rw [if_neg h1] at hr
    by_cases h2 : b < a
    · rw [if_pos h2] at hr
      subst hr
      go_enter Try.func75, Try.ntmps75
      go_wp2
      go_ret
      exact ⟨rfl, rfl⟩
    · rw [if_neg h2] at hr
      subst hr
      go_enter Try.func75, Try.ntmps75
      go_wp2
      go_ret
      exact ⟨rfl, rfl⟩
set_option maxHeartbeats 1000000 in
theorem isNaN_any {w : World} {a : Int} :
    Calls Try.prog 137 #[.int .i64 a] w fun e w' => e = .returned (.bool false) ∧ w = w' := by
  have h : (a != a) = false := by simp
  go_enter Try.func137, Try.ntmps137
  go_wp2
  go_ret
  exact ⟨rfl, rfl⟩
set_option maxHeartbeats 1000000 in
theorem cmpCompare_any {w : World} {a b r : Int} (hr : cmpI a b = r) :
    Calls Try.prog 118 #[.int .i64 a, .int .i64 b] w fun e w' => e = .returned (.int .i64 r) ∧ w = w' := by
  unfold cmpI at hr
  by_cases h1 : a < b
  · rw [if_pos h1] at hr
    subst hr
    go_enter Try.func118, Try.ntmps118
    go_wp2_with (go_at_call 137; refine isNaN_any.mono ?_; rintro e w' ⟨rfl, rfl⟩)
    go_ret
    exact ⟨rfl, rfl⟩
  · rw [if_neg h1] at hr
    by_cases h2 : b < a
    · rw [if_pos h2] at hr
      subst hr
      go_enter Try.func118, Try.ntmps118
      go_wp2_with (go_at_call 137; refine isNaN_any.mono ?_; rintro e w' ⟨rfl, rfl⟩)
      go_ret
      exact ⟨rfl, rfl⟩
    · rw [if_neg h2] at hr
      subst hr
      go_enter Try.func118, Try.ntmps118
      go_wp2_with (go_at_call 137; refine isNaN_any.mono ?_; rintro e w' ⟨rfl, rfl⟩)
      go_ret
      exact ⟨rfl, rfl⟩
set_option maxHeartbeats 4000000 in
theorem Compare_any {w : World} {B C : Nat} {v u : Value} {xs ys : List Int} {r : Int} (hx : Ints w B v xs) (hy : Ints w C u ys) (hr : cmpL xs ys = r) :
    Calls Try.prog 76 #[v, u] w fun e w' => e = .returned (.int .i64 r) ∧ w = w' := by
  obtain ⟨A, cA, rfl, lA, hA⟩ := hx.open_
  obtain ⟨D, cD, rfl, lD, hD⟩ := hy.open_
  unfold maxLen at lA lD
  have HR : Hid (cmpL (xs.drop 0) (ys.drop 0) = r) := Lib.hid (by simpa using hr)
  clear hr
  go_enter Try.func76, Try.ntmps76
  go_wp2
  go_loop [11] (fun i => ∃ k : Nat, k ≤ xs.length ∧ i = .int .i64 k ∧ Hid (cmpL (xs.drop k) (ys.drop k) = r)) (fun i => xs.length - (intOf i).toNat)
  case atStart => exact ⟨0, Nat.zero_le _, rfl, HR⟩
  case round =>
    obtain ⟨k, hk, rfl, HK⟩ := hrel
    clear HR
    by_cases hlt : k < xs.length
    · obtain ⟨g, rfl, _, _⟩ := hA (by omega)
      have c1 := Ints.cell hx (k := k) hlt
      have i1 : (k : Int) < (xs.length : Int) := by omega
      by_cases hlt2 : k < ys.length
      · obtain ⟨g', rfl, _, _⟩ := hD (by omega)
        have c2 := Ints.cell hy (k := k) hlt2
        have i2 : (k : Int) < (ys.length : Int) := by omega
        obtain ⟨q, hq⟩ : ∃ q, cmpI (gI xs k) (gI ys k) = q := ⟨_, rfl⟩
        have HQ := Lib.hid hq
        by_cases h0 : q = 0
        · have hn : (q != 0) = false := by simp [h0]
          have HE : Hid (cmpL (xs.drop (k + 1)) (ys.drop (k + 1)) = r) := Lib.hid (by
            rw [← HK.out]
            refine (cmpL_eq hlt hlt2 ?_).symm
            unfold cmpI at hq
            split at hq
            · omega
            · split at hq <;> omega)
          clear hq h0 hA hD hx hy HK
          go_wp2_with (go_at_call 118; refine (cmpCompare_any HQ.out).mono ?_; rintro e w' ⟨rfl, rfl⟩)
          go_round
          case rel => exact ⟨k + 1, by omega, by go_num, HE⟩
          case measure => simp [intOf]; omega
        · have hn : (q != 0) = true := by simp [h0]
          have HE : Hid (q = r) := Lib.hid (by
            rw [← HK.out, ← hq]
            unfold cmpI at hq ⊢
            split
            · rename_i h; exact (cmpL_lt hlt hlt2 h).symm
            · rename_i h
              split
              · rename_i h'; exact (cmpL_gt hlt hlt2 h').symm
              · rename_i h'; rw [if_neg h, if_neg h'] at hq; omega)
          clear hq h0 hA hD hx hy HK
          go_wp2_with (go_at_call 118; refine (cmpCompare_any HQ.out).mono ?_; rintro e w' ⟨rfl, rfl⟩)
          go_ret
          exact ⟨ret_int HE.out, rfl⟩
      · have HE : Hid (1 = r) := Lib.hid (by rw [← HK.out]; exact (cmpL_long hlt (by omega)).symm)
        have i2 : (ys.length : Int) ≤ (k : Int) := by omega
        clear hA hD hx hy HK
        go_wp2
        go_ret
        exact ⟨ret_int HE.out, rfl⟩
    · have e : k = xs.length := by omega
      subst e
      by_cases hl : xs.length < ys.length
      · have HE : Hid (-1 = r) := Lib.hid (by rw [← HK.out]; exact (cmpL_short (Nat.le_refl _) hl).symm)
        clear hA hD hx hy HK
        go_wp2
        go_ret
        exact ⟨ret_int HE.out, rfl⟩
      · have HE : Hid (0 = r) := Lib.hid (by rw [← HK.out]; exact (cmpL_both (Nat.le_refl _) (by omega)).symm)
        clear hA hD hx hy HK
        go_wp2
        go_ret
        exact ⟨ret_int HE.out, rfl⟩
set_option maxHeartbeats 4000000 in
theorem l06Numbers_any {w : World} {B C : Nat} {v u : Value} {xs ys : List Int} {r : Int} (hx : Ints w B v xs) (hy : Ints w C u ys) (hr : cmpL xs ys = r) :
    Calls Try.prog 117 #[v, u] w fun e w' => e = .returned (.int .i64 r) ∧ ∃ n, w.drewN n = w' := by
  obtain ⟨A, cA, rfl, lA, hA⟩ := hx.open_
  obtain ⟨D, cD, rfl, lD, hD⟩ := hy.open_
  unfold maxLen at lA lD
  have HR : Hid (cmpL (xs.drop 0) (ys.drop 0) = r) := Lib.hid (by simpa using hr)
  clear hr
  go_enter Try.func117, Try.ntmps117
  go_wp2
  go_loopw [5] (fun i wr => ∃ k : Nat, k ≤ xs.length ∧ k ≤ ys.length ∧ i = .int .i64 k ∧ (∃ n, w.drewN n = wr) ∧ Hid (cmpL (xs.drop k) (ys.drop k) = r)) (fun i _ => xs.length - (intOf i).toNat)
  case atStart => exact ⟨0, Nat.zero_le _, Nat.zero_le _, rfl, ⟨0, rfl⟩, HR⟩
  case round =>
    obtain ⟨k, hk, hk2, rfl, ⟨n, rfl⟩, HK⟩ := hrel
    clear HR
    by_cases hlt : k < xs.length
    · by_cases hlt2 : k < ys.length
      · obtain ⟨g, rfl, _, _⟩ := hA (by omega)
        have c1 := Ints.cell hx (k := k) hlt
        have i0 : (0 : Int) ≤ (k : Int) := by omega
        have i1 : (k : Int) < (xs.length : Int) := by omega
        obtain ⟨g', rfl, _, _⟩ := hD (by omega)
        have c2 := Ints.cell hy (k := k) hlt2
        have i2 : (k : Int) < (ys.length : Int) := by omega
        by_cases h1 : gI xs k < gI ys k
        · have t1 : decide (gI xs k < gI ys k) = true := by simpa using h1
          have HE : Hid (-1 = r) := Lib.hid (by rw [← HK.out]; exact (cmpL_lt hlt hlt2 h1).symm)
          clear hA hD hx hy HK h1
          go_wp2
          go_quiet (fail)
          go_wp2
          go_ret
          exact ⟨ret_int HE.out, drawn2 _ _ _⟩
        have t1 : decide (gI xs k < gI ys k) = false := by simpa using h1
        by_cases h2 : gI ys k < gI xs k
        · have t2 : decide (gI ys k < gI xs k) = true := by simpa using h2
          have HE : Hid (1 = r) := Lib.hid (by rw [← HK.out]; exact (cmpL_gt hlt hlt2 h2).symm)
          clear hA hD hx hy HK h1 h2
          go_wp2
          go_quiet (fail)
          go_wp2
          go_quiet (fail)
          go_wp2
          go_ret
          exact ⟨ret_int HE.out, (by first | exact ⟨_, rfl⟩ | exact drawn2 _ _ _ | (simp only [World.drewN_drewN]; exact ⟨_, rfl⟩))⟩
        have t2 : decide (gI ys k < gI xs k) = false := by simpa using h2
        have HE : Hid (cmpL (xs.drop (k + 1)) (ys.drop (k + 1)) = r) := Lib.hid (by rw [← HK.out]; exact (cmpL_eq hlt hlt2 (by omega)).symm)
        clear hA hD hx hy HK h1 h2
        go_wp2
        go_quiet (fail)
        go_wp2
        go_quiet (fail)
        go_wp2
        go_roundw
        case rel => exact ⟨k + 1, by omega, by omega, by go_num, (by first | exact ⟨_, rfl⟩ | exact drawn2 _ _ _ | (simp only [World.drewN_drewN]; exact ⟨_, rfl⟩)), HE⟩
        case measure => simp [intOf]; omega
      · have i1 : (k : Int) < (xs.length : Int) := by omega
        have i2 : ¬ ((k : Int) < (ys.length : Int)) := by omega
        have i3 : ¬ ((xs.length : Int) < (ys.length : Int)) := by omega
        have i4 : (ys.length : Int) < (xs.length : Int) := by omega
        have HE : Hid (1 = r) := Lib.hid (by rw [← HK.out]; exact (cmpL_long hlt (by omega)).symm)
        clear hA hD hx hy HK
        go_wp2
        go_ret
        exact ⟨ret_int HE.out, n, rfl⟩
    · have e : k = xs.length := by omega
      subst e
      by_cases hl : xs.length < ys.length
      · have HE : Hid (-1 = r) := Lib.hid (by rw [← HK.out]; exact (cmpL_short (Nat.le_refl _) hl).symm)
        clear hA hD hx hy HK
        go_wp2
        go_ret
        exact ⟨ret_int HE.out, n, rfl⟩
      · have HE : Hid (0 = r) := Lib.hid (by rw [← HK.out]; exact (cmpL_both (Nat.le_refl _) (by omega)).symm)
        clear hA hD hx hy HK
        go_wp2
        go_ret
        exact ⟨ret_int HE.out, n, rfl⟩

set_option maxHeartbeats 4000000 in
theorem K_impl_ComparePanels {w : World} {lo hi lo' hi' : Nat} {x y x' y' r : Int} {v u : Value} {xs ys : List Int} (hx : IntsIn w lo hi v xs) (hy : IntsIn w lo' hi' u ys) (hm : cmpP ⟨x, y, xs⟩ ⟨x', y', ys⟩ = r) :
    Calls Try.prog 20 #[.agg #[.int .i64 x, .int .i64 y, v], .agg #[.int .i64 x', .int .i64 y', u]] w fun e w' => e = .returned (.int .i64 r) ∧ Below w.heap.size w w' := by
  obtain ⟨A, cA, rfl, _, _⟩ := hx.1.open_
  obtain ⟨D, cD, rfl, _, _⟩ := hy.1.open_
  have bl := Joins.below_alloc2 w (.cells #[.int .i64 x, .int .i64 y, .slice A xs.length cA] 30) (.cells #[.int .i64 x', .int .i64 y', .slice D ys.length cD] 30)
  have hx1 := (hx.below bl).1
  have hy1 := (hy.below bl).1
  obtain ⟨a, ha⟩ : ∃ a, cmpI x x' = a := ⟨_, rfl⟩
  obtain ⟨b, hb⟩ : ∃ b, cmpI y y' = b := ⟨_, rfl⟩
  have HA := Lib.hid ha
  have HB := Lib.hid hb
  by_cases h1 : a = 0
  · have t1 : (a != 0) = false := by simp [h1]
    by_cases h2 : b = 0
    · have t2 : (b != 0) = false := by simp [h2]
      have HL : Hid (cmpL xs ys = r) := Lib.hid (by rw [← hm]; simp [cmpP, ha, hb, h1, h2])
      clear hm ha hb h1 h2
      go_enter Try.func20, Try.ntmps20
      go_wp2_with fail
      refine (compare_any HA.out).mono ?_
      rintro e w' ⟨rfl, rfl⟩
      go_wp2_with fail
      refine (compare_any HB.out).mono ?_
      rintro e w' ⟨rfl, rfl⟩
      go_wp2_with fail
      refine (Compare_any hx1 hy1 HL.out).mono ?_
      rintro e w' ⟨rfl, rfl⟩
      go_wp2_with fail
      go_ret
      exact ⟨rfl, bl⟩
    · have t2 : (b != 0) = true := by simp [h2]
      have HL : Hid (b = r) := Lib.hid (by rw [← hm]; simp [cmpP, ha, hb, h1, h2])
      clear hm ha hb h1 h2
      go_enter Try.func20, Try.ntmps20
      go_wp2_with fail
      refine (compare_any HA.out).mono ?_
      rintro e w' ⟨rfl, rfl⟩
      go_wp2_with fail
      refine (compare_any HB.out).mono ?_
      rintro e w' ⟨rfl, rfl⟩
      go_wp2_with fail
      go_ret
      exact ⟨ret_int HL.out, bl⟩
  · have t1 : (a != 0) = true := by simp [h1]
    have HL : Hid (a = r) := Lib.hid (by rw [← hm]; simp [cmpP, ha, h1])
    clear hm ha hb h1
    go_enter Try.func20, Try.ntmps20
    go_wp2_with fail
    refine (compare_any HA.out).mono ?_
    rintro e w' ⟨rfl, rfl⟩
    go_wp2_with fail
    go_ret
    exact ⟨ret_int HL.out, bl⟩
set_option maxHeartbeats 4000000 in
theorem l06Compare_any {w : World} {b1 b2 : Nat} {x y x' y' r : Int} {v u : Value} {xs ys : List Int} (h1 : PanAt w b1 x y v xs) (h2 : PanAt w b2 x' y' u ys) (hm : cmpP ⟨x, y, xs⟩ ⟨x', y', ys⟩ = r) :
    Calls Try.prog 73 #[.pointer (some ⟨b1, 0, none⟩), .pointer (some ⟨b2, 0, none⟩)] w fun e w' => e = .returned (.int .i64 r) ∧ Below w.heap.size w w' := by
  obtain ⟨A, cA, rfl, _, _⟩ := h1.2.open_
  obtain ⟨D, cD, rfl, _, _⟩ := h2.2.open_
  have q0 := h1.1.cell 0
  have q1 := h1.1.cell 1
  have q2 := h1.1.cell 2
  have p0 := h2.1.cell 0
  have p1 := h2.1.cell 1
  have p2 := h2.1.cell 2
  simp only [List.getElem?_toArray, List.getElem?_cons_zero, List.getElem?_cons_succ] at q0 q1 q2 p0 p1 p2
  obtain ⟨a, ha⟩ : ∃ a, cmpL [x, y] [x', y'] = a := ⟨_, rfl⟩
  have HA := Lib.hid ha
  have hm2 : r = if a = 0 then cmpL xs ys else a := by
    rw [← hm, ← ha, cmpL_two]
    unfold cmpP
    simp only []
    by_cases e1 : cmpI x x' = 0
    · by_cases e2 : cmpI y y' = 0 <;> simp [e1, e2]
    · simp [e1]
  clear hm
  have HX := Lib.hid h1.2
  have HY := Lib.hid h2.2
  have G1 : Hid (Ints (((w.alloc (.cells #[.int .i64 x, .int .i64 y] 2)).alloc (.cells #[.int .i64 x', .int .i64 y'] 2)).drew) 0 (.slice (some ⟨w.heap.size, 0, none⟩) 2 2) [x, y]) := Lib.hid (Row.le (Row.alloc (Ints.two2 w x y) _) (Nat.zero_le _))
  have G2 : Hid (Ints (((w.alloc (.cells #[.int .i64 x, .int .i64 y] 2)).alloc (.cells #[.int .i64 x', .int .i64 y'] 2)).drew) 0 (.slice (some ⟨w.heap.size + 1, 0, none⟩) 2 2) [x', y']) := Lib.hid (by
    have := Ints.two2 (w.alloc (.cells #[.int .i64 x, .int .i64 y] 2)) x' y'
    rw [World.size_alloc] at this
    exact Row.le this (Nat.zero_le _))
  have G3 : Hid (Ints (((w.alloc (.cells #[.int .i64 x', .int .i64 y'] 2)).alloc (.cells #[.int .i64 x, .int .i64 y] 2)).drew) 0 (.slice (some ⟨w.heap.size, 0, none⟩) 2 2) [x', y']) := Lib.hid (Row.le (Row.alloc (Ints.two2 w x' y') _) (Nat.zero_le _))
  have G4 : Hid (Ints (((w.alloc (.cells #[.int .i64 x', .int .i64 y'] 2)).alloc (.cells #[.int .i64 x, .int .i64 y] 2)).drew) 0 (.slice (some ⟨w.heap.size + 1, 0, none⟩) 2 2) [x, y]) := Lib.hid (by
    have := Ints.two2 (w.alloc (.cells #[.int .i64 x', .int .i64 y'] 2)) x y
    rw [World.size_alloc] at this
    exact Row.le this (Nat.zero_le _))
  clear h1 h2
  by_cases h0 : a = 0
  · have t1 : (a != 0) = false := by simp [h0]
    rw [if_pos h0] at hm2
    have HL : Hid (cmpL xs ys = r) := Lib.hid hm2.symm
    clear h0 ha hm2
    go_enter Try.func73, Try.ntmps73
    go_wp2
    go_region_held3 (fun w' => Below w.heap.size w w' ∧ w'.cell? ⟨b1, 0, none⟩ = some (.int .i64 x) ∧ w'.cell? ⟨b1, 1, none⟩ = some (.int .i64 y) ∧ w'.cell? ⟨b2, 0, none⟩ = some (.int .i64 x') ∧ w'.cell? ⟨b2, 1, none⟩ = some (.int .i64 y') ∧
        w'.cell? ⟨b1, 2, none⟩ = some (.slice A xs.length cA) ∧ w'.cell? ⟨b2, 2, none⟩ = some (.slice D ys.length cD))
      (first | exact ⟨below_drewN _ _ 1, q0, q1, p0, p1, q2, p2⟩
             | (go_split_ands; exact ⟨bnext (by assumption) (Joins.below_alloc1 _ _), cell_al (by assumption), cell_al (by assumption), cell_al (by assumption), cell_al (by assumption), cell_al (by assumption), cell_al (by assumption)⟩)
             | (go_split_ands; have hz := bdrawn hd; exact ⟨bnext (by assumption) hz, cell_bl hz (by assumption), cell_bl hz (by assumption), cell_bl hz (by assumption), cell_bl hz (by assumption), cell_bl hz (by assumption), cell_bl hz (by assumption)⟩))
      (first | (go_at_call 117; (with_reducible refine (l06Numbers_any G1.out G2.out HA.out).mono ?_); rintro e w7 ⟨rfl, hd⟩) | (go_at_call 117; (with_reducible refine (l06Numbers_any G4.out G3.out HA.out).mono ?_); rintro e w7 ⟨rfl, hd⟩))
    all_goals
      go_split_ands
      have hx : Below w.heap.size w w7 := by assumption
      have r2 : w7.cell? ⟨b1, 2, none⟩ = some (.slice A xs.length cA) := by assumption
      have s2 : w7.cell? ⟨b2, 2, none⟩ = some (.slice D ys.length cD) := by assumption
      have HX2 := Lib.hid (Row.below HX.out hx)
      have HY2 := Lib.hid (Row.below HY.out hx)
      have HBX := Lib.hid hx
      clear hx q0 q1 q2 p0 p1 p2
      go_wp2
      go_quiet ((go_at_call 117; exact qdrawn (l06Numbers_any HX2.out HY2.out HL.out)))
      go_wp2
      go_ret
      exact ⟨rfl, HBX.out.trans (below_drewN _ _ _)⟩
  · have t1 : (a != 0) = true := by simp [h0]
    rw [if_neg h0] at hm2
    have HL : Hid (a = r) := Lib.hid hm2.symm
    clear h0 ha hm2
    go_enter Try.func73, Try.ntmps73
    go_wp2
    go_region_held3 (fun w' => Below w.heap.size w w' ∧ w'.cell? ⟨b1, 0, none⟩ = some (.int .i64 x) ∧ w'.cell? ⟨b1, 1, none⟩ = some (.int .i64 y) ∧ w'.cell? ⟨b2, 0, none⟩ = some (.int .i64 x') ∧ w'.cell? ⟨b2, 1, none⟩ = some (.int .i64 y') ∧
        w'.cell? ⟨b1, 2, none⟩ = some (.slice A xs.length cA) ∧ w'.cell? ⟨b2, 2, none⟩ = some (.slice D ys.length cD))
      (first | exact ⟨below_drewN _ _ 1, q0, q1, p0, p1, q2, p2⟩
             | (go_split_ands; exact ⟨bnext (by assumption) (Joins.below_alloc1 _ _), cell_al (by assumption), cell_al (by assumption), cell_al (by assumption), cell_al (by assumption), cell_al (by assumption), cell_al (by assumption)⟩)
             | (go_split_ands; have hz := bdrawn hd; exact ⟨bnext (by assumption) hz, cell_bl hz (by assumption), cell_bl hz (by assumption), cell_bl hz (by assumption), cell_bl hz (by assumption), cell_bl hz (by assumption), cell_bl hz (by assumption)⟩))
      (first | (go_at_call 117; (with_reducible refine (l06Numbers_any G1.out G2.out HA.out).mono ?_); rintro e w7 ⟨rfl, hd⟩) | (go_at_call 117; (with_reducible refine (l06Numbers_any G4.out G3.out HA.out).mono ?_); rintro e w7 ⟨rfl, hd⟩))
    all_goals
      go_split_ands
      have hx : Below w.heap.size w w7 := by assumption
      have HBX := Lib.hid hx
      clear hx q0 q1 q2 p0 p1 p2
      go_wp2
      go_ret
      exact ⟨ret_int HL.out, HBX.out⟩
set_option maxHeartbeats 1000000 in
theorem K_spec_ComparePanels {w : World} {lo hi lo' hi' : Nat} {x y x' y' r : Int} {v u : Value} {xs ys : List Int} (hx : IntsIn w lo hi v xs) (hy : IntsIn w lo' hi' u ys) (hm : cmpP ⟨x, y, xs⟩ ⟨x', y', ys⟩ = r) :
    Calls Try.prog 18 #[.agg #[.int .i64 x, .int .i64 y, v], .agg #[.int .i64 x', .int .i64 y', u]] w fun e w' => e = .returned (.int .i64 r) ∧ Below w.heap.size w w' := by
  obtain ⟨A, cA, rfl, _, _⟩ := hx.1.open_
  obtain ⟨D, cD, rfl, _, _⟩ := hy.1.open_
  have bl := Joins.below_alloc2 w (.cells #[.int .i64 x, .int .i64 y, .slice A xs.length cA] 30) (.cells #[.int .i64 x', .int .i64 y', .slice D ys.length cD] 30)
  have ba := (Box.new w 30 #[.int .i64 x, .int .i64 y, .slice A xs.length cA]).alloc (.cells #[.int .i64 x', .int .i64 y', .slice D ys.length cD] 30)
  have bb := Box.new (w.alloc (.cells #[.int .i64 x, .int .i64 y, .slice A xs.length cA] 30)) 30 #[.int .i64 x', .int .i64 y', .slice D ys.length cD]
  rw [World.size_alloc] at bb
  have hx1 := (hx.below bl).ints
  have hy1 := (hy.below bl).ints
  have HM := Lib.hid hm
  clear hm hx hy
  go_enter Try.func18, Try.ntmps18
  go_wp2_with fail
  refine (l06Compare_any ⟨ba, hx1⟩ ⟨bb, hy1⟩ HM.out).mono ?_
  rintro e w2 ⟨rfl, hb⟩
  go_wp2_with fail
  go_ret
  exact ⟨rfl, bnext bl hb⟩
end Go.Proofs.Ytihfdgnocdphcaa
