/-
  Inner points and their numbers, as the program and the reference reckon them.
-/
import Derived.Test.YtihfdgnocdphcaaVal
import Derived.Test.YtihfdgnocdphcaaPlAllD
import Derived.Deep.RegionHeld3
namespace Go.Proofs.Ytihfdgnocdphcaa
open Go.RowKit Knot

theorem prod_bd {a b m n : Int} (h0 : 0 ≤ a) (h1 : a ≤ m) (h2 : 0 ≤ b) (h3 : b ≤ n) (h4 : 0 ≤ m) : 0 ≤ a * b ∧ a * b ≤ m * n :=
  ⟨Int.mul_nonneg h0 h2, Int.mul_le_mul h1 h3 h2 h4⟩

set_option maxHeartbeats 2000000 in
theorem number_any {w : World} {W H x y : Int} {A : Option Addr} {n c : Nat} {r : Int} (hW : 1 ≤ W ∧ W ≤ 8) (hx : 1 ≤ x ∧ x ≤ 16) (hy : 1 ≤ y ∧ y ≤ 16) (hp : (x + y) % 2 = 1) (hr : rowOf W y + (x - 1) / 2 = r) :
    Calls Try.prog 93 #[.agg #[.int .i64 W, .int .i64 H, .slice A n c], .agg #[.int .i64 x, .int .i64 y]] w fun e w' => e = .returned (.int .i64 r) ∧ Below w.heap.size w w' := by
  have bl := Joins.below_alloc2 w (.cells #[.int .i64 W, .int .i64 H, .slice A n c] 30) (.cells #[.int .i64 x, .int .i64 y] 36)
  have ba := (Box.new w 30 #[.int .i64 W, .int .i64 H, .slice A n c]).alloc (.cells #[.int .i64 x, .int .i64 y] 36)
  have bb := Box.new (w.alloc (.cells #[.int .i64 W, .int .i64 H, .slice A n c] 30)) 36 #[.int .i64 x, .int .i64 y]
  rw [World.size_alloc] at bb
  obtain ⟨W1, W8⟩ := hW
  obtain ⟨x1, x2⟩ := hx
  obtain ⟨y1, y2⟩ := hy
  obtain ⟨m0, m1⟩ := prod_bd (a := y / 2) (b := W - 1) (m := 8) (n := 7) (by omega) (by omega) (by omega) (by omega) (by omega)
  obtain ⟨m2, m3⟩ := prod_bd (a := (y - 1) / 2) (b := W) (m := 8) (n := 8) (by omega) (by omega) (by omega) (by omega) (by omega)
  have HR := Lib.hid hr
  have HP := Lib.hid hp
  have q0 := ba.cell 0
  have p0 := bb.cell 0
  have p1 := bb.cell 1
  have n0 := ba.lt
  have n1 := bb.lt
  clear hr hp ba bb
  by_cases ho : y % 2 = 1
  · have t1 : (y % 2 == 1) = true := by simp [ho]
    have HO := Lib.hid ho
    clear ho
    go_enter Try.func93, Try.ntmps93
    go_wp2
    go_ret
    exact ⟨ret_int (by have := HR.out; have := HO.out; have := HP.out; unfold rowOf at *; omega), bl⟩
  · have t1 : (y % 2 == 1) = false := by simp [ho]
    have HO := Lib.hid ho
    clear ho
    go_enter Try.func93, Try.ntmps93
    go_wp2
    go_ret
    exact ⟨ret_int (by have := HR.out; have := HO.out; have := HP.out; unfold rowOf at *; omega), bl⟩
set_option maxHeartbeats 2000000 in
theorem l02Row_any {w : World} {b : Nat} {W H y : Int} {v : Value} (ba : Box w b 30 #[.int .i64 W, .int .i64 H, v]) (hW : 1 ≤ W ∧ W ≤ 8) (hy : 1 ≤ y ∧ y ≤ 16) :
    Calls Try.prog 138 #[.pointer (some ⟨b, 0, none⟩), .int .i64 y] w fun e w' => e = .returned (.int .i64 (rowOf W y)) ∧ w = w' := by
  obtain ⟨W1, W8⟩ := hW
  obtain ⟨y1, y2⟩ := hy
  have q0 := ba.cell 0
  have q1 := ba.cell 1
  have q2 := ba.cell 2
  have n0 := ba.lt
  clear ba
  have r1 := row_one W1 W8
  have HR := Lib.hid r1
  clear r1
  go_enter Try.func138, Try.ntmps138
  go_wp2
  go_loop [5, 6] (fun n k => ∃ j : Int, 1 ≤ j ∧ j ≤ y ∧ n = .int .i64 (rowOf W j) ∧ k = .int .i64 j) (fun _ k => (y - intOf k).toNat)
  case atStart => exact ⟨1, by omega, y1, by rw [HR.out], rfl⟩
  case round =>
    obtain ⟨j, j1, j2, rfl, rfl⟩ := hrel
    obtain ⟨b0, b1⟩ := row_bd W1 W8 j1 (by omega : j ≤ 16)
    by_cases hlt : j < y
    · have hs := row_succ W1 W8 j1
      have HS := Lib.hid hs
      clear hs
      by_cases ho : j % 2 = 1
      · have t1 : (j % 2 == 1) = true := by simp [ho]
        have HO := Lib.hid ho
        clear ho
        go_wp2
        go_round
        case rel => exact ⟨j + 1, by omega, by omega, by rw [HS.out, HO.out], rfl⟩
        case measure => simp [intOf]; omega
      · have t1 : (j % 2 == 1) = false := by simp [ho]
        have HO : Hid (j % 2 = 0) := Lib.hid (by omega)
        clear ho
        go_wp2
        go_round
        case rel => exact ⟨j + 1, by omega, by omega, by rw [HS.out, HO.out]; simp, rfl⟩
        case measure => simp [intOf]; omega
    · have e : j = y := by omega
      subst e
      go_wp2
      go_ret
      exact ⟨rfl, rfl⟩
set_option maxHeartbeats 2000000 in
theorem l02Number_any {w : World} {b : Nat} {W H x y r : Int} {v : Value} (ba : Box w b 30 #[.int .i64 W, .int .i64 H, v]) (hW : 1 ≤ W ∧ W ≤ 8) (hx : 1 ≤ x ∧ x ≤ 16) (hy : 1 ≤ y ∧ y ≤ 16) (hr : rowOf W y + (x - 1) / 2 = r) :
    Calls Try.prog 123 #[.pointer (some ⟨b, 0, none⟩), .agg #[.int .i64 x, .int .i64 y]] w fun e w' => e = .returned (.int .i64 r) ∧ Below w.heap.size w w' := by
  have bl := Joins.below_alloc1 w (.cells #[.int .i64 x, .int .i64 y] 36)
  replace ba := ba.alloc (.cells #[.int .i64 x, .int .i64 y] 36)
  have bb := Box.new w 36 #[.int .i64 x, .int .i64 y]
  obtain ⟨b0, b1⟩ := row_bd hW.1 hW.2 hy.1 hy.2
  have HY := Lib.hid hy
  have HW := Lib.hid hW
  have HR := Lib.hid hr
  obtain ⟨x1, x2⟩ := hx
  clear hr hy hW
  go_enter Try.func123, Try.ntmps123
  go_wp2
  generalize (w.alloc (.cells #[.int .i64 x, .int .i64 y] 36)) = V at ba bb bl ⊢
  have p0 := bb.cell 0
  have p1 := bb.cell 1
  simp only [List.getElem?_toArray, List.getElem?_cons_zero, List.getElem?_cons_succ] at p0 p1
  clear bb
  go_quiet ((go_at_call 138; exact qsame (l02Row_any (Box.drewN ba _) HW.out HY.out)))
  go_wp2
  go_ret
  exact ⟨ret_int HR.out, bl.trans (below_drewN _ _ _)⟩
set_option maxHeartbeats 4000000 in
theorem l02Point_any {w : World} {b : Nat} {W H k : Int} {v : Value} (ba : Box w b 30 #[.int .i64 W, .int .i64 H, v]) (hW : 1 ≤ W ∧ W ≤ 8) (hH : 1 ≤ H ∧ H ≤ 8) (k0 : 0 ≤ k) (k1 : k < inner W H) :
    Calls Try.prog 122 #[.pointer (some ⟨b, 0, none⟩), .int .i64 k] w fun e w' => e = .returned (.agg #[.int .i64 (ptX W k), .int .i64 (ptY W k)]) ∧ Below w.heap.size w w' := by
  obtain ⟨W1, W8⟩ := hW
  obtain ⟨H1, H8⟩ := hH
  have bl := Joins.below_alloc1 w (.cells #[.int .i64 0, .int .i64 0] 36)
  have hbl := ba.lt
  have bb := ba.alloc (.cells #[.int .i64 0, .int .i64 0] 36)
  obtain ⟨a1, a2, a3, a4, _⟩ := pt_in W1 W8 k0 k1
  obtain ⟨r1, r2, r3, r4⟩ := row_of_pt W1 W8 k0
  have k2 : k ≤ 200 := by
    have := inner_bd W1 W8 H1 H8
    unfold inner at k1
    omega
  have HX := Lib.hid r3
  have HW : Hid (1 ≤ W ∧ W ≤ 8) := Lib.hid ⟨W1, W8⟩
  have q1 := bb.cell 1
  have q0 := bb.cell 0
  have n0 := bb.lt
  clear r3 ba
  go_enter Try.func122, Try.ntmps122
  go_wp2
  go_loop [5] (fun t => ∃ y : Int, t = .int .i64 y ∧ 1 ≤ y ∧ y ≤ ptY W k) (fun t => (ptY W k - intOf t).toNat)
  case atStart => exact ⟨1, rfl, by omega, r4⟩
  case round =>
    obtain ⟨y, rfl, y1, y2⟩ := hrel
    obtain ⟨c0, c1⟩ := row_bd W1 W8 y1 (by omega : y ≤ 16)
    by_cases hlt : y < ptY W k
    · have h1 : y + 1 < 2 * H := by omega
      have h2 : rowOf W (y + 1) ≤ k := Int.le_trans (row_le W1 W8 (by omega) (by omega)) r1
      go_wp2_with (go_at_call 138; refine (l02Row_any bb HW.out (by omega)).mono ?_; rintro e w' ⟨rfl, rfl⟩)
      go_round
      case rel => exact ⟨y + 1, rfl, by omega, by omega⟩
      case measure => simp [intOf]; omega
    · have e : y = ptY W k := by omega
      subst e
      by_cases h1 : ptY W k + 1 < 2 * H
      · have h2 : ¬ (rowOf W (ptY W k + 1) ≤ k) := by omega
        go_wp2_with (go_at_call 138; refine (l02Row_any bb HW.out (by omega)).mono ?_; rintro e w' ⟨rfl, rfl⟩)
        refine bodyPost_ret (v := .agg #[.int .i64 (ptX W k), .int .i64 (ptY W k)]) (by simp [results, Try.results122, go_sem, HX.out]) rfl ⟨rfl, ?_⟩
        exact Joins.below_alloc1 _ _
      · go_wp2_with (go_at_call 138; refine (l02Row_any bb HW.out (by omega)).mono ?_; rintro e w' ⟨rfl, rfl⟩)
        refine bodyPost_ret (v := .agg #[.int .i64 (ptX W k), .int .i64 (ptY W k)]) (by simp [results, Try.results122, go_sem, HX.out]) rfl ⟨rfl, ?_⟩
        exact Joins.below_alloc1 _ _
end Go.Proofs.Ytihfdgnocdphcaa
