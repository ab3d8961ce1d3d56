/-
  New panels without breaks; where symmetries move kinds of breaks.
-/
import Derived.Test.YtihfdgnocdphcaaPts
import Derived.Test.YtihfdgnocdphcaaMapP
namespace Go.Proofs.Ytihfdgnocdphcaa
open Go.RowKit Knot

theorem Ok.nat {p : Pan} (h : Ok p) : inner p.W p.H = (p.B.length : Int) := h.len.symm
theorem inner_nat {W H : Int} (h : 1 ≤ W ∧ W ≤ 8) (h' : 1 ≤ H ∧ H ≤ 8) : ∃ n : Nat, inner W H = n ∧ n ≤ 200 := by
  have hb := inner_bd h.1 h.2 h'.1 h'.2
  refine ⟨(inner W H).toNat, ?_, ?_⟩ <;> unfold inner <;> omega
theorem IntsIn.at_store {w : World} {lo hi : Nat} {v : Value} {xs : List Int} (h : IntsIn w lo hi v xs) {p : Addr} (hp : p.block < lo) (u : Value) : IntsIn (w.setCell p u) lo hi v xs :=
  ⟨Row.setCell h.1 (fun g hg => by have := (Row.lt h.1 hg).1; omega) u, h.2.1, by have := h.2.2.1; simpa [World.setCell] using this, h.2.2.2⟩
set_option maxHeartbeats 2000000 in
theorem newPanel_any {w : World} {x y : Int} {n : Nat} (hx : 1 ≤ x ∧ x ≤ 8) (hy : 1 ≤ y ∧ y ≤ 8) (hn : inner x y = n) :
    Calls Try.prog 124 #[.int .i64 x, .int .i64 y] w fun e w' => ∃ g, e = .returned (.agg #[.int .i64 x, .int .i64 y, .slice (some ⟨g, 0, none⟩) n n]) ∧
      IntsIn w' w.heap.size w'.heap.size (.slice (some ⟨g, 0, none⟩) n n) (List.replicate n 0) ∧ Below w.heap.size w w' := by
  obtain ⟨i0, hi, hz0, hz1, hz2⟩ := info_parts info_int
  have hb := inner_bd hx.1 hx.2 hy.1 hy.2
  have hn2 : n ≤ 200 := by unfold inner at hn; omega
  have HN := Lib.hid hn
  have bl := Joins.below_alloc1 w (.cells #[.int .i64 0, .int .i64 0, .slice none 0 0] 30)
  have br := Box.new w 30 #[.int .i64 0, .int .i64 0, .slice none 0 0]
  have HX := Lib.hid hx
  have HY := Lib.hid hy
  clear hn hb hx hy
  go_enter Try.func124, Try.ntmps124
  go_wp2_with fail
  refine (innerPoints_any x y HX.out.1 HX.out.2 HY.out.1 HY.out.2 _).mono ?_
  rintro e w' ⟨rfl, rfl⟩
  rw [HN.out]
  go_wp2_with (at_make; refine wpList_make_full _ rfl _ _ 25 rfl (w.heap.size + 1) 2 i0 (.int .i64 0) 1 Try.underlying25 hi hz0 hz1 _ _ _ _ n rfl rfl (by omega) (by omega) (by rw [hz2]; omega) (by unfold maxLen; omega) (by rw [World.size_alloc]; omega) ?_)
  intro w1 hown hgrow
  have hb1 : Below (w.heap.size + 1) (w.alloc (.cells #[.int .i64 0, .int .i64 0, .slice none 0 0] 30)) w1 := (Below.refl _ _).grown hgrow (by rw [World.size_alloc]; omega) (by simp)
  have H1 : Ints w1 (w.heap.size + 1) (.slice (some ⟨w.heap.size + 1, 0, none⟩) n n) (List.replicate n 0) := by
    unfold Ints Row
    rw [List.length_replicate, List.map_replicate]
    simpa [Value.cells, toList_madeCells_one] using hown
  have I1 := IntsIn.ofInts H1 (by simp; omega)
  replace br : Box w1 w.heap.size 30 #[.int .i64 0, .int .i64 0, .slice none 0 0] := (hb1.block _ (by omega)).trans br
  replace bl := bl.trans (hb1.mono (by omega))
  clear hown hgrow H1 hb1 hi hz0 hz1 hz2
  have x0 := br.cell 0
  have x1 := br.cell 1
  have x2 := br.cell 2
  have y0 := br.free 0
  have y1 := br.free 1
  have y2 := br.free 2
  have xn := br.lt
  go_wp2
  refine bodyPost_ret (v := .agg #[.int .i64 x, .int .i64 y, .slice (some ⟨w.heap.size + 1, 0, none⟩) n n]) (by simp [results, Try.results124, go_sem, x0, x1, x2, y0, y1, y2, xn]) rfl ⟨w.heap.size + 1, rfl, ?_, ?_⟩
  · exact (((I1.at_store (p := ⟨w.heap.size, 0, none⟩) (by simp) _).at_store (p := ⟨w.heap.size, 1, none⟩) (by simp) _).at_store (p := ⟨w.heap.size, 2, none⟩) (by simp) _).wider (by omega) (by simp) (Nat.le_refl _)
  · exact ((bl.setCell (p := ⟨w.heap.size, 0, none⟩) (Nat.le_refl _) _).setCell (p := ⟨w.heap.size, 1, none⟩) (Nat.le_refl _) _).setCell (p := ⟨w.heap.size, 2, none⟩) (Nat.le_refl _) _
set_option maxHeartbeats 2000000 in
theorem l02New_any {w : World} {x y : Int} {n : Nat} (hx : 1 ≤ x ∧ x ≤ 8) (hy : 1 ≤ y ∧ y ≤ 8) (hn : inner x y = n) :
    Calls Try.prog 105 #[.int .i64 x, .int .i64 y] w fun e w' => ∃ g, e = .returned (.agg #[.int .i64 x, .int .i64 y, .slice (some ⟨g, 0, none⟩) n n]) ∧
      IntsIn w' w.heap.size w'.heap.size (.slice (some ⟨g, 0, none⟩) n n) (List.replicate n 0) ∧ Below w.heap.size w w' := by
  obtain ⟨i0, hi, hz0, hz1, hz2⟩ := info_parts info_int
  have hb := inner_bd hx.1 hx.2 hy.1 hy.2
  have hn2 : n ≤ 200 := by unfold inner at hn; omega
  have HN := Lib.hid hn
  have bl := Joins.below_alloc1 w (.cells #[.int .i64 0, .int .i64 0, .slice none 0 0] 30)
  have br := Box.new w 30 #[.int .i64 0, .int .i64 0, .slice none 0 0]
  have HX := Lib.hid hx
  have HY := Lib.hid hy
  clear hn hb hx hy
  go_enter Try.func105, Try.ntmps105
  go_wp2_with fail
  refine (l02Inner_any x y HX.out.1 HX.out.2 HY.out.1 HY.out.2 _).mono ?_
  rintro e w' ⟨rfl, rfl⟩
  rw [HN.out]
  go_wp2_with (at_make; refine wpList_make_full _ rfl _ _ 25 rfl (w.heap.size + 1) 2 i0 (.int .i64 0) 1 Try.underlying25 hi hz0 hz1 _ _ _ _ n rfl rfl (by omega) (by omega) (by rw [hz2]; omega) (by unfold maxLen; omega) (by rw [World.size_alloc]; omega) ?_)
  intro w1 hown hgrow
  have hb1 : Below (w.heap.size + 1) (w.alloc (.cells #[.int .i64 0, .int .i64 0, .slice none 0 0] 30)) w1 := (Below.refl _ _).grown hgrow (by rw [World.size_alloc]; omega) (by simp)
  have H1 : Ints w1 (w.heap.size + 1) (.slice (some ⟨w.heap.size + 1, 0, none⟩) n n) (List.replicate n 0) := by
    unfold Ints Row
    rw [List.length_replicate, List.map_replicate]
    simpa [Value.cells, toList_madeCells_one] using hown
  have I1 := IntsIn.ofInts H1 (by simp; omega)
  replace br : Box w1 w.heap.size 30 #[.int .i64 0, .int .i64 0, .slice none 0 0] := (hb1.block _ (by omega)).trans br
  replace bl := bl.trans (hb1.mono (by omega))
  clear hown hgrow H1 hb1 hi hz0 hz1 hz2
  have x0 := br.cell 0
  have x1 := br.cell 1
  have x2 := br.cell 2
  have y0 := br.free 0
  have y1 := br.free 1
  have y2 := br.free 2
  have xn := br.lt
  go_wp2
  refine bodyPost_ret (v := .agg #[.int .i64 x, .int .i64 y, .slice (some ⟨w.heap.size + 1, 0, none⟩) n n]) (by simp [results, Try.results105, go_sem, x0, x1, x2, y0, y1, y2, xn]) rfl ⟨w.heap.size + 1, rfl, ?_, ?_⟩
  · exact (((I1.at_store (p := ⟨w.heap.size, 0, none⟩) (by simp) _).at_store (p := ⟨w.heap.size, 1, none⟩) (by simp) _).at_store (p := ⟨w.heap.size, 2, none⟩) (by simp) _).wider (by omega) (by simp) (Nat.le_refl _)
  · exact ((bl.setCell (p := ⟨w.heap.size, 0, none⟩) (Nat.le_refl _) _).setCell (p := ⟨w.heap.size, 1, none⟩) (Nat.le_refl _) _).setCell (p := ⟨w.heap.size, 2, none⟩) (Nat.le_refl _) _
set_option maxHeartbeats 1000000 in
theorem mapBreak_any {w : World} {kd s r : Int} (hk : 0 ≤ kd ∧ kd ≤ 2) (hr : kindX kd s = r) :
    Calls Try.prog 94 #[.int .i64 kd, .int .i64 s] w fun e w' => e = .returned (.int .i64 r) ∧ w = w' := by
  obtain ⟨k0, k2⟩ := hk
  unfold kindX at hr
  by_cases h4 : 4 ≤ s
  · by_cases h0 : kd = 0
    · have t1 : (kd != 0) = false := by simp [h0]
      rw [if_neg (by omega)] at hr
      subst hr
      clear h0
      go_enter Try.func94, Try.ntmps94
      go_wp2
      go_ret
      exact ⟨rfl, rfl⟩
    · have t1 : (kd != 0) = true := by simp [h0]
      rw [if_pos ⟨h4, h0⟩] at hr
      subst hr
      clear h0
      go_enter Try.func94, Try.ntmps94
      go_wp2
      go_ret
      exact ⟨rfl, rfl⟩
  · rw [if_neg (by omega)] at hr
    subst hr
    go_enter Try.func94, Try.ntmps94
    go_wp2
    go_ret
    exact ⟨rfl, rfl⟩
set_option maxHeartbeats 4000000 in
theorem l06Kind_any {w : World} {kd s r : Int} (hk : 0 ≤ kd ∧ kd ≤ 2) (hs : symOk s = true) (hr : kindX kd s = r) :
    Calls Try.prog 90 #[.int .i64 kd, .int .i64 s] w fun e w' => e = .returned (.int .i64 r) ∧ w = w' := by
  obtain ⟨k0, k2⟩ := hk
  obtain ⟨s0, s7⟩ := symOk_bd hs
  clear hs
  unfold kindX at hr
  by_cases h0 : kd = 0
  · have t1 : (kd != 0) = false := by simp [h0]
    rw [if_neg (by omega)] at hr
    subst hr
    clear h0
    rcases eight s0 s7 with rfl | rfl | rfl | rfl | rfl | rfl | rfl | rfl
    all_goals
      clear s0 s7
      go_enter Try.func90, Try.ntmps90
      go_wp2
      go_ret
      exact ⟨rfl, rfl⟩
  · have t1 : (kd != 0) = true := by simp [h0]
    rcases eight s0 s7 with rfl | rfl | rfl | rfl | rfl | rfl | rfl | rfl
    all_goals
      simp [h0] at hr
      have HR := Lib.hid hr
      clear s0 s7 hr h0
      go_enter Try.func90, Try.ntmps90
      go_wp2
      go_ret
      exact ⟨ret_int HR.out, rfl⟩
end Go.Proofs.Ytihfdgnocdphcaa
