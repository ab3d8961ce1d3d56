/-
  Walks in panels without breaks: PlainWalk and PlainReturn, by the program and by the reference.
-/
import Derived.Test.YtcjjkiajgkicnaaVWalk
import Derived.Test.YtcjjkiajgkicnaaRect2
namespace Go.Proofs.Ytcjjkiajgkicnaa
open Go.RowKit Knot

open Classical in
/-- The code of a size and a walker. -/
noncomputable def pcM (W H : Int) (k : Wk) : Int := if num6 W && num6 H then if OkWk W H k.X k.Y k.dx k.dy then 0 else 1 else 2
theorem pcM_bad {W H : Int} {k : Wk} (h : (num6 W && num6 H) = false) : pcM W H k = 2 := by unfold pcM; rw [h]; rfl
theorem pcM_no {W H : Int} {k : Wk} (h : (num6 W && num6 H) = true) (h2 : ¬ OkWk W H k.X k.Y k.dx k.dy) : pcM W H k = 1 := by unfold pcM; rw [h]; simp [h2]
theorem pcM_ok {W H : Int} {k : Wk} (h : (num6 W && num6 H) = true) (h2 : OkWk W H k.X k.Y k.dx k.dy) : pcM W H k = 0 := by unfold pcM; rw [h]; simp [h2]
theorem pcM_zero {W H : Int} {k : Wk} (h : pcM W H k = 0) : num6 W = true ∧ num6 H = true ∧ OkWk W H k.X k.Y k.dx k.dy := by
  unfold pcM at h
  by_cases h1 : (num6 W && num6 H) = true
  · rw [h1] at h
    simp at h1 h
    exact ⟨h1.1, h1.2, h⟩
  · simp [h1] at h
/-- To and fro. -/
def swM (x d side steps : Int) : Int × Int :=
  if ((if d < 0 then 2 * side - x else x) + steps) % (2 * side) < side then (((if d < 0 then 2 * side - x else x) + steps) % (2 * side), 1)
  else (2 * side - ((if d < 0 then 2 * side - x else x) + steps) % (2 * side), -1)
noncomputable def pwM (W H : Int) (k : Wk) (s : Int) : Int × Int × Int × Int × Int :=
  if pcM W H k = 0 then if 0 ≤ s ∧ s ≤ 1000000000000 then ((swM k.X k.dx (2 * W) s).1, (swM k.Y k.dy (2 * H) s).1, (swM k.X k.dx (2 * W) s).2, (swM k.Y k.dy (2 * H) s).2, 0) else (0, 0, 0, 0, 2) else (0, 0, 0, 0, pcM W H k)
noncomputable def prM (W H : Int) (k : Wk) : Int × Int := if pcM W H k = 0 then (4 * lcmI W H, 0) else (0, pcM W H k)
theorem pcM_le (W H : Int) (k : Wk) : 0 ≤ pcM W H k ∧ pcM W H k ≤ 2 := by
  unfold pcM
  split
  · split <;> omega
  · omega

set_option maxHeartbeats 2000000 in
theorem plainCode_any {w : World} {W H x y dx dy r : Int} (hr : pcM W H ⟨x, y, dx, dy⟩ = r) :
    Calls Try.prog 58 #[.int .i64 W, .int .i64 H, .agg #[.int .i64 x, .int .i64 y, .int .i64 dx, .int .i64 dy]] w fun e w' => e = .returned (.int .i64 r) ∧ Below w.heap.size w w' := by
  have bl := Joins.below_alloc1 w (.cells #[.int .i64 x, .int .i64 y, .int .i64 dx, .int .i64 dy] 38)
  have bb := Box.new w 38 #[.int .i64 x, .int .i64 y, .int .i64 dx, .int .i64 dy]
  have p0 := bb.cell 0
  have p1 := bb.cell 1
  have p2 := bb.cell 2
  have p3 := bb.cell 3
  have n1 := bb.lt
  clear bb
  cases hW : num6 W
  · rw [pcM_bad (by simp [hW])] at hr
    subst hr
    have HW := Lib.hid hW
    clear hW
    go_enter Try.func58, Try.ntmps58
    go_wp2_with (go_at_call 51; (with_reducible refine (validNumber_any W _ HW.out _).mono ?_); rintro e w' ⟨rfl, rfl⟩)
    go_ret
    exact ⟨rfl, bl⟩
  have HW := Lib.hid hW
  cases hH : num6 H
  · rw [pcM_bad (by simp [hH])] at hr
    subst hr
    have HH := Lib.hid hH
    clear hW hH
    go_enter Try.func58, Try.ntmps58
    go_wp2_with (go_at_call 51; first | ((with_reducible refine (validNumber_any W _ HW.out _).mono ?_); rintro e w' ⟨rfl, rfl⟩) | ((with_reducible refine (validNumber_any H _ HH.out _).mono ?_); rintro e w' ⟨rfl, rfl⟩))
    go_ret
    exact ⟨rfl, bl⟩
  have HH := Lib.hid hH
  have bW := num6_bd hW
  have bH := num6_bd hH
  have BW : Hid (0 ≤ W ∧ W ≤ 1000000) := Lib.hid ⟨by omega, bW.2⟩
  have BH : Hid (0 ≤ H ∧ H ≤ 1000000) := Lib.hid ⟨by omega, bH.2⟩
  by_cases ho : OkWk W H x y dx dy
  · rw [pcM_ok (by simp [hW, hH]) ho] at hr
    subst hr
    have HO := Lib.hid ho
    clear hW hH ho bW bH
    go_enter Try.func58, Try.ntmps58
    go_wp2_with (first | (go_at_call 51; first | ((with_reducible refine (validNumber_any W _ HW.out _).mono ?_); rintro e w' ⟨rfl, rfl⟩) | ((with_reducible refine (validNumber_any H _ HH.out _).mono ?_); rintro e w' ⟨rfl, rfl⟩)) | (go_at_call 81; refine (validWalker_any BW.out BH.out (yes_iff HO.out)).mono ?_; rintro e w2 ⟨rfl, hb⟩))
    go_ret
    exact ⟨rfl, bnext bl hb⟩
  · rw [pcM_no (by simp [hW, hH]) ho] at hr
    subst hr
    have HO := Lib.hid ho
    clear hW hH ho bW bH
    go_enter Try.func58, Try.ntmps58
    go_wp2_with (first | (go_at_call 51; first | ((with_reducible refine (validNumber_any W _ HW.out _).mono ?_); rintro e w' ⟨rfl, rfl⟩) | ((with_reducible refine (validNumber_any H _ HH.out _).mono ?_); rintro e w' ⟨rfl, rfl⟩)) | (go_at_call 81; refine (validWalker_any BW.out BH.out (no_iff HO.out)).mono ?_; rintro e w2 ⟨rfl, hb⟩))
    go_ret
    exact ⟨rfl, bnext bl hb⟩
set_option maxHeartbeats 2000000 in
theorem l07Walker_any {w : World} {W H x y dx dy r : Int} (hr : pcM W H ⟨x, y, dx, dy⟩ = r) :
    Calls Try.prog 56 #[.int .i64 W, .int .i64 H, .agg #[.int .i64 x, .int .i64 y, .int .i64 dx, .int .i64 dy]] w fun e w' => e = .returned (.int .i64 r) ∧ Below w.heap.size w w' := by
  have bl := Joins.below_alloc1 w (.cells #[.int .i64 x, .int .i64 y, .int .i64 dx, .int .i64 dy] 38)
  have bb := Box.new w 38 #[.int .i64 x, .int .i64 y, .int .i64 dx, .int .i64 dy]
  cases hW : num6 W
  · rw [pcM_bad (by simp [hW])] at hr
    subst hr
    have HW := Lib.hid hW
    clear hW bb
    go_enter Try.func56, Try.ntmps56
    go_wp2_with (go_at_call 49; (with_reducible refine (l07Size_any W _ HW.out _).mono ?_); rintro e w' ⟨rfl, rfl⟩)
    go_ret
    exact ⟨rfl, bl⟩
  have HW := Lib.hid hW
  cases hH : num6 H
  · rw [pcM_bad (by simp [hH])] at hr
    subst hr
    have HH := Lib.hid hH
    clear hW hH bb
    go_enter Try.func56, Try.ntmps56
    go_wp2_with (go_at_call 49; first | ((with_reducible refine (l07Size_any W _ HW.out _).mono ?_); rintro e w' ⟨rfl, rfl⟩) | ((with_reducible refine (l07Size_any H _ HH.out _).mono ?_); rintro e w' ⟨rfl, rfl⟩))
    go_ret
    exact ⟨rfl, bl⟩
  have HH := Lib.hid hH
  have bW := num6_bd hW
  have bH := num6_bd hH
  have BW : Hid (0 ≤ W ∧ W ≤ 1000000) := Lib.hid ⟨by omega, bW.2⟩
  have BH : Hid (0 ≤ H ∧ H ≤ 1000000) := Lib.hid ⟨by omega, bH.2⟩
  replace bl := bnext bl (Joins.below_alloc1 _ (.cells #[.int .i64 W, .int .i64 H, .slice none 0 0] 45))
  replace bb := bb.alloc (.cells #[.int .i64 W, .int .i64 H, .slice none 0 0] 45)
  have ba := Box.new (w.alloc (.cells #[.int .i64 x, .int .i64 y, .int .i64 dx, .int .i64 dy] 38)) 45 #[.int .i64 W, .int .i64 H, .slice none 0 0]
  rw [World.size_alloc] at ba
  have p0 := bb.cell 0
  have p1 := bb.cell 1
  have p2 := bb.cell 2
  have p3 := bb.cell 3
  have n1 := bb.lt
  clear bb
  by_cases ho : OkWk W H x y dx dy
  · rw [pcM_ok (by simp [hW, hH]) ho] at hr
    subst hr
    have HO := Lib.hid ho
    clear hW hH ho bW bH
    go_enter Try.func56, Try.ntmps56
    go_wp2_with (first | (go_at_call 49; first | ((with_reducible refine (l07Size_any W _ HW.out _).mono ?_); rintro e w' ⟨rfl, rfl⟩) | ((with_reducible refine (l07Size_any H _ HH.out _).mono ?_); rintro e w' ⟨rfl, rfl⟩)) | (go_at_call 80; refine (l03Ok_any ba BW.out BH.out (yes_iff HO.out)).mono ?_; rintro e w2 ⟨rfl, hb⟩))
    go_ret
    exact ⟨rfl, bnext bl hb⟩
  · rw [pcM_no (by simp [hW, hH]) ho] at hr
    subst hr
    have HO := Lib.hid ho
    clear hW hH ho bW bH
    go_enter Try.func56, Try.ntmps56
    go_wp2_with (first | (go_at_call 49; first | ((with_reducible refine (l07Size_any W _ HW.out _).mono ?_); rintro e w' ⟨rfl, rfl⟩) | ((with_reducible refine (l07Size_any H _ HH.out _).mono ?_); rintro e w' ⟨rfl, rfl⟩)) | (go_at_call 80; refine (l03Ok_any ba BW.out BH.out (no_iff HO.out)).mono ?_; rintro e w2 ⟨rfl, hb⟩))
    go_ret
    exact ⟨rfl, bnext bl hb⟩
theorem ret_tup2 {k : IntKind} {a b c d : Int} (h : a = b) (h' : c = d) : Ending.returned (.tuple #[.int k a, .int k c]) = .returned (.tuple #[.int k b, .int k d]) := by rw [h, h']
set_option maxHeartbeats 2000000 in
theorem swing_any {w : World} {x d side steps r0 r1 : Int} (hs : 1 ≤ side ∧ side ≤ 2000000) (hx : 0 ≤ x ∧ x ≤ side) (ht : 0 ≤ steps ∧ steps ≤ 10000000000000) (hm : swM x d side steps = (r0, r1)) :
    Calls Try.prog 66 #[.int .i64 x, .int .i64 d, .int .i64 side, .int .i64 steps] w fun e w' => e = .returned (.tuple #[.int .i64 r0, .int .i64 r1]) ∧ w = w' := by
  obtain ⟨s1, s2⟩ := hs
  obtain ⟨x1, x2⟩ := hx
  obtain ⟨t1, t2⟩ := ht
  unfold swM at hm
  by_cases hd : d < 0
  all_goals
    simp only [hd, if_true, if_false] at hm
    first
      | (by_cases hq : (2 * side - x + steps) % (2 * side) < side
         all_goals
           simp only [hq, if_true, if_false, Prod.mk.injEq] at hm
           have HM := Lib.hid hm
           clear hm
           have hn0 : 0 ≤ (2 * side - x + steps) % (2 * side) := Int.emod_nonneg _ (by omega)
           have hn1 : (2 * side - x + steps) % (2 * side) < 2 * side := Int.emod_lt_of_pos _ (by omega)
           have hn2 : 0 ≤ 2 * side - x := by omega
           have hn3 : 0 ≤ 2 * side - x + steps := by omega
           go_enter Try.func66, Try.ntmps66
           go_wp2
           go_ret2
           exact ⟨ret_tup2 HM.out.1 HM.out.2, rfl⟩)
      | (by_cases hq : (x + steps) % (2 * side) < side
         all_goals
           simp only [hq, if_true, if_false, Prod.mk.injEq] at hm
           have HM := Lib.hid hm
           clear hm
           have hn0 : 0 ≤ (x + steps) % (2 * side) := Int.emod_nonneg _ (by omega)
           have hn1 : (x + steps) % (2 * side) < 2 * side := Int.emod_lt_of_pos _ (by omega)
           have hn3 : 0 ≤ x + steps := by omega
           go_enter Try.func66, Try.ntmps66
           go_wp2
           go_ret2
           exact ⟨ret_tup2 HM.out.1 HM.out.2, rfl⟩)
set_option maxHeartbeats 2000000 in
theorem l07Move_any {w : World} {x d n steps r0 r1 : Int} (hs : 1 ≤ n ∧ n ≤ 1000000) (hx : 0 ≤ x ∧ x ≤ 2 * n) (ht : 0 ≤ steps ∧ steps ≤ 10000000000000) (hm : swM x d (2 * n) steps = (r0, r1)) :
    Calls Try.prog 65 #[.int .i64 x, .int .i64 d, .int .i64 n, .int .i64 steps] w fun e w' => e = .returned (.tuple #[.int .i64 r0, .int .i64 r1]) ∧ w = w' := by
  obtain ⟨s1, s2⟩ := hs
  obtain ⟨x1, x2⟩ := hx
  obtain ⟨t1, t2⟩ := ht
  have e4 : 2 * (2 * n) = 4 * n := by omega
  unfold swM at hm
  rw [e4] at hm
  clear e4
  by_cases hd : d < 0
  all_goals
    simp only [hd, if_true, if_false] at hm
    first
      | (by_cases hq : (4 * n - x + steps) % (4 * n) < 2 * n
         all_goals
           simp only [hq, if_true, if_false, Prod.mk.injEq] at hm
           have HM := Lib.hid hm
           clear hm
           have hn0 : 0 ≤ (4 * n - x + steps) % (4 * n) := Int.emod_nonneg _ (by omega)
           have hn1 : (4 * n - x + steps) % (4 * n) < 4 * n := Int.emod_lt_of_pos _ (by omega)
           have hn2 : 0 ≤ 4 * n - x := by omega
           have hn3 : 0 ≤ 4 * n - x + steps := by omega
           go_enter Try.func65, Try.ntmps65
           go_wp2
           go_ret2
           exact ⟨ret_tup2 HM.out.1 HM.out.2, rfl⟩)
      | (by_cases hq : (x + steps) % (4 * n) < 2 * n
         all_goals
           simp only [hq, if_true, if_false, Prod.mk.injEq] at hm
           have HM := Lib.hid hm
           clear hm
           have hn0 : 0 ≤ (x + steps) % (4 * n) := Int.emod_nonneg _ (by omega)
           have hn1 : (x + steps) % (4 * n) < 4 * n := Int.emod_lt_of_pos _ (by omega)
           have hn3 : 0 ≤ x + steps := by omega
           go_enter Try.func65, Try.ntmps65
           go_wp2
           go_ret2
           exact ⟨ret_tup2 HM.out.1 HM.out.2, rfl⟩)
theorem swM_bd {x d side s : Int} (h : 1 ≤ side) : 0 ≤ (swM x d side s).1 ∧ (swM x d side s).1 ≤ side ∧ ((swM x d side s).2 = 1 ∨ (swM x d side s).2 = -1) := by
  unfold swM
  have h0 := Int.emod_nonneg ((if d < 0 then 2 * side - x else x) + s) (show 2 * side ≠ 0 by omega)
  have h1 := Int.emod_lt_of_pos ((if d < 0 then 2 * side - x else x) + s) (show 0 < 2 * side by omega)
  generalize ((if d < 0 then 2 * side - x else x) + s) % (2 * side) = q at *
  split
  · exact ⟨by show 0 ≤ q; omega, by show q ≤ side; omega, .inl rfl⟩
  · exact ⟨by show 0 ≤ 2 * side - q; omega, by show 2 * side - q ≤ side; omega, .inr rfl⟩
theorem OkWk.bd {W H x y dx dy : Int} (h : OkWk W H x y dx dy) : 0 ≤ x ∧ x ≤ 2 * W ∧ 0 ≤ y ∧ y ≤ 2 * H := ⟨h.2.2.1.1, h.2.2.1.2.1, h.2.2.1.2.2.1, h.2.2.1.2.2.2.1⟩
set_option maxHeartbeats 4000000 in
theorem K_impl_PlainWalk {w : World} {W H x y dx dy s px py pdx pdy r : Int} (hm : pwM W H ⟨x, y, dx, dy⟩ s = (px, py, pdx, pdy, r)) :
    Calls Try.prog 39 #[.int .i64 W, .int .i64 H, .agg #[.int .i64 x, .int .i64 y, .int .i64 dx, .int .i64 dy], .int .i64 s] w fun e w' =>
      e = .returned (.tuple #[.agg #[.int .i64 px, .int .i64 py, .int .i64 pdx, .int .i64 pdy], .int .i64 r]) ∧ Below w.heap.size w w' := by
  have bl := Joins.below_alloc2 w (.cells #[.int .i64 x, .int .i64 y, .int .i64 dx, .int .i64 dy] 38) (.cells #[.int .i64 0, .int .i64 0, .int .i64 0, .int .i64 0] 38)
  have bb := (Box.new w 38 #[.int .i64 x, .int .i64 y, .int .i64 dx, .int .i64 dy]).alloc (.cells #[.int .i64 0, .int .i64 0, .int .i64 0, .int .i64 0] 38)
  have br := Box.new (w.alloc (.cells #[.int .i64 x, .int .i64 y, .int .i64 dx, .int .i64 dy] 38)) 38 #[.int .i64 0, .int .i64 0, .int .i64 0, .int .i64 0]
  rw [World.size_alloc] at br
  obtain ⟨c, hc⟩ : ∃ c, pcM W H ⟨x, y, dx, dy⟩ = c := ⟨_, rfl⟩
  have HC := Lib.hid hc
  have p0 := bb.cell 0
  have p1 := bb.cell 1
  have p2 := bb.cell 2
  have p3 := bb.cell 3
  have pn := bb.lt
  by_cases h0 : c = 0
  rotate_left
  · have hne : (c != 0) = true := by simp [h0]
    have hne2 : (c == 0) = false := by simp [h0]
    obtain ⟨rfl, rfl, rfl, rfl, rfl⟩ : 0 = px ∧ 0 = py ∧ 0 = pdx ∧ 0 = pdy ∧ c = r := by simpa [pwM, hc, h0] using hm
    clear hm hc h0
    go_enter Try.func39, Try.ntmps39
    go_wp2_with fail
    refine (plainCode_any HC.out).mono ?_
    rintro e w2 ⟨rfl, hb⟩
    replace br := br.below hb
    replace bl := bnext bl hb
    clear p0 p1 p2 p3 pn hb
    have x0 := br.cell 0
    have y0 := br.free 0
    have x1 := br.cell 1
    have y1 := br.free 1
    have x2 := br.cell 2
    have y2 := br.free 2
    have x3 := br.cell 3
    have y3 := br.free 3
    have xn := br.lt
    go_wp2
    refine bodyPost_ret (v := .tuple #[.agg #[.int .i64 0, .int .i64 0, .int .i64 0, .int .i64 0], .int .i64 c]) (by simp [results, Try.results39, go_sem, x0, x1, x2, x3, y0, y1, y2, y3, xn]) rfl ⟨rfl, ?_⟩
    exact (((bl.setCell (p := ⟨w.heap.size + 1, 0, none⟩) (by simp) _).setCell (p := ⟨w.heap.size + 1, 1, none⟩) (by simp) _).setCell (p := ⟨w.heap.size + 1, 2, none⟩) (by simp) _).setCell (p := ⟨w.heap.size + 1, 3, none⟩) (by simp) _
  subst h0
  obtain ⟨hW, hH, ho⟩ := pcM_zero hc
  have bW := num6_bd hW
  have bH := num6_bd hH
  obtain ⟨X0, X1, Y0, Y1⟩ := ho.bd
  clear hW hH ho
  by_cases hs : 0 ≤ s ∧ s ≤ 1000000000000
  rotate_left
  · obtain ⟨rfl, rfl, rfl, rfl, rfl⟩ : 0 = px ∧ 0 = py ∧ 0 = pdx ∧ 0 = pdy ∧ 2 = r := by simpa [pwM, hc, hs] using hm
    have HS := Lib.hid (inR_f hs)
    clear hm hc hs bW bH X0 X1 Y0 Y1
    go_enter Try.func39, Try.ntmps39
    go_wp2_with fail
    refine (plainCode_any HC.out).mono ?_
    rintro e w2 ⟨rfl, hb⟩
    replace br := br.below hb
    replace bl := bnext bl hb
    clear p0 p1 p2 p3 pn hb
    have x0 := br.cell 0
    have y0 := br.free 0
    have x1 := br.cell 1
    have y1 := br.free 1
    have x2 := br.cell 2
    have y2 := br.free 2
    have x3 := br.cell 3
    have y3 := br.free 3
    have xn := br.lt
    go_wp2_with (go_at_call 55; (with_reducible refine (inRange_any _ _ _ _ HS.out _).mono ?_); rintro e w' ⟨rfl, rfl⟩)
    refine bodyPost_ret (v := .tuple #[.agg #[.int .i64 0, .int .i64 0, .int .i64 0, .int .i64 0], .int .i64 2]) (by simp [results, Try.results39, go_sem, x0, x1, x2, x3, y0, y1, y2, y3, xn]) rfl ⟨rfl, ?_⟩
    exact (((bl.setCell (p := ⟨w.heap.size + 1, 0, none⟩) (by simp) _).setCell (p := ⟨w.heap.size + 1, 1, none⟩) (by simp) _).setCell (p := ⟨w.heap.size + 1, 2, none⟩) (by simp) _).setCell (p := ⟨w.heap.size + 1, 3, none⟩) (by simp) _
  have HS := Lib.hid (inR_t hs)
  obtain ⟨s0, s1⟩ := hs
  obtain ⟨a0, a1, ha⟩ : ∃ a0 a1, swM x dx (2 * W) s = (a0, a1) := ⟨_, _, rfl⟩
  obtain ⟨b0, b1, hb'⟩ : ∃ b0 b1, swM y dy (2 * H) s = (b0, b1) := ⟨_, _, rfl⟩
  obtain ⟨rfl, rfl, rfl, rfl, rfl⟩ : a0 = px ∧ b0 = py ∧ a1 = pdx ∧ b1 = pdy ∧ 0 = r := by simpa [pwM, hc, s0, s1, ha, hb'] using hm
  have HA := Lib.hid ha
  have HB := Lib.hid hb'
  obtain ⟨W1, W2⟩ := bW
  obtain ⟨H1, H2⟩ := bH
  clear hm hc ha hb'
  go_enter Try.func39, Try.ntmps39
  go_wp2_with fail
  refine (plainCode_any HC.out).mono ?_
  rintro e w2 ⟨rfl, hb⟩
  replace bb := bb.below hb
  replace br := br.below hb
  replace bl := bnext bl hb
  have sz := bl.size
  clear p0 p1 p2 p3 pn hb
  have p0 := bb.cell 0
  have p1 := bb.cell 1
  have p2 := bb.cell 2
  have p3 := bb.cell 3
  have pn := bb.lt
  have x0 := br.cell 0
  have y0 := br.free 0
  have x1 := br.cell 1
  have y1 := br.free 1
  have x2 := br.cell 2
  have y2 := br.free 2
  have x3 := br.cell 3
  have y3 := br.free 3
  have xn := br.lt
  go_wp2_with (first | (go_at_call 55; (with_reducible refine (inRange_any _ _ _ _ HS.out _).mono ?_); rintro e w' ⟨rfl, rfl⟩) | (go_at_call 66; first | ((with_reducible refine (swing_any (x := x) (by omega) (by omega) (by omega) HA.out).mono ?_); rintro e w' ⟨rfl, rfl⟩) | ((with_reducible refine (swing_any (x := y) (by omega) (by omega) (by omega) HB.out).mono ?_); rintro e w' ⟨rfl, rfl⟩)))
  refine bodyPost_ret (v := .tuple #[.agg #[.int .i64 a0, .int .i64 b0, .int .i64 a1, .int .i64 b1], .int .i64 0]) (by simp [results, Try.results39, go_sem, x0, x1, x2, x3, y0, y1, y2, y3, xn]) rfl ⟨rfl, ?_⟩
  exact ((((bl.setCell (p := ⟨w.heap.size + 1, 0, none⟩) (by simp) _).setCell (p := ⟨w.heap.size + 1, 1, none⟩) (by simp) _).setCell (p := ⟨w.heap.size + 1, 2, none⟩) (by simp) _).setCell (p := ⟨w.heap.size + 1, 3, none⟩) (by simp) _).alloc (by simpa using sz) _
set_option maxHeartbeats 4000000 in
theorem K_spec_PlainWalk {w : World} {W H x y dx dy s px py pdx pdy r : Int} (hm : pwM W H ⟨x, y, dx, dy⟩ s = (px, py, pdx, pdy, r)) :
    Calls Try.prog 38 #[.int .i64 W, .int .i64 H, .agg #[.int .i64 x, .int .i64 y, .int .i64 dx, .int .i64 dy], .int .i64 s] w fun e w' =>
      e = .returned (.tuple #[.agg #[.int .i64 px, .int .i64 py, .int .i64 pdx, .int .i64 pdy], .int .i64 r]) ∧ Below w.heap.size w w' := by
  have bl := Joins.below_alloc2 w (.cells #[.int .i64 x, .int .i64 y, .int .i64 dx, .int .i64 dy] 38) (.cells #[.int .i64 0, .int .i64 0, .int .i64 0, .int .i64 0] 38)
  have bb := (Box.new w 38 #[.int .i64 x, .int .i64 y, .int .i64 dx, .int .i64 dy]).alloc (.cells #[.int .i64 0, .int .i64 0, .int .i64 0, .int .i64 0] 38)
  have br := Box.new (w.alloc (.cells #[.int .i64 x, .int .i64 y, .int .i64 dx, .int .i64 dy] 38)) 38 #[.int .i64 0, .int .i64 0, .int .i64 0, .int .i64 0]
  rw [World.size_alloc] at br
  obtain ⟨c, hc⟩ : ∃ c, pcM W H ⟨x, y, dx, dy⟩ = c := ⟨_, rfl⟩
  have HC := Lib.hid hc
  have p0 := bb.cell 0
  have p1 := bb.cell 1
  have p2 := bb.cell 2
  have p3 := bb.cell 3
  have pn := bb.lt
  by_cases h0 : c = 0
  rotate_left
  · have hne : (c != 0) = true := by simp [h0]
    have hne2 : (c == 0) = false := by simp [h0]
    obtain ⟨rfl, rfl, rfl, rfl, rfl⟩ : 0 = px ∧ 0 = py ∧ 0 = pdx ∧ 0 = pdy ∧ c = r := by simpa [pwM, hc, h0] using hm
    clear hm hc h0
    go_enter Try.func38, Try.ntmps38
    go_wp2_with fail
    refine (l07Walker_any HC.out).mono ?_
    rintro e w2 ⟨rfl, hb⟩
    replace br := br.below hb
    replace bl := bnext bl hb
    clear p0 p1 p2 p3 pn hb
    have x0 := br.cell 0
    have y0 := br.free 0
    have x1 := br.cell 1
    have y1 := br.free 1
    have x2 := br.cell 2
    have y2 := br.free 2
    have x3 := br.cell 3
    have y3 := br.free 3
    have xn := br.lt
    go_wp2
    refine bodyPost_ret (v := .tuple #[.agg #[.int .i64 0, .int .i64 0, .int .i64 0, .int .i64 0], .int .i64 c]) (by simp [results, Try.results38, go_sem, x0, x1, x2, x3, y0, y1, y2, y3, xn]) rfl ⟨rfl, ?_⟩
    exact (((bl.setCell (p := ⟨w.heap.size + 1, 0, none⟩) (by simp) _).setCell (p := ⟨w.heap.size + 1, 1, none⟩) (by simp) _).setCell (p := ⟨w.heap.size + 1, 2, none⟩) (by simp) _).setCell (p := ⟨w.heap.size + 1, 3, none⟩) (by simp) _
  subst h0
  obtain ⟨hW, hH, ho⟩ := pcM_zero hc
  have bW := num6_bd hW
  have bH := num6_bd hH
  obtain ⟨X0, X1, Y0, Y1⟩ := ho.bd
  clear hW hH ho
  by_cases hs : 0 ≤ s ∧ s ≤ 1000000000000
  rotate_left
  · obtain ⟨rfl, rfl, rfl, rfl, rfl⟩ : 0 = px ∧ 0 = py ∧ 0 = pdx ∧ 0 = pdy ∧ 2 = r := by simpa [pwM, hc, hs] using hm
    have HS := Lib.hid (inR_f hs)
    clear hm hc hs bW bH X0 X1 Y0 Y1
    go_enter Try.func38, Try.ntmps38
    go_wp2_with fail
    refine (l07Walker_any HC.out).mono ?_
    rintro e w2 ⟨rfl, hb⟩
    replace br := br.below hb
    replace bl := bnext bl hb
    clear p0 p1 p2 p3 pn hb
    have x0 := br.cell 0
    have y0 := br.free 0
    have x1 := br.cell 1
    have y1 := br.free 1
    have x2 := br.cell 2
    have y2 := br.free 2
    have x3 := br.cell 3
    have y3 := br.free 3
    have xn := br.lt
    go_wp2_with (go_at_call 64; (with_reducible refine (l00In_any _ _ _ _ HS.out _).mono ?_); rintro e w' ⟨rfl, rfl⟩)
    refine bodyPost_ret (v := .tuple #[.agg #[.int .i64 0, .int .i64 0, .int .i64 0, .int .i64 0], .int .i64 2]) (by simp [results, Try.results38, go_sem, x0, x1, x2, x3, y0, y1, y2, y3, xn]) rfl ⟨rfl, ?_⟩
    exact (((bl.setCell (p := ⟨w.heap.size + 1, 0, none⟩) (by simp) _).setCell (p := ⟨w.heap.size + 1, 1, none⟩) (by simp) _).setCell (p := ⟨w.heap.size + 1, 2, none⟩) (by simp) _).setCell (p := ⟨w.heap.size + 1, 3, none⟩) (by simp) _
  have HS := Lib.hid (inR_t hs)
  obtain ⟨s0, s1⟩ := hs
  obtain ⟨a0, a1, ha⟩ : ∃ a0 a1, swM x dx (2 * W) s = (a0, a1) := ⟨_, _, rfl⟩
  obtain ⟨b0, b1, hb'⟩ : ∃ b0 b1, swM y dy (2 * H) s = (b0, b1) := ⟨_, _, rfl⟩
  obtain ⟨rfl, rfl, rfl, rfl, rfl⟩ : a0 = px ∧ b0 = py ∧ a1 = pdx ∧ b1 = pdy ∧ 0 = r := by simpa [pwM, hc, s0, s1, ha, hb'] using hm
  have HA := Lib.hid ha
  have HB := Lib.hid hb'
  obtain ⟨W1, W2⟩ := bW
  obtain ⟨H1, H2⟩ := bH
  clear hm hc ha hb'
  go_enter Try.func38, Try.ntmps38
  go_wp2_with fail
  refine (l07Walker_any HC.out).mono ?_
  rintro e w2 ⟨rfl, hb⟩
  replace bb := bb.below hb
  replace br := br.below hb
  replace bl := bnext bl hb
  have sz := bl.size
  clear p0 p1 p2 p3 pn hb
  have p0 := bb.cell 0
  have p1 := bb.cell 1
  have p2 := bb.cell 2
  have p3 := bb.cell 3
  have pn := bb.lt
  have x0 := br.cell 0
  have y0 := br.free 0
  have x1 := br.cell 1
  have y1 := br.free 1
  have x2 := br.cell 2
  have y2 := br.free 2
  have x3 := br.cell 3
  have y3 := br.free 3
  have xn := br.lt
  go_wp2_with (first | (go_at_call 64; (with_reducible refine (l00In_any _ _ _ _ HS.out _).mono ?_); rintro e w' ⟨rfl, rfl⟩) | (go_at_call 65; first | ((with_reducible refine (l07Move_any (x := x) (by omega) (by omega) (by omega) HA.out).mono ?_); rintro e w' ⟨rfl, rfl⟩) | ((with_reducible refine (l07Move_any (x := y) (by omega) (by omega) (by omega) HB.out).mono ?_); rintro e w' ⟨rfl, rfl⟩)))
  refine bodyPost_ret (v := .tuple #[.agg #[.int .i64 a0, .int .i64 b0, .int .i64 a1, .int .i64 b1], .int .i64 0]) (by simp [results, Try.results38, go_sem, x0, x1, x2, x3, y0, y1, y2, y3, xn]) rfl ⟨rfl, ?_⟩
  exact ((((bl.setCell (p := ⟨w.heap.size + 1, 0, none⟩) (by simp) _).setCell (p := ⟨w.heap.size + 1, 1, none⟩) (by simp) _).setCell (p := ⟨w.heap.size + 1, 2, none⟩) (by simp) _).setCell (p := ⟨w.heap.size + 1, 3, none⟩) (by simp) _).alloc (by simpa using sz) _
set_option maxHeartbeats 2000000 in
theorem K_impl_PlainReturn {w : World} {W H x y dx dy r0 r1 : Int} (hm : prM W H ⟨x, y, dx, dy⟩ = (r0, r1)) :
    Calls Try.prog 32 #[.int .i64 W, .int .i64 H, .agg #[.int .i64 x, .int .i64 y, .int .i64 dx, .int .i64 dy]] w fun e w' => e = .returned (.tuple #[.int .i64 r0, .int .i64 r1]) ∧ Below w.heap.size w w' := by
  have bl := Joins.below_alloc1 w (.cells #[.int .i64 x, .int .i64 y, .int .i64 dx, .int .i64 dy] 38)
  have bb := Box.new w 38 #[.int .i64 x, .int .i64 y, .int .i64 dx, .int .i64 dy]
  obtain ⟨c, hc⟩ : ∃ c, pcM W H ⟨x, y, dx, dy⟩ = c := ⟨_, rfl⟩
  have HC := Lib.hid hc
  have p0 := bb.cell 0
  have p1 := bb.cell 1
  have p2 := bb.cell 2
  have p3 := bb.cell 3
  have pn := bb.lt
  clear bb
  by_cases h0 : c = 0
  rotate_left
  · have hne : (c != 0) = true := by simp [h0]
    obtain ⟨rfl, rfl⟩ : 0 = r0 ∧ c = r1 := by simpa [prM, hc, h0] using hm
    clear hm hc h0
    go_enter Try.func32, Try.ntmps32
    go_wp2_with fail
    refine (plainCode_any HC.out).mono ?_
    rintro e w2 ⟨rfl, hb⟩
    clear p0 p1 p2 p3 pn
    go_wp2
    go_ret2
    exact ⟨rfl, bnext bl hb⟩
  subst h0
  obtain ⟨hW, hH, ho⟩ := pcM_zero hc
  obtain ⟨rfl, rfl⟩ : 4 * lcmI W H = r0 ∧ 0 = r1 := by simpa [prM, hc] using hm
  have HP : Hid (plM W H = (4 * lcmI W H, 0)) := Lib.hid (by simp [plM, hW, hH])
  clear hm hc hW hH ho
  go_enter Try.func32, Try.ntmps32
  go_wp2_with fail
  refine (plainCode_any HC.out).mono ?_
  rintro e w2 ⟨rfl, hb⟩
  clear p0 p1 p2 p3 pn
  go_wp2_with fail
  refine (PlainLength_any W H _).mono ?_
  rintro e w' ⟨rfl, n, rfl⟩
  rw [HP.out]
  go_wp2
  go_ret2
  exact ⟨rfl, bnext bl (hb.trans (below_drewN _ _ _))⟩
set_option maxHeartbeats 2000000 in
theorem K_spec_PlainReturn {w : World} {W H x y dx dy r0 r1 : Int} (hm : prM W H ⟨x, y, dx, dy⟩ = (r0, r1)) :
    Calls Try.prog 30 #[.int .i64 W, .int .i64 H, .agg #[.int .i64 x, .int .i64 y, .int .i64 dx, .int .i64 dy]] w fun e w' => e = .returned (.tuple #[.int .i64 r0, .int .i64 r1]) ∧ Below w.heap.size w w' := by
  have bl := Joins.below_alloc1 w (.cells #[.int .i64 x, .int .i64 y, .int .i64 dx, .int .i64 dy] 38)
  have bb := Box.new w 38 #[.int .i64 x, .int .i64 y, .int .i64 dx, .int .i64 dy]
  obtain ⟨c, hc⟩ : ∃ c, pcM W H ⟨x, y, dx, dy⟩ = c := ⟨_, rfl⟩
  have HC := Lib.hid hc
  have p0 := bb.cell 0
  have p1 := bb.cell 1
  have p2 := bb.cell 2
  have p3 := bb.cell 3
  have pn := bb.lt
  clear bb
  by_cases h0 : c = 0
  rotate_left
  · have hne : (c != 0) = true := by simp [h0]
    obtain ⟨rfl, rfl⟩ : 0 = r0 ∧ c = r1 := by simpa [prM, hc, h0] using hm
    clear hm hc h0
    go_enter Try.func30, Try.ntmps30
    go_wp2_with fail
    refine (l07Walker_any HC.out).mono ?_
    rintro e w2 ⟨rfl, hb⟩
    clear p0 p1 p2 p3 pn
    go_wp2
    go_ret2
    exact ⟨rfl, bnext bl hb⟩
  subst h0
  obtain ⟨hW, hH, ho⟩ := pcM_zero hc
  obtain ⟨rfl, rfl⟩ : 4 * lcmI W H = r0 ∧ 0 = r1 := by simpa [prM, hc] using hm
  have HW := Lib.hid hW
  have HH := Lib.hid hH
  obtain ⟨l0, l1⟩ := lcmI_bd hW hH
  clear hm hc hW hH ho
  go_enter Try.func30, Try.ntmps30
  go_wp2_with fail
  refine (l07Walker_any HC.out).mono ?_
  rintro e w2 ⟨rfl, hb⟩
  clear p0 p1 p2 p3 pn
  go_wp2_with fail
  refine (l07Lcm_any W H HW.out HH.out _).mono ?_
  rintro e w' ⟨rfl, rfl⟩
  go_wp2
  go_ret2
  exact ⟨rfl, bnext bl hb⟩
end Go.Proofs.Ytcjjkiajgkicnaa
