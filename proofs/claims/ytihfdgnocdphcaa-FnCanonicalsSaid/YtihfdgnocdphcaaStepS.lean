/-
  A step of a walker, by the reference.
-/
import Derived.Test.YtihfdgnocdphcaaStepI
namespace Go.Proofs.Ytihfdgnocdphcaa
open Go.RowKit Knot

set_option maxHeartbeats 8000000 in
theorem l03Step_any {w : World} {b Bd : Nat} {W H x y dx dy nx ny ex ey : Int} {v : Value} {B : List Int} (bp : Box w b 30 #[.int .i64 W, .int .i64 H, v]) (hI : Ints w Bd v B) (hp : Ok ⟨W, H, B⟩) (hk : OkW ⟨W, H, B⟩ ⟨x, y, dx, dy⟩) (hr : stepW ⟨W, H, B⟩ ⟨x, y, dx, dy⟩ = ⟨nx, ny, ex, ey⟩) :
    Calls Try.prog 155 #[.pointer (some ⟨b, 0, none⟩), .agg #[.int .i64 x, .int .i64 y, .int .i64 dx, .int .i64 dy]] w fun e w' => e = .returned (.agg #[.int .i64 nx, .int .i64 ny, .int .i64 ex, .int .i64 ey]) ∧ Below w.heap.size w w' := by
  obtain ⟨A, cA, rfl, _, hA⟩ := hI.open_
  have hbl := bp.lt
  have bl := Joins.below_alloc2 w (.cells #[.int .i64 x, .int .i64 y, .int .i64 dx, .int .i64 dy] 134) (.cells #[.int .i64 0, .int .i64 0, .int .i64 0, .int .i64 0] 134)
  replace bp := (bp.alloc (.cells #[.int .i64 x, .int .i64 y, .int .i64 dx, .int .i64 dy] 134)).alloc (.cells #[.int .i64 0, .int .i64 0, .int .i64 0, .int .i64 0] 134)
  have bw := (Box.new w 134 #[.int .i64 x, .int .i64 y, .int .i64 dx, .int .i64 dy]).alloc (.cells #[.int .i64 0, .int .i64 0, .int .i64 0, .int .i64 0] 134)
  have br := Box.new (w.alloc (.cells #[.int .i64 x, .int .i64 y, .int .i64 dx, .int .i64 dy] 134)) 134 #[.int .i64 0, .int .i64 0, .int .i64 0, .int .i64 0]
  rw [World.size_alloc] at br
  have HG0 : Hid (∀ g, (Value.slice A B.length cA).ownBlock = some g → g < w.heap.size) := Lib.hid (fun g hg => (Row.lt hI hg).2)
  have hI2 := Row.below hI bl
  obtain ⟨hx, hy, hdx, hdy, hx2, hy2, _, _⟩ := okW_bd hk ⟨hp.w1, hp.w8⟩ ⟨hp.h1, hp.h8⟩
  have HN : Hid ((0 ≤ x ∧ x ≤ 2000000) ∧ (0 ≤ y ∧ y ≤ 2000000) ∧ (dx = 1 ∨ dx = -1) ∧ (dy = 1 ∨ dy = -1)) := Lib.hid ⟨⟨hx.1, by omega⟩, ⟨hy.1, by omega⟩, hdx, hdy⟩
  have HW : Hid (1 ≤ W ∧ W ≤ 8) := Lib.hid ⟨hp.w1, hp.w8⟩
  have HH : Hid (1 ≤ H ∧ H ≤ 8) := Lib.hid ⟨hp.h1, hp.h8⟩
  have d0 : -1 ≤ dx ∧ dx ≤ 1 := by omega
  have d1 : -1 ≤ dy ∧ dy ≤ 1 := by omega
  obtain ⟨d0, d0'⟩ := d0
  obtain ⟨d1, d1'⟩ := d1
  have hcs := step_cases hp hk
  obtain ⟨x0, x16⟩ := hx2
  obtain ⟨y0, y16⟩ := hy2
  obtain ⟨W1, W8⟩ := HW.out
  obtain ⟨H1, H8⟩ := HH.out
  clear hdx hdy hx hy hk hp hI
  rcases hcs with hcs | hcs | hcs | hcs | hcs
  · obtain ⟨e1, he, n1, n2, n3, hst⟩ := hcs
    rw [hst] at hr
    injection hr with f1 f2 f3 f4
    subst f1 f2 f3 f4
    have HE := Lib.hid he
    have t1 := eqb_t e1
    have t2 := eqb_f n1
    have t3 := eqb_f n2
    have t4 := eqb_f n3
    clear he hst e1 n1 n2 n3
    have p0 := bw.cell 0
    have p1 := bw.cell 1
    have p2 := bw.cell 2
    have p3 := bw.cell 3
    have pn := bw.lt
    simp only [List.getElem?_toArray, List.getElem?_cons_zero, List.getElem?_cons_succ] at p0 p1 p2 p3
    go_enter Try.func155, Try.ntmps155
    go_wp2_with fail
    refine (l03Next_any HN.out).mono ?_
    rintro e w2 ⟨rfl, hb2⟩
    have sz2 := hb2.size
    simp only [World.size_alloc] at sz2
    replace bp := bp.below hb2
    replace bw := bw.below hb2
    replace br := br.below hb2
    replace hI2 := Row.below hI2 hb2
    replace bl := bnext bl hb2
    clear p0 p1 p2 p3 pn hb2
    have p0 := bw.cell 0
    have p1 := bw.cell 1
    have p2 := bw.cell 2
    have p3 := bw.cell 3
    have pn := bw.lt
    simp only [List.getElem?_toArray, List.getElem?_cons_zero, List.getElem?_cons_succ] at p0 p1 p2 p3
    go_wp2
    replace bp := (bp.alloc (.cells #[.int .i64 (x + dx), .int .i64 (y + dy)] 36)).alloc (.cells #[.int .i64 (x + dx), .int .i64 (y + dy), .int .i64 dx, .int .i64 dy] 134)
    replace bw := (bw.alloc (.cells #[.int .i64 (x + dx), .int .i64 (y + dy)] 36)).alloc (.cells #[.int .i64 (x + dx), .int .i64 (y + dy), .int .i64 dx, .int .i64 dy] 134)
    replace br := (br.alloc (.cells #[.int .i64 (x + dx), .int .i64 (y + dy)] 36)).alloc (.cells #[.int .i64 (x + dx), .int .i64 (y + dy), .int .i64 dx, .int .i64 dy] 134)
    have bn := (Box.new w2 36 #[.int .i64 (x + dx), .int .i64 (y + dy)]).alloc (.cells #[.int .i64 (x + dx), .int .i64 (y + dy), .int .i64 dx, .int .i64 dy] 134)
    have bo := Box.new (w2.alloc (.cells #[.int .i64 (x + dx), .int .i64 (y + dy)] 36)) 134 #[.int .i64 (x + dx), .int .i64 (y + dy), .int .i64 dx, .int .i64 dy]
    rw [World.size_alloc] at bo
    replace hI2 := Row.below hI2 (Joins.below_alloc2 _ (.cells #[.int .i64 (x + dx), .int .i64 (y + dy)] 36) (.cells #[.int .i64 (x + dx), .int .i64 (y + dy), .int .i64 dx, .int .i64 dy] 134))
    replace bl := bnext bl (Joins.below_alloc2 _ (.cells #[.int .i64 (x + dx), .int .i64 (y + dy)] 36) (.cells #[.int .i64 (x + dx), .int .i64 (y + dy), .int .i64 dx, .int .i64 dy] 134))
    clear p0 p1 p2 p3 pn
    generalize (w2.alloc (.cells #[.int .i64 (x + dx), .int .i64 (y + dy)] 36)).alloc (.cells #[.int .i64 (x + dx), .int .i64 (y + dy), .int .i64 dx, .int .i64 dy] 134) = V at *
    have k1 : (b = w2.heap.size + 1) = False := by simp; omega
    have k2 : (w2.heap.size + 1 = b) = False := by simp; omega
    have k4 : (w2.heap.size = w2.heap.size + 1) = False := by simp
    have k6 : (w2.heap.size + 1 = w2.heap.size) = False := by simp
    have k7 : (w.heap.size + 1 = w2.heap.size + 1) = False := by simp; omega
    have k8 : (w2.heap.size + 1 = w.heap.size + 1) = False := by simp; omega
    have HG := HG0
    have q0 := bp.cell 0
    have q1 := bp.cell 1
    have qn := bp.lt
    simp only [List.getElem?_toArray, List.getElem?_cons_zero, List.getElem?_cons_succ] at q0 q1
    have s0 := bn.cell 0
    have s1 := bn.cell 1
    have sn := bn.lt
    simp only [List.getElem?_toArray, List.getElem?_cons_zero, List.getElem?_cons_succ] at s0 s1
    have o0 := bo.cell 0
    have o1 := bo.cell 1
    have o2 := bo.cell 2
    have o3 := bo.cell 3
    have of0 := bo.free 0
    have of1 := bo.free 1
    have of2 := bo.free 2
    have of3 := bo.free 3
    have on := bo.lt
    simp only [List.getElem?_toArray, List.getElem?_cons_zero, List.getElem?_cons_succ] at o0 o1 o2 o3
    have r0 := br.cell 0
    have r1 := br.cell 1
    have r2 := br.cell 2
    have r3 := br.cell 3
    have rf0 := br.free 0
    have rf1 := br.free 1
    have rf2 := br.free 2
    have rf3 := br.free 3
    have rn := br.lt
    simp only [List.getElem?_toArray, List.getElem?_cons_zero, List.getElem?_cons_succ] at r0 r1 r2 r3
    go_quiet (fail)
    obtain ⟨nq1, hnq⟩ : ∃ m, m = nq := ⟨nq, rfl⟩
    subst hnq
    clear q0 q1 qn s0 s1 sn o0 o1 o2 o3 of0 of1 of2 of3 on r0 r1 r2 r3 rf0 rf1 rf2 rf3 rn
    replace bp := bp.drewN nq1
    replace br := br.drewN nq1
    replace bn := bn.drewN nq1
    replace bo := bo.drewN nq1
    replace hI2 := Row.drewN hI2 nq1
    replace bl := bl.trans (below_drewN _ _ nq1)
    generalize (V.drewN nq1) = V2 at *
    have q0 := bp.cell 0
    have q1 := bp.cell 1
    have qn := bp.lt
    simp only [List.getElem?_toArray, List.getElem?_cons_zero, List.getElem?_cons_succ] at q0 q1
    have s0 := bn.cell 0
    have s1 := bn.cell 1
    have sn := bn.lt
    simp only [List.getElem?_toArray, List.getElem?_cons_zero, List.getElem?_cons_succ] at s0 s1
    have o0 := bo.cell 0
    have o1 := bo.cell 1
    have o2 := bo.cell 2
    have o3 := bo.cell 3
    have of0 := bo.free 0
    have of1 := bo.free 1
    have of2 := bo.free 2
    have of3 := bo.free 3
    have on := bo.lt
    simp only [List.getElem?_toArray, List.getElem?_cons_zero, List.getElem?_cons_succ] at o0 o1 o2 o3
    have r0 := br.cell 0
    have r1 := br.cell 1
    have r2 := br.cell 2
    have r3 := br.cell 3
    have rf0 := br.free 0
    have rf1 := br.free 1
    have rf2 := br.free 2
    have rf3 := br.free 3
    have rn := br.lt
    simp only [List.getElem?_toArray, List.getElem?_cons_zero, List.getElem?_cons_succ] at r0 r1 r2 r3
    go_wp2
    clear q0 q1 qn s0 s1 sn o0 o1 o2 o3 of0 of1 of2 of3 on r0 r1 r2 r3 rf0 rf1 rf2 rf3 rn
    replace bo : Box (V2.setCell ⟨w2.heap.size + 1, 2, none⟩ (.int .i64 (-dx))) (w2.heap.size + 1) 134 #[.int .i64 (x + dx), .int .i64 (y + dy), .int .i64 (-dx), .int .i64 dy] := by simpa using bo.set_ 2 (.int .i64 (-dx))
    replace bp := bp.setc (p := ⟨w2.heap.size + 1, 2, none⟩) (by show _ ≠ w2.heap.size + 1; omega) (.int .i64 (-dx))
    replace br := br.setc (p := ⟨w2.heap.size + 1, 2, none⟩) (by show _ ≠ w2.heap.size + 1; omega) (.int .i64 (-dx))
    replace bn := bn.setc (p := ⟨w2.heap.size + 1, 2, none⟩) (by show _ ≠ w2.heap.size + 1; omega) (.int .i64 (-dx))
    replace hI2 := Row.setCell hI2 (p := ⟨w2.heap.size + 1, 2, none⟩) (fun g hg => by have := HG.out g hg; show g ≠ w2.heap.size + 1; omega) (.int .i64 (-dx))
    replace bl := bl.setCell (p := ⟨w2.heap.size + 1, 2, none⟩) (by show w.heap.size ≤ w2.heap.size + 1; omega) (.int .i64 (-dx))
    generalize (V2.setCell ⟨w2.heap.size + 1, 2, none⟩ (.int .i64 (-dx))) = V3 at *
    have q0 := bp.cell 0
    have q1 := bp.cell 1
    have qn := bp.lt
    simp only [List.getElem?_toArray, List.getElem?_cons_zero, List.getElem?_cons_succ] at q0 q1
    have s0 := bn.cell 0
    have s1 := bn.cell 1
    have sn := bn.lt
    simp only [List.getElem?_toArray, List.getElem?_cons_zero, List.getElem?_cons_succ] at s0 s1
    have o0 := bo.cell 0
    have o1 := bo.cell 1
    have o2 := bo.cell 2
    have o3 := bo.cell 3
    have of0 := bo.free 0
    have of1 := bo.free 1
    have of2 := bo.free 2
    have of3 := bo.free 3
    have on := bo.lt
    simp only [List.getElem?_toArray, List.getElem?_cons_zero, List.getElem?_cons_succ] at o0 o1 o2 o3
    have r0 := br.cell 0
    have r1 := br.cell 1
    have r2 := br.cell 2
    have r3 := br.cell 3
    have rf0 := br.free 0
    have rf1 := br.free 1
    have rf2 := br.free 2
    have rf3 := br.free 3
    have rn := br.lt
    simp only [List.getElem?_toArray, List.getElem?_cons_zero, List.getElem?_cons_succ] at r0 r1 r2 r3
    go_quiet (fail)
    obtain ⟨nq2, hnq⟩ : ∃ m, m = nq := ⟨nq, rfl⟩
    subst hnq
    clear q0 q1 qn s0 s1 sn o0 o1 o2 o3 of0 of1 of2 of3 on r0 r1 r2 r3 rf0 rf1 rf2 rf3 rn
    replace bp := bp.drewN nq2
    replace br := br.drewN nq2
    replace bn := bn.drewN nq2
    replace bo := bo.drewN nq2
    replace hI2 := Row.drewN hI2 nq2
    replace bl := bl.trans (below_drewN _ _ nq2)
    generalize (V3.drewN nq2) = V4 at *
    have q0 := bp.cell 0
    have q1 := bp.cell 1
    have qn := bp.lt
    simp only [List.getElem?_toArray, List.getElem?_cons_zero, List.getElem?_cons_succ] at q0 q1
    have s0 := bn.cell 0
    have s1 := bn.cell 1
    have sn := bn.lt
    simp only [List.getElem?_toArray, List.getElem?_cons_zero, List.getElem?_cons_succ] at s0 s1
    have o0 := bo.cell 0
    have o1 := bo.cell 1
    have o2 := bo.cell 2
    have o3 := bo.cell 3
    have of0 := bo.free 0
    have of1 := bo.free 1
    have of2 := bo.free 2
    have of3 := bo.free 3
    have on := bo.lt
    simp only [List.getElem?_toArray, List.getElem?_cons_zero, List.getElem?_cons_succ] at o0 o1 o2 o3
    have r0 := br.cell 0
    have r1 := br.cell 1
    have r2 := br.cell 2
    have r3 := br.cell 3
    have rf0 := br.free 0
    have rf1 := br.free 1
    have rf2 := br.free 2
    have rf3 := br.free 3
    have rn := br.lt
    simp only [List.getElem?_toArray, List.getElem?_cons_zero, List.getElem?_cons_succ] at r0 r1 r2 r3
    go_wp2_with fail
    clear q0 q1 qn s0 s1 sn o0 o1 o2 o3 of0 of1 of2 of3 on r0 r1 r2 r3 rf0 rf1 rf2 rf3 rn
    refine (l02Edge_any (B := B) bp HW.out HH.out (yes_iff HE.out)).mono ?_
    rintro e w3 ⟨rfl, hb3⟩
    have sz3 := hb3.size
    replace bp := bp.below hb3
    replace br := br.below hb3
    replace bn := bn.below hb3
    replace bo := bo.below hb3
    replace hI2 := Row.below hI2 hb3
    replace bl := bnext bl hb3
    clear hb3
    have o0 := bo.cell 0
    have o1 := bo.cell 1
    have o2 := bo.cell 2
    have o3 := bo.cell 3
    have of0 := bo.free 0
    have of1 := bo.free 1
    have of2 := bo.free 2
    have of3 := bo.free 3
    have on := bo.lt
    simp only [List.getElem?_toArray, List.getElem?_cons_zero, List.getElem?_cons_succ] at o0 o1 o2 o3
    have r0 := br.cell 0
    have r1 := br.cell 1
    have r2 := br.cell 2
    have r3 := br.cell 3
    have rf0 := br.free 0
    have rf1 := br.free 1
    have rf2 := br.free 2
    have rf3 := br.free 3
    have rn := br.lt
    simp only [List.getElem?_toArray, List.getElem?_cons_zero, List.getElem?_cons_succ] at r0 r1 r2 r3
    go_wp2
    refine bodyPost_ret (v := .agg #[.int .i64 (x + dx), .int .i64 (y + dy), .int .i64 (-dx), .int .i64 dy]) (by simp [results, Try.results155, go_sem, r0, r1, r2, r3, rf0, rf1, rf2, rf3, rn]) rfl ⟨rfl, ?_⟩
    exact (((bl.setCell (p := ⟨w.heap.size + 1, 0, none⟩) (by simp) _).setCell (p := ⟨w.heap.size + 1, 1, none⟩) (by simp) _).setCell (p := ⟨w.heap.size + 1, 2, none⟩) (by simp) _).setCell (p := ⟨w.heap.size + 1, 3, none⟩) (by simp) _
  · obtain ⟨e1, he, n1, n2, n3, hst⟩ := hcs
    rw [hst] at hr
    injection hr with f1 f2 f3 f4
    subst f1 f2 f3 f4
    have HE := Lib.hid he
    have t1 := eqb_t e1
    have t2 := eqb_f n1
    have t3 := eqb_f n2
    have t4 := eqb_f n3
    clear he hst e1 n1 n2 n3
    have p0 := bw.cell 0
    have p1 := bw.cell 1
    have p2 := bw.cell 2
    have p3 := bw.cell 3
    have pn := bw.lt
    simp only [List.getElem?_toArray, List.getElem?_cons_zero, List.getElem?_cons_succ] at p0 p1 p2 p3
    go_enter Try.func155, Try.ntmps155
    go_wp2_with fail
    refine (l03Next_any HN.out).mono ?_
    rintro e w2 ⟨rfl, hb2⟩
    have sz2 := hb2.size
    simp only [World.size_alloc] at sz2
    replace bp := bp.below hb2
    replace bw := bw.below hb2
    replace br := br.below hb2
    replace hI2 := Row.below hI2 hb2
    replace bl := bnext bl hb2
    clear p0 p1 p2 p3 pn hb2
    have p0 := bw.cell 0
    have p1 := bw.cell 1
    have p2 := bw.cell 2
    have p3 := bw.cell 3
    have pn := bw.lt
    simp only [List.getElem?_toArray, List.getElem?_cons_zero, List.getElem?_cons_succ] at p0 p1 p2 p3
    go_wp2
    replace bp := (bp.alloc (.cells #[.int .i64 (x + dx), .int .i64 (y + dy)] 36)).alloc (.cells #[.int .i64 (x + dx), .int .i64 (y + dy), .int .i64 dx, .int .i64 dy] 134)
    replace bw := (bw.alloc (.cells #[.int .i64 (x + dx), .int .i64 (y + dy)] 36)).alloc (.cells #[.int .i64 (x + dx), .int .i64 (y + dy), .int .i64 dx, .int .i64 dy] 134)
    replace br := (br.alloc (.cells #[.int .i64 (x + dx), .int .i64 (y + dy)] 36)).alloc (.cells #[.int .i64 (x + dx), .int .i64 (y + dy), .int .i64 dx, .int .i64 dy] 134)
    have bn := (Box.new w2 36 #[.int .i64 (x + dx), .int .i64 (y + dy)]).alloc (.cells #[.int .i64 (x + dx), .int .i64 (y + dy), .int .i64 dx, .int .i64 dy] 134)
    have bo := Box.new (w2.alloc (.cells #[.int .i64 (x + dx), .int .i64 (y + dy)] 36)) 134 #[.int .i64 (x + dx), .int .i64 (y + dy), .int .i64 dx, .int .i64 dy]
    rw [World.size_alloc] at bo
    replace hI2 := Row.below hI2 (Joins.below_alloc2 _ (.cells #[.int .i64 (x + dx), .int .i64 (y + dy)] 36) (.cells #[.int .i64 (x + dx), .int .i64 (y + dy), .int .i64 dx, .int .i64 dy] 134))
    replace bl := bnext bl (Joins.below_alloc2 _ (.cells #[.int .i64 (x + dx), .int .i64 (y + dy)] 36) (.cells #[.int .i64 (x + dx), .int .i64 (y + dy), .int .i64 dx, .int .i64 dy] 134))
    clear p0 p1 p2 p3 pn
    generalize (w2.alloc (.cells #[.int .i64 (x + dx), .int .i64 (y + dy)] 36)).alloc (.cells #[.int .i64 (x + dx), .int .i64 (y + dy), .int .i64 dx, .int .i64 dy] 134) = V at *
    have k1 : (b = w2.heap.size + 1) = False := by simp; omega
    have k2 : (w2.heap.size + 1 = b) = False := by simp; omega
    have k4 : (w2.heap.size = w2.heap.size + 1) = False := by simp
    have k6 : (w2.heap.size + 1 = w2.heap.size) = False := by simp
    have k7 : (w.heap.size + 1 = w2.heap.size + 1) = False := by simp; omega
    have k8 : (w2.heap.size + 1 = w.heap.size + 1) = False := by simp; omega
    have HG := HG0
    have q0 := bp.cell 0
    have q1 := bp.cell 1
    have qn := bp.lt
    simp only [List.getElem?_toArray, List.getElem?_cons_zero, List.getElem?_cons_succ] at q0 q1
    have s0 := bn.cell 0
    have s1 := bn.cell 1
    have sn := bn.lt
    simp only [List.getElem?_toArray, List.getElem?_cons_zero, List.getElem?_cons_succ] at s0 s1
    have o0 := bo.cell 0
    have o1 := bo.cell 1
    have o2 := bo.cell 2
    have o3 := bo.cell 3
    have of0 := bo.free 0
    have of1 := bo.free 1
    have of2 := bo.free 2
    have of3 := bo.free 3
    have on := bo.lt
    simp only [List.getElem?_toArray, List.getElem?_cons_zero, List.getElem?_cons_succ] at o0 o1 o2 o3
    have r0 := br.cell 0
    have r1 := br.cell 1
    have r2 := br.cell 2
    have r3 := br.cell 3
    have rf0 := br.free 0
    have rf1 := br.free 1
    have rf2 := br.free 2
    have rf3 := br.free 3
    have rn := br.lt
    simp only [List.getElem?_toArray, List.getElem?_cons_zero, List.getElem?_cons_succ] at r0 r1 r2 r3
    go_quiet (fail)
    obtain ⟨nq1, hnq⟩ : ∃ m, m = nq := ⟨nq, rfl⟩
    subst hnq
    clear q0 q1 qn s0 s1 sn o0 o1 o2 o3 of0 of1 of2 of3 on r0 r1 r2 r3 rf0 rf1 rf2 rf3 rn
    replace bp := bp.drewN nq1
    replace br := br.drewN nq1
    replace bn := bn.drewN nq1
    replace bo := bo.drewN nq1
    replace hI2 := Row.drewN hI2 nq1
    replace bl := bl.trans (below_drewN _ _ nq1)
    generalize (V.drewN nq1) = V2 at *
    have q0 := bp.cell 0
    have q1 := bp.cell 1
    have qn := bp.lt
    simp only [List.getElem?_toArray, List.getElem?_cons_zero, List.getElem?_cons_succ] at q0 q1
    have s0 := bn.cell 0
    have s1 := bn.cell 1
    have sn := bn.lt
    simp only [List.getElem?_toArray, List.getElem?_cons_zero, List.getElem?_cons_succ] at s0 s1
    have o0 := bo.cell 0
    have o1 := bo.cell 1
    have o2 := bo.cell 2
    have o3 := bo.cell 3
    have of0 := bo.free 0
    have of1 := bo.free 1
    have of2 := bo.free 2
    have of3 := bo.free 3
    have on := bo.lt
    simp only [List.getElem?_toArray, List.getElem?_cons_zero, List.getElem?_cons_succ] at o0 o1 o2 o3
    have r0 := br.cell 0
    have r1 := br.cell 1
    have r2 := br.cell 2
    have r3 := br.cell 3
    have rf0 := br.free 0
    have rf1 := br.free 1
    have rf2 := br.free 2
    have rf3 := br.free 3
    have rn := br.lt
    simp only [List.getElem?_toArray, List.getElem?_cons_zero, List.getElem?_cons_succ] at r0 r1 r2 r3
    go_wp2
    clear q0 q1 qn s0 s1 sn o0 o1 o2 o3 of0 of1 of2 of3 on r0 r1 r2 r3 rf0 rf1 rf2 rf3 rn
    replace bo : Box (V2.setCell ⟨w2.heap.size + 1, 2, none⟩ (.int .i64 (-dx))) (w2.heap.size + 1) 134 #[.int .i64 (x + dx), .int .i64 (y + dy), .int .i64 (-dx), .int .i64 dy] := by simpa using bo.set_ 2 (.int .i64 (-dx))
    replace bp := bp.setc (p := ⟨w2.heap.size + 1, 2, none⟩) (by show _ ≠ w2.heap.size + 1; omega) (.int .i64 (-dx))
    replace br := br.setc (p := ⟨w2.heap.size + 1, 2, none⟩) (by show _ ≠ w2.heap.size + 1; omega) (.int .i64 (-dx))
    replace bn := bn.setc (p := ⟨w2.heap.size + 1, 2, none⟩) (by show _ ≠ w2.heap.size + 1; omega) (.int .i64 (-dx))
    replace hI2 := Row.setCell hI2 (p := ⟨w2.heap.size + 1, 2, none⟩) (fun g hg => by have := HG.out g hg; show g ≠ w2.heap.size + 1; omega) (.int .i64 (-dx))
    replace bl := bl.setCell (p := ⟨w2.heap.size + 1, 2, none⟩) (by show w.heap.size ≤ w2.heap.size + 1; omega) (.int .i64 (-dx))
    generalize (V2.setCell ⟨w2.heap.size + 1, 2, none⟩ (.int .i64 (-dx))) = V3 at *
    have q0 := bp.cell 0
    have q1 := bp.cell 1
    have qn := bp.lt
    simp only [List.getElem?_toArray, List.getElem?_cons_zero, List.getElem?_cons_succ] at q0 q1
    have s0 := bn.cell 0
    have s1 := bn.cell 1
    have sn := bn.lt
    simp only [List.getElem?_toArray, List.getElem?_cons_zero, List.getElem?_cons_succ] at s0 s1
    have o0 := bo.cell 0
    have o1 := bo.cell 1
    have o2 := bo.cell 2
    have o3 := bo.cell 3
    have of0 := bo.free 0
    have of1 := bo.free 1
    have of2 := bo.free 2
    have of3 := bo.free 3
    have on := bo.lt
    simp only [List.getElem?_toArray, List.getElem?_cons_zero, List.getElem?_cons_succ] at o0 o1 o2 o3
    have r0 := br.cell 0
    have r1 := br.cell 1
    have r2 := br.cell 2
    have r3 := br.cell 3
    have rf0 := br.free 0
    have rf1 := br.free 1
    have rf2 := br.free 2
    have rf3 := br.free 3
    have rn := br.lt
    simp only [List.getElem?_toArray, List.getElem?_cons_zero, List.getElem?_cons_succ] at r0 r1 r2 r3
    go_quiet (fail)
    obtain ⟨nq2, hnq⟩ : ∃ m, m = nq := ⟨nq, rfl⟩
    subst hnq
    clear q0 q1 qn s0 s1 sn o0 o1 o2 o3 of0 of1 of2 of3 on r0 r1 r2 r3 rf0 rf1 rf2 rf3 rn
    replace bp := bp.drewN nq2
    replace br := br.drewN nq2
    replace bn := bn.drewN nq2
    replace bo := bo.drewN nq2
    replace hI2 := Row.drewN hI2 nq2
    replace bl := bl.trans (below_drewN _ _ nq2)
    generalize (V3.drewN nq2) = V4 at *
    have q0 := bp.cell 0
    have q1 := bp.cell 1
    have qn := bp.lt
    simp only [List.getElem?_toArray, List.getElem?_cons_zero, List.getElem?_cons_succ] at q0 q1
    have s0 := bn.cell 0
    have s1 := bn.cell 1
    have sn := bn.lt
    simp only [List.getElem?_toArray, List.getElem?_cons_zero, List.getElem?_cons_succ] at s0 s1
    have o0 := bo.cell 0
    have o1 := bo.cell 1
    have o2 := bo.cell 2
    have o3 := bo.cell 3
    have of0 := bo.free 0
    have of1 := bo.free 1
    have of2 := bo.free 2
    have of3 := bo.free 3
    have on := bo.lt
    simp only [List.getElem?_toArray, List.getElem?_cons_zero, List.getElem?_cons_succ] at o0 o1 o2 o3
    have r0 := br.cell 0
    have r1 := br.cell 1
    have r2 := br.cell 2
    have r3 := br.cell 3
    have rf0 := br.free 0
    have rf1 := br.free 1
    have rf2 := br.free 2
    have rf3 := br.free 3
    have rn := br.lt
    simp only [List.getElem?_toArray, List.getElem?_cons_zero, List.getElem?_cons_succ] at r0 r1 r2 r3
    go_wp2_with fail
    clear q0 q1 qn s0 s1 sn o0 o1 o2 o3 of0 of1 of2 of3 on r0 r1 r2 r3 rf0 rf1 rf2 rf3 rn
    refine (l02Edge_any (B := B) bp HW.out HH.out (yes_iff HE.out)).mono ?_
    rintro e w3 ⟨rfl, hb3⟩
    have sz3 := hb3.size
    replace bp := bp.below hb3
    replace br := br.below hb3
    replace bn := bn.below hb3
    replace bo := bo.below hb3
    replace hI2 := Row.below hI2 hb3
    replace bl := bnext bl hb3
    clear hb3
    have o0 := bo.cell 0
    have o1 := bo.cell 1
    have o2 := bo.cell 2
    have o3 := bo.cell 3
    have of0 := bo.free 0
    have of1 := bo.free 1
    have of2 := bo.free 2
    have of3 := bo.free 3
    have on := bo.lt
    simp only [List.getElem?_toArray, List.getElem?_cons_zero, List.getElem?_cons_succ] at o0 o1 o2 o3
    have r0 := br.cell 0
    have r1 := br.cell 1
    have r2 := br.cell 2
    have r3 := br.cell 3
    have rf0 := br.free 0
    have rf1 := br.free 1
    have rf2 := br.free 2
    have rf3 := br.free 3
    have rn := br.lt
    simp only [List.getElem?_toArray, List.getElem?_cons_zero, List.getElem?_cons_succ] at r0 r1 r2 r3
    go_wp2
    refine bodyPost_ret (v := .agg #[.int .i64 (x + dx), .int .i64 (y + dy), .int .i64 (-dx), .int .i64 dy]) (by simp [results, Try.results155, go_sem, r0, r1, r2, r3, rf0, rf1, rf2, rf3, rn]) rfl ⟨rfl, ?_⟩
    exact (((bl.setCell (p := ⟨w.heap.size + 1, 0, none⟩) (by simp) _).setCell (p := ⟨w.heap.size + 1, 1, none⟩) (by simp) _).setCell (p := ⟨w.heap.size + 1, 2, none⟩) (by simp) _).setCell (p := ⟨w.heap.size + 1, 3, none⟩) (by simp) _
  · obtain ⟨e1, he, n1, n2, n3, hst⟩ := hcs
    rw [hst] at hr
    injection hr with f1 f2 f3 f4
    subst f1 f2 f3 f4
    have HE := Lib.hid he
    have t1 := eqb_t e1
    have t2 := eqb_f n1
    have t3 := eqb_f n2
    have t4 := eqb_f n3
    clear he hst e1 n1 n2 n3
    have p0 := bw.cell 0
    have p1 := bw.cell 1
    have p2 := bw.cell 2
    have p3 := bw.cell 3
    have pn := bw.lt
    simp only [List.getElem?_toArray, List.getElem?_cons_zero, List.getElem?_cons_succ] at p0 p1 p2 p3
    go_enter Try.func155, Try.ntmps155
    go_wp2_with fail
    refine (l03Next_any HN.out).mono ?_
    rintro e w2 ⟨rfl, hb2⟩
    have sz2 := hb2.size
    simp only [World.size_alloc] at sz2
    replace bp := bp.below hb2
    replace bw := bw.below hb2
    replace br := br.below hb2
    replace hI2 := Row.below hI2 hb2
    replace bl := bnext bl hb2
    clear p0 p1 p2 p3 pn hb2
    have p0 := bw.cell 0
    have p1 := bw.cell 1
    have p2 := bw.cell 2
    have p3 := bw.cell 3
    have pn := bw.lt
    simp only [List.getElem?_toArray, List.getElem?_cons_zero, List.getElem?_cons_succ] at p0 p1 p2 p3
    go_wp2
    replace bp := (bp.alloc (.cells #[.int .i64 (x + dx), .int .i64 (y + dy)] 36)).alloc (.cells #[.int .i64 (x + dx), .int .i64 (y + dy), .int .i64 dx, .int .i64 dy] 134)
    replace bw := (bw.alloc (.cells #[.int .i64 (x + dx), .int .i64 (y + dy)] 36)).alloc (.cells #[.int .i64 (x + dx), .int .i64 (y + dy), .int .i64 dx, .int .i64 dy] 134)
    replace br := (br.alloc (.cells #[.int .i64 (x + dx), .int .i64 (y + dy)] 36)).alloc (.cells #[.int .i64 (x + dx), .int .i64 (y + dy), .int .i64 dx, .int .i64 dy] 134)
    have bn := (Box.new w2 36 #[.int .i64 (x + dx), .int .i64 (y + dy)]).alloc (.cells #[.int .i64 (x + dx), .int .i64 (y + dy), .int .i64 dx, .int .i64 dy] 134)
    have bo := Box.new (w2.alloc (.cells #[.int .i64 (x + dx), .int .i64 (y + dy)] 36)) 134 #[.int .i64 (x + dx), .int .i64 (y + dy), .int .i64 dx, .int .i64 dy]
    rw [World.size_alloc] at bo
    replace hI2 := Row.below hI2 (Joins.below_alloc2 _ (.cells #[.int .i64 (x + dx), .int .i64 (y + dy)] 36) (.cells #[.int .i64 (x + dx), .int .i64 (y + dy), .int .i64 dx, .int .i64 dy] 134))
    replace bl := bnext bl (Joins.below_alloc2 _ (.cells #[.int .i64 (x + dx), .int .i64 (y + dy)] 36) (.cells #[.int .i64 (x + dx), .int .i64 (y + dy), .int .i64 dx, .int .i64 dy] 134))
    clear p0 p1 p2 p3 pn
    generalize (w2.alloc (.cells #[.int .i64 (x + dx), .int .i64 (y + dy)] 36)).alloc (.cells #[.int .i64 (x + dx), .int .i64 (y + dy), .int .i64 dx, .int .i64 dy] 134) = V at *
    have k1 : (b = w2.heap.size + 1) = False := by simp; omega
    have k2 : (w2.heap.size + 1 = b) = False := by simp; omega
    have k4 : (w2.heap.size = w2.heap.size + 1) = False := by simp
    have k6 : (w2.heap.size + 1 = w2.heap.size) = False := by simp
    have k7 : (w.heap.size + 1 = w2.heap.size + 1) = False := by simp; omega
    have k8 : (w2.heap.size + 1 = w.heap.size + 1) = False := by simp; omega
    have HG := HG0
    have q0 := bp.cell 0
    have q1 := bp.cell 1
    have qn := bp.lt
    simp only [List.getElem?_toArray, List.getElem?_cons_zero, List.getElem?_cons_succ] at q0 q1
    have s0 := bn.cell 0
    have s1 := bn.cell 1
    have sn := bn.lt
    simp only [List.getElem?_toArray, List.getElem?_cons_zero, List.getElem?_cons_succ] at s0 s1
    have o0 := bo.cell 0
    have o1 := bo.cell 1
    have o2 := bo.cell 2
    have o3 := bo.cell 3
    have of0 := bo.free 0
    have of1 := bo.free 1
    have of2 := bo.free 2
    have of3 := bo.free 3
    have on := bo.lt
    simp only [List.getElem?_toArray, List.getElem?_cons_zero, List.getElem?_cons_succ] at o0 o1 o2 o3
    have r0 := br.cell 0
    have r1 := br.cell 1
    have r2 := br.cell 2
    have r3 := br.cell 3
    have rf0 := br.free 0
    have rf1 := br.free 1
    have rf2 := br.free 2
    have rf3 := br.free 3
    have rn := br.lt
    simp only [List.getElem?_toArray, List.getElem?_cons_zero, List.getElem?_cons_succ] at r0 r1 r2 r3
    go_quiet (fail)
    obtain ⟨nq1, hnq⟩ : ∃ m, m = nq := ⟨nq, rfl⟩
    subst hnq
    clear q0 q1 qn s0 s1 sn o0 o1 o2 o3 of0 of1 of2 of3 on r0 r1 r2 r3 rf0 rf1 rf2 rf3 rn
    replace bp := bp.drewN nq1
    replace br := br.drewN nq1
    replace bn := bn.drewN nq1
    replace bo := bo.drewN nq1
    replace hI2 := Row.drewN hI2 nq1
    replace bl := bl.trans (below_drewN _ _ nq1)
    generalize (V.drewN nq1) = V2 at *
    have q0 := bp.cell 0
    have q1 := bp.cell 1
    have qn := bp.lt
    simp only [List.getElem?_toArray, List.getElem?_cons_zero, List.getElem?_cons_succ] at q0 q1
    have s0 := bn.cell 0
    have s1 := bn.cell 1
    have sn := bn.lt
    simp only [List.getElem?_toArray, List.getElem?_cons_zero, List.getElem?_cons_succ] at s0 s1
    have o0 := bo.cell 0
    have o1 := bo.cell 1
    have o2 := bo.cell 2
    have o3 := bo.cell 3
    have of0 := bo.free 0
    have of1 := bo.free 1
    have of2 := bo.free 2
    have of3 := bo.free 3
    have on := bo.lt
    simp only [List.getElem?_toArray, List.getElem?_cons_zero, List.getElem?_cons_succ] at o0 o1 o2 o3
    have r0 := br.cell 0
    have r1 := br.cell 1
    have r2 := br.cell 2
    have r3 := br.cell 3
    have rf0 := br.free 0
    have rf1 := br.free 1
    have rf2 := br.free 2
    have rf3 := br.free 3
    have rn := br.lt
    simp only [List.getElem?_toArray, List.getElem?_cons_zero, List.getElem?_cons_succ] at r0 r1 r2 r3
    go_wp2
    clear q0 q1 qn s0 s1 sn o0 o1 o2 o3 of0 of1 of2 of3 on r0 r1 r2 r3 rf0 rf1 rf2 rf3 rn
    have q0 := bp.cell 0
    have q1 := bp.cell 1
    have qn := bp.lt
    simp only [List.getElem?_toArray, List.getElem?_cons_zero, List.getElem?_cons_succ] at q0 q1
    have s0 := bn.cell 0
    have s1 := bn.cell 1
    have sn := bn.lt
    simp only [List.getElem?_toArray, List.getElem?_cons_zero, List.getElem?_cons_succ] at s0 s1
    have o0 := bo.cell 0
    have o1 := bo.cell 1
    have o2 := bo.cell 2
    have o3 := bo.cell 3
    have of0 := bo.free 0
    have of1 := bo.free 1
    have of2 := bo.free 2
    have of3 := bo.free 3
    have on := bo.lt
    simp only [List.getElem?_toArray, List.getElem?_cons_zero, List.getElem?_cons_succ] at o0 o1 o2 o3
    have r0 := br.cell 0
    have r1 := br.cell 1
    have r2 := br.cell 2
    have r3 := br.cell 3
    have rf0 := br.free 0
    have rf1 := br.free 1
    have rf2 := br.free 2
    have rf3 := br.free 3
    have rn := br.lt
    simp only [List.getElem?_toArray, List.getElem?_cons_zero, List.getElem?_cons_succ] at r0 r1 r2 r3
    go_quiet (fail)
    obtain ⟨nq2, hnq⟩ : ∃ m, m = nq := ⟨nq, rfl⟩
    subst hnq
    clear q0 q1 qn s0 s1 sn o0 o1 o2 o3 of0 of1 of2 of3 on r0 r1 r2 r3 rf0 rf1 rf2 rf3 rn
    replace bp := bp.drewN nq2
    replace br := br.drewN nq2
    replace bn := bn.drewN nq2
    replace bo := bo.drewN nq2
    replace hI2 := Row.drewN hI2 nq2
    replace bl := bl.trans (below_drewN _ _ nq2)
    generalize (V2.drewN nq2) = V4 at *
    have q0 := bp.cell 0
    have q1 := bp.cell 1
    have qn := bp.lt
    simp only [List.getElem?_toArray, List.getElem?_cons_zero, List.getElem?_cons_succ] at q0 q1
    have s0 := bn.cell 0
    have s1 := bn.cell 1
    have sn := bn.lt
    simp only [List.getElem?_toArray, List.getElem?_cons_zero, List.getElem?_cons_succ] at s0 s1
    have o0 := bo.cell 0
    have o1 := bo.cell 1
    have o2 := bo.cell 2
    have o3 := bo.cell 3
    have of0 := bo.free 0
    have of1 := bo.free 1
    have of2 := bo.free 2
    have of3 := bo.free 3
    have on := bo.lt
    simp only [List.getElem?_toArray, List.getElem?_cons_zero, List.getElem?_cons_succ] at o0 o1 o2 o3
    have r0 := br.cell 0
    have r1 := br.cell 1
    have r2 := br.cell 2
    have r3 := br.cell 3
    have rf0 := br.free 0
    have rf1 := br.free 1
    have rf2 := br.free 2
    have rf3 := br.free 3
    have rn := br.lt
    simp only [List.getElem?_toArray, List.getElem?_cons_zero, List.getElem?_cons_succ] at r0 r1 r2 r3
    go_wp2_with fail
    clear q0 q1 qn s0 s1 sn o0 o1 o2 o3 of0 of1 of2 of3 on r0 r1 r2 r3 rf0 rf1 rf2 rf3 rn
    replace bo : Box (V4.setCell ⟨w2.heap.size + 1, 3, none⟩ (.int .i64 (-dy))) (w2.heap.size + 1) 134 #[.int .i64 (x + dx), .int .i64 (y + dy), .int .i64 dx, .int .i64 (-dy)] := by simpa using bo.set_ 3 (.int .i64 (-dy))
    replace bp := bp.setc (p := ⟨w2.heap.size + 1, 3, none⟩) (by show _ ≠ w2.heap.size + 1; omega) (.int .i64 (-dy))
    replace br := br.setc (p := ⟨w2.heap.size + 1, 3, none⟩) (by show _ ≠ w2.heap.size + 1; omega) (.int .i64 (-dy))
    replace bn := bn.setc (p := ⟨w2.heap.size + 1, 3, none⟩) (by show _ ≠ w2.heap.size + 1; omega) (.int .i64 (-dy))
    replace hI2 := Row.setCell hI2 (p := ⟨w2.heap.size + 1, 3, none⟩) (fun g hg => by have := HG.out g hg; show g ≠ w2.heap.size + 1; omega) (.int .i64 (-dy))
    replace bl := bl.setCell (p := ⟨w2.heap.size + 1, 3, none⟩) (by show w.heap.size ≤ w2.heap.size + 1; omega) (.int .i64 (-dy))
    generalize (V4.setCell ⟨w2.heap.size + 1, 3, none⟩ (.int .i64 (-dy))) = V5 at *
    refine (l02Edge_any (B := B) bp HW.out HH.out (yes_iff HE.out)).mono ?_
    rintro e w3 ⟨rfl, hb3⟩
    have sz3 := hb3.size
    replace bp := bp.below hb3
    replace br := br.below hb3
    replace bn := bn.below hb3
    replace bo := bo.below hb3
    replace hI2 := Row.below hI2 hb3
    replace bl := bnext bl hb3
    clear hb3
    have o0 := bo.cell 0
    have o1 := bo.cell 1
    have o2 := bo.cell 2
    have o3 := bo.cell 3
    have of0 := bo.free 0
    have of1 := bo.free 1
    have of2 := bo.free 2
    have of3 := bo.free 3
    have on := bo.lt
    simp only [List.getElem?_toArray, List.getElem?_cons_zero, List.getElem?_cons_succ] at o0 o1 o2 o3
    have r0 := br.cell 0
    have r1 := br.cell 1
    have r2 := br.cell 2
    have r3 := br.cell 3
    have rf0 := br.free 0
    have rf1 := br.free 1
    have rf2 := br.free 2
    have rf3 := br.free 3
    have rn := br.lt
    simp only [List.getElem?_toArray, List.getElem?_cons_zero, List.getElem?_cons_succ] at r0 r1 r2 r3
    go_wp2
    refine bodyPost_ret (v := .agg #[.int .i64 (x + dx), .int .i64 (y + dy), .int .i64 dx, .int .i64 (-dy)]) (by simp [results, Try.results155, go_sem, r0, r1, r2, r3, rf0, rf1, rf2, rf3, rn]) rfl ⟨rfl, ?_⟩
    exact (((bl.setCell (p := ⟨w.heap.size + 1, 0, none⟩) (by simp) _).setCell (p := ⟨w.heap.size + 1, 1, none⟩) (by simp) _).setCell (p := ⟨w.heap.size + 1, 2, none⟩) (by simp) _).setCell (p := ⟨w.heap.size + 1, 3, none⟩) (by simp) _
  · obtain ⟨e1, he, n1, n2, n3, hst⟩ := hcs
    rw [hst] at hr
    injection hr with f1 f2 f3 f4
    subst f1 f2 f3 f4
    have HE := Lib.hid he
    have t1 := eqb_t e1
    have t2 := eqb_f n1
    have t3 := eqb_f n2
    have t4 := eqb_f n3
    clear he hst e1 n1 n2 n3
    have p0 := bw.cell 0
    have p1 := bw.cell 1
    have p2 := bw.cell 2
    have p3 := bw.cell 3
    have pn := bw.lt
    simp only [List.getElem?_toArray, List.getElem?_cons_zero, List.getElem?_cons_succ] at p0 p1 p2 p3
    go_enter Try.func155, Try.ntmps155
    go_wp2_with fail
    refine (l03Next_any HN.out).mono ?_
    rintro e w2 ⟨rfl, hb2⟩
    have sz2 := hb2.size
    simp only [World.size_alloc] at sz2
    replace bp := bp.below hb2
    replace bw := bw.below hb2
    replace br := br.below hb2
    replace hI2 := Row.below hI2 hb2
    replace bl := bnext bl hb2
    clear p0 p1 p2 p3 pn hb2
    have p0 := bw.cell 0
    have p1 := bw.cell 1
    have p2 := bw.cell 2
    have p3 := bw.cell 3
    have pn := bw.lt
    simp only [List.getElem?_toArray, List.getElem?_cons_zero, List.getElem?_cons_succ] at p0 p1 p2 p3
    go_wp2
    replace bp := (bp.alloc (.cells #[.int .i64 (x + dx), .int .i64 (y + dy)] 36)).alloc (.cells #[.int .i64 (x + dx), .int .i64 (y + dy), .int .i64 dx, .int .i64 dy] 134)
    replace bw := (bw.alloc (.cells #[.int .i64 (x + dx), .int .i64 (y + dy)] 36)).alloc (.cells #[.int .i64 (x + dx), .int .i64 (y + dy), .int .i64 dx, .int .i64 dy] 134)
    replace br := (br.alloc (.cells #[.int .i64 (x + dx), .int .i64 (y + dy)] 36)).alloc (.cells #[.int .i64 (x + dx), .int .i64 (y + dy), .int .i64 dx, .int .i64 dy] 134)
    have bn := (Box.new w2 36 #[.int .i64 (x + dx), .int .i64 (y + dy)]).alloc (.cells #[.int .i64 (x + dx), .int .i64 (y + dy), .int .i64 dx, .int .i64 dy] 134)
    have bo := Box.new (w2.alloc (.cells #[.int .i64 (x + dx), .int .i64 (y + dy)] 36)) 134 #[.int .i64 (x + dx), .int .i64 (y + dy), .int .i64 dx, .int .i64 dy]
    rw [World.size_alloc] at bo
    replace hI2 := Row.below hI2 (Joins.below_alloc2 _ (.cells #[.int .i64 (x + dx), .int .i64 (y + dy)] 36) (.cells #[.int .i64 (x + dx), .int .i64 (y + dy), .int .i64 dx, .int .i64 dy] 134))
    replace bl := bnext bl (Joins.below_alloc2 _ (.cells #[.int .i64 (x + dx), .int .i64 (y + dy)] 36) (.cells #[.int .i64 (x + dx), .int .i64 (y + dy), .int .i64 dx, .int .i64 dy] 134))
    clear p0 p1 p2 p3 pn
    generalize (w2.alloc (.cells #[.int .i64 (x + dx), .int .i64 (y + dy)] 36)).alloc (.cells #[.int .i64 (x + dx), .int .i64 (y + dy), .int .i64 dx, .int .i64 dy] 134) = V at *
    have k1 : (b = w2.heap.size + 1) = False := by simp; omega
    have k2 : (w2.heap.size + 1 = b) = False := by simp; omega
    have k4 : (w2.heap.size = w2.heap.size + 1) = False := by simp
    have k6 : (w2.heap.size + 1 = w2.heap.size) = False := by simp
    have k7 : (w.heap.size + 1 = w2.heap.size + 1) = False := by simp; omega
    have k8 : (w2.heap.size + 1 = w.heap.size + 1) = False := by simp; omega
    have HG := HG0
    have q0 := bp.cell 0
    have q1 := bp.cell 1
    have qn := bp.lt
    simp only [List.getElem?_toArray, List.getElem?_cons_zero, List.getElem?_cons_succ] at q0 q1
    have s0 := bn.cell 0
    have s1 := bn.cell 1
    have sn := bn.lt
    simp only [List.getElem?_toArray, List.getElem?_cons_zero, List.getElem?_cons_succ] at s0 s1
    have o0 := bo.cell 0
    have o1 := bo.cell 1
    have o2 := bo.cell 2
    have o3 := bo.cell 3
    have of0 := bo.free 0
    have of1 := bo.free 1
    have of2 := bo.free 2
    have of3 := bo.free 3
    have on := bo.lt
    simp only [List.getElem?_toArray, List.getElem?_cons_zero, List.getElem?_cons_succ] at o0 o1 o2 o3
    have r0 := br.cell 0
    have r1 := br.cell 1
    have r2 := br.cell 2
    have r3 := br.cell 3
    have rf0 := br.free 0
    have rf1 := br.free 1
    have rf2 := br.free 2
    have rf3 := br.free 3
    have rn := br.lt
    simp only [List.getElem?_toArray, List.getElem?_cons_zero, List.getElem?_cons_succ] at r0 r1 r2 r3
    go_quiet (fail)
    obtain ⟨nq1, hnq⟩ : ∃ m, m = nq := ⟨nq, rfl⟩
    subst hnq
    clear q0 q1 qn s0 s1 sn o0 o1 o2 o3 of0 of1 of2 of3 on r0 r1 r2 r3 rf0 rf1 rf2 rf3 rn
    replace bp := bp.drewN nq1
    replace br := br.drewN nq1
    replace bn := bn.drewN nq1
    replace bo := bo.drewN nq1
    replace hI2 := Row.drewN hI2 nq1
    replace bl := bl.trans (below_drewN _ _ nq1)
    generalize (V.drewN nq1) = V2 at *
    have q0 := bp.cell 0
    have q1 := bp.cell 1
    have qn := bp.lt
    simp only [List.getElem?_toArray, List.getElem?_cons_zero, List.getElem?_cons_succ] at q0 q1
    have s0 := bn.cell 0
    have s1 := bn.cell 1
    have sn := bn.lt
    simp only [List.getElem?_toArray, List.getElem?_cons_zero, List.getElem?_cons_succ] at s0 s1
    have o0 := bo.cell 0
    have o1 := bo.cell 1
    have o2 := bo.cell 2
    have o3 := bo.cell 3
    have of0 := bo.free 0
    have of1 := bo.free 1
    have of2 := bo.free 2
    have of3 := bo.free 3
    have on := bo.lt
    simp only [List.getElem?_toArray, List.getElem?_cons_zero, List.getElem?_cons_succ] at o0 o1 o2 o3
    have r0 := br.cell 0
    have r1 := br.cell 1
    have r2 := br.cell 2
    have r3 := br.cell 3
    have rf0 := br.free 0
    have rf1 := br.free 1
    have rf2 := br.free 2
    have rf3 := br.free 3
    have rn := br.lt
    simp only [List.getElem?_toArray, List.getElem?_cons_zero, List.getElem?_cons_succ] at r0 r1 r2 r3
    go_wp2
    clear q0 q1 qn s0 s1 sn o0 o1 o2 o3 of0 of1 of2 of3 on r0 r1 r2 r3 rf0 rf1 rf2 rf3 rn
    have q0 := bp.cell 0
    have q1 := bp.cell 1
    have qn := bp.lt
    simp only [List.getElem?_toArray, List.getElem?_cons_zero, List.getElem?_cons_succ] at q0 q1
    have s0 := bn.cell 0
    have s1 := bn.cell 1
    have sn := bn.lt
    simp only [List.getElem?_toArray, List.getElem?_cons_zero, List.getElem?_cons_succ] at s0 s1
    have o0 := bo.cell 0
    have o1 := bo.cell 1
    have o2 := bo.cell 2
    have o3 := bo.cell 3
    have of0 := bo.free 0
    have of1 := bo.free 1
    have of2 := bo.free 2
    have of3 := bo.free 3
    have on := bo.lt
    simp only [List.getElem?_toArray, List.getElem?_cons_zero, List.getElem?_cons_succ] at o0 o1 o2 o3
    have r0 := br.cell 0
    have r1 := br.cell 1
    have r2 := br.cell 2
    have r3 := br.cell 3
    have rf0 := br.free 0
    have rf1 := br.free 1
    have rf2 := br.free 2
    have rf3 := br.free 3
    have rn := br.lt
    simp only [List.getElem?_toArray, List.getElem?_cons_zero, List.getElem?_cons_succ] at r0 r1 r2 r3
    go_quiet (fail)
    obtain ⟨nq2, hnq⟩ : ∃ m, m = nq := ⟨nq, rfl⟩
    subst hnq
    clear q0 q1 qn s0 s1 sn o0 o1 o2 o3 of0 of1 of2 of3 on r0 r1 r2 r3 rf0 rf1 rf2 rf3 rn
    replace bp := bp.drewN nq2
    replace br := br.drewN nq2
    replace bn := bn.drewN nq2
    replace bo := bo.drewN nq2
    replace hI2 := Row.drewN hI2 nq2
    replace bl := bl.trans (below_drewN _ _ nq2)
    generalize (V2.drewN nq2) = V4 at *
    have q0 := bp.cell 0
    have q1 := bp.cell 1
    have qn := bp.lt
    simp only [List.getElem?_toArray, List.getElem?_cons_zero, List.getElem?_cons_succ] at q0 q1
    have s0 := bn.cell 0
    have s1 := bn.cell 1
    have sn := bn.lt
    simp only [List.getElem?_toArray, List.getElem?_cons_zero, List.getElem?_cons_succ] at s0 s1
    have o0 := bo.cell 0
    have o1 := bo.cell 1
    have o2 := bo.cell 2
    have o3 := bo.cell 3
    have of0 := bo.free 0
    have of1 := bo.free 1
    have of2 := bo.free 2
    have of3 := bo.free 3
    have on := bo.lt
    simp only [List.getElem?_toArray, List.getElem?_cons_zero, List.getElem?_cons_succ] at o0 o1 o2 o3
    have r0 := br.cell 0
    have r1 := br.cell 1
    have r2 := br.cell 2
    have r3 := br.cell 3
    have rf0 := br.free 0
    have rf1 := br.free 1
    have rf2 := br.free 2
    have rf3 := br.free 3
    have rn := br.lt
    simp only [List.getElem?_toArray, List.getElem?_cons_zero, List.getElem?_cons_succ] at r0 r1 r2 r3
    go_wp2_with fail
    clear q0 q1 qn s0 s1 sn o0 o1 o2 o3 of0 of1 of2 of3 on r0 r1 r2 r3 rf0 rf1 rf2 rf3 rn
    replace bo : Box (V4.setCell ⟨w2.heap.size + 1, 3, none⟩ (.int .i64 (-dy))) (w2.heap.size + 1) 134 #[.int .i64 (x + dx), .int .i64 (y + dy), .int .i64 dx, .int .i64 (-dy)] := by simpa using bo.set_ 3 (.int .i64 (-dy))
    replace bp := bp.setc (p := ⟨w2.heap.size + 1, 3, none⟩) (by show _ ≠ w2.heap.size + 1; omega) (.int .i64 (-dy))
    replace br := br.setc (p := ⟨w2.heap.size + 1, 3, none⟩) (by show _ ≠ w2.heap.size + 1; omega) (.int .i64 (-dy))
    replace bn := bn.setc (p := ⟨w2.heap.size + 1, 3, none⟩) (by show _ ≠ w2.heap.size + 1; omega) (.int .i64 (-dy))
    replace hI2 := Row.setCell hI2 (p := ⟨w2.heap.size + 1, 3, none⟩) (fun g hg => by have := HG.out g hg; show g ≠ w2.heap.size + 1; omega) (.int .i64 (-dy))
    replace bl := bl.setCell (p := ⟨w2.heap.size + 1, 3, none⟩) (by show w.heap.size ≤ w2.heap.size + 1; omega) (.int .i64 (-dy))
    generalize (V4.setCell ⟨w2.heap.size + 1, 3, none⟩ (.int .i64 (-dy))) = V5 at *
    refine (l02Edge_any (B := B) bp HW.out HH.out (yes_iff HE.out)).mono ?_
    rintro e w3 ⟨rfl, hb3⟩
    have sz3 := hb3.size
    replace bp := bp.below hb3
    replace br := br.below hb3
    replace bn := bn.below hb3
    replace bo := bo.below hb3
    replace hI2 := Row.below hI2 hb3
    replace bl := bnext bl hb3
    clear hb3
    have o0 := bo.cell 0
    have o1 := bo.cell 1
    have o2 := bo.cell 2
    have o3 := bo.cell 3
    have of0 := bo.free 0
    have of1 := bo.free 1
    have of2 := bo.free 2
    have of3 := bo.free 3
    have on := bo.lt
    simp only [List.getElem?_toArray, List.getElem?_cons_zero, List.getElem?_cons_succ] at o0 o1 o2 o3
    have r0 := br.cell 0
    have r1 := br.cell 1
    have r2 := br.cell 2
    have r3 := br.cell 3
    have rf0 := br.free 0
    have rf1 := br.free 1
    have rf2 := br.free 2
    have rf3 := br.free 3
    have rn := br.lt
    simp only [List.getElem?_toArray, List.getElem?_cons_zero, List.getElem?_cons_succ] at r0 r1 r2 r3
    go_wp2
    refine bodyPost_ret (v := .agg #[.int .i64 (x + dx), .int .i64 (y + dy), .int .i64 dx, .int .i64 (-dy)]) (by simp [results, Try.results155, go_sem, r0, r1, r2, r3, rf0, rf1, rf2, rf3, rn]) rfl ⟨rfl, ?_⟩
    exact (((bl.setCell (p := ⟨w.heap.size + 1, 0, none⟩) (by simp) _).setCell (p := ⟨w.heap.size + 1, 1, none⟩) (by simp) _).setCell (p := ⟨w.heap.size + 1, 2, none⟩) (by simp) _).setCell (p := ⟨w.heap.size + 1, 3, none⟩) (by simp) _
  · obtain ⟨he, ⟨n1, n2, n3, n4⟩, ⟨i1, i2, i3, i4, i5⟩, ⟨m0, m1⟩, hk3⟩ := hcs
    have HX : Hid (1 ≤ x + dx ∧ x + dx ≤ 16) := Lib.hid ⟨i1, by omega⟩
    have HY : Hid (1 ≤ y + dy ∧ y + dy ≤ 16) := Lib.hid ⟨i3, by omega⟩
    clear i5
    rcases hk3 with ⟨hgk, hst⟩ | ⟨hgk, hst⟩ | ⟨hgk, hst⟩
    · rw [hst] at hr
      injection hr with f1 f2 f3 f4
      subst f1 f2 f3 f4
      have HE := Lib.hid he
      have t1 := eqb_f n1
      have t2 := eqb_f n2
      have t3 := eqb_f n3
      have t4 := eqb_f n4
      obtain ⟨m, hm⟩ : ∃ m, rowOf W (y + dy) + (x + dx - 1) / 2 = m := ⟨_, rfl⟩
      rw [hm] at m0 m1 hgk
      have HM := Lib.hid hm
      obtain ⟨g, rfl, _, _⟩ := hA (by omega)
      clear he hst n1 n2 n3 n4 hm hA
      have p0 := bw.cell 0
      have p1 := bw.cell 1
      have p2 := bw.cell 2
      have p3 := bw.cell 3
      have pn := bw.lt
      simp only [List.getElem?_toArray, List.getElem?_cons_zero, List.getElem?_cons_succ] at p0 p1 p2 p3
      go_enter Try.func155, Try.ntmps155
      go_wp2_with fail
      refine (l03Next_any HN.out).mono ?_
      rintro e w2 ⟨rfl, hb2⟩
      have sz2 := hb2.size
      simp only [World.size_alloc] at sz2
      replace bp := bp.below hb2
      replace bw := bw.below hb2
      replace br := br.below hb2
      replace hI2 := Row.below hI2 hb2
      replace bl := bnext bl hb2
      clear p0 p1 p2 p3 pn hb2
      have p0 := bw.cell 0
      have p1 := bw.cell 1
      have p2 := bw.cell 2
      have p3 := bw.cell 3
      have pn := bw.lt
      simp only [List.getElem?_toArray, List.getElem?_cons_zero, List.getElem?_cons_succ] at p0 p1 p2 p3
      go_wp2
      replace bp := (bp.alloc (.cells #[.int .i64 (x + dx), .int .i64 (y + dy)] 36)).alloc (.cells #[.int .i64 (x + dx), .int .i64 (y + dy), .int .i64 dx, .int .i64 dy] 134)
      replace bw := (bw.alloc (.cells #[.int .i64 (x + dx), .int .i64 (y + dy)] 36)).alloc (.cells #[.int .i64 (x + dx), .int .i64 (y + dy), .int .i64 dx, .int .i64 dy] 134)
      replace br := (br.alloc (.cells #[.int .i64 (x + dx), .int .i64 (y + dy)] 36)).alloc (.cells #[.int .i64 (x + dx), .int .i64 (y + dy), .int .i64 dx, .int .i64 dy] 134)
      have bn := (Box.new w2 36 #[.int .i64 (x + dx), .int .i64 (y + dy)]).alloc (.cells #[.int .i64 (x + dx), .int .i64 (y + dy), .int .i64 dx, .int .i64 dy] 134)
      have bo := Box.new (w2.alloc (.cells #[.int .i64 (x + dx), .int .i64 (y + dy)] 36)) 134 #[.int .i64 (x + dx), .int .i64 (y + dy), .int .i64 dx, .int .i64 dy]
      rw [World.size_alloc] at bo
      replace hI2 := Row.below hI2 (Joins.below_alloc2 _ (.cells #[.int .i64 (x + dx), .int .i64 (y + dy)] 36) (.cells #[.int .i64 (x + dx), .int .i64 (y + dy), .int .i64 dx, .int .i64 dy] 134))
      replace bl := bnext bl (Joins.below_alloc2 _ (.cells #[.int .i64 (x + dx), .int .i64 (y + dy)] 36) (.cells #[.int .i64 (x + dx), .int .i64 (y + dy), .int .i64 dx, .int .i64 dy] 134))
      clear p0 p1 p2 p3 pn
      generalize (w2.alloc (.cells #[.int .i64 (x + dx), .int .i64 (y + dy)] 36)).alloc (.cells #[.int .i64 (x + dx), .int .i64 (y + dy), .int .i64 dx, .int .i64 dy] 134) = V at *
      have k1 : (b = w2.heap.size + 1) = False := by simp; omega
      have k2 : (w2.heap.size + 1 = b) = False := by simp; omega
      have k4 : (w2.heap.size = w2.heap.size + 1) = False := by simp
      have k6 : (w2.heap.size + 1 = w2.heap.size) = False := by simp
      have k7 : (w.heap.size + 1 = w2.heap.size + 1) = False := by simp; omega
      have k8 : (w2.heap.size + 1 = w.heap.size + 1) = False := by simp; omega
      have HG := HG0
      have q0 := bp.cell 0
      have q1 := bp.cell 1
      have qn := bp.lt
      simp only [List.getElem?_toArray, List.getElem?_cons_zero, List.getElem?_cons_succ] at q0 q1
      have s0 := bn.cell 0
      have s1 := bn.cell 1
      have sn := bn.lt
      simp only [List.getElem?_toArray, List.getElem?_cons_zero, List.getElem?_cons_succ] at s0 s1
      have o0 := bo.cell 0
      have o1 := bo.cell 1
      have o2 := bo.cell 2
      have o3 := bo.cell 3
      have of0 := bo.free 0
      have of1 := bo.free 1
      have of2 := bo.free 2
      have of3 := bo.free 3
      have on := bo.lt
      simp only [List.getElem?_toArray, List.getElem?_cons_zero, List.getElem?_cons_succ] at o0 o1 o2 o3
      have r0 := br.cell 0
      have r1 := br.cell 1
      have r2 := br.cell 2
      have r3 := br.cell 3
      have rf0 := br.free 0
      have rf1 := br.free 1
      have rf2 := br.free 2
      have rf3 := br.free 3
      have rn := br.lt
      simp only [List.getElem?_toArray, List.getElem?_cons_zero, List.getElem?_cons_succ] at r0 r1 r2 r3
      go_quiet (fail)
      obtain ⟨nq1, hnq⟩ : ∃ m, m = nq := ⟨nq, rfl⟩
      subst hnq
      clear q0 q1 qn s0 s1 sn o0 o1 o2 o3 of0 of1 of2 of3 on r0 r1 r2 r3 rf0 rf1 rf2 rf3 rn
      replace bp := bp.drewN nq1
      replace br := br.drewN nq1
      replace bn := bn.drewN nq1
      replace bo := bo.drewN nq1
      replace hI2 := Row.drewN hI2 nq1
      replace bl := bl.trans (below_drewN _ _ nq1)
      generalize (V.drewN nq1) = V2 at *
      have q0 := bp.cell 0
      have q1 := bp.cell 1
      have qn := bp.lt
      simp only [List.getElem?_toArray, List.getElem?_cons_zero, List.getElem?_cons_succ] at q0 q1
      have s0 := bn.cell 0
      have s1 := bn.cell 1
      have sn := bn.lt
      simp only [List.getElem?_toArray, List.getElem?_cons_zero, List.getElem?_cons_succ] at s0 s1
      have o0 := bo.cell 0
      have o1 := bo.cell 1
      have o2 := bo.cell 2
      have o3 := bo.cell 3
      have of0 := bo.free 0
      have of1 := bo.free 1
      have of2 := bo.free 2
      have of3 := bo.free 3
      have on := bo.lt
      simp only [List.getElem?_toArray, List.getElem?_cons_zero, List.getElem?_cons_succ] at o0 o1 o2 o3
      have r0 := br.cell 0
      have r1 := br.cell 1
      have r2 := br.cell 2
      have r3 := br.cell 3
      have rf0 := br.free 0
      have rf1 := br.free 1
      have rf2 := br.free 2
      have rf3 := br.free 3
      have rn := br.lt
      simp only [List.getElem?_toArray, List.getElem?_cons_zero, List.getElem?_cons_succ] at r0 r1 r2 r3
      go_wp2
      clear q0 q1 qn s0 s1 sn o0 o1 o2 o3 of0 of1 of2 of3 on r0 r1 r2 r3 rf0 rf1 rf2 rf3 rn
      have q0 := bp.cell 0
      have q1 := bp.cell 1
      have qn := bp.lt
      simp only [List.getElem?_toArray, List.getElem?_cons_zero, List.getElem?_cons_succ] at q0 q1
      have s0 := bn.cell 0
      have s1 := bn.cell 1
      have sn := bn.lt
      simp only [List.getElem?_toArray, List.getElem?_cons_zero, List.getElem?_cons_succ] at s0 s1
      have o0 := bo.cell 0
      have o1 := bo.cell 1
      have o2 := bo.cell 2
      have o3 := bo.cell 3
      have of0 := bo.free 0
      have of1 := bo.free 1
      have of2 := bo.free 2
      have of3 := bo.free 3
      have on := bo.lt
      simp only [List.getElem?_toArray, List.getElem?_cons_zero, List.getElem?_cons_succ] at o0 o1 o2 o3
      have r0 := br.cell 0
      have r1 := br.cell 1
      have r2 := br.cell 2
      have r3 := br.cell 3
      have rf0 := br.free 0
      have rf1 := br.free 1
      have rf2 := br.free 2
      have rf3 := br.free 3
      have rn := br.lt
      simp only [List.getElem?_toArray, List.getElem?_cons_zero, List.getElem?_cons_succ] at r0 r1 r2 r3
      go_quiet (fail)
      obtain ⟨nq2, hnq⟩ : ∃ m, m = nq := ⟨nq, rfl⟩
      subst hnq
      clear q0 q1 qn s0 s1 sn o0 o1 o2 o3 of0 of1 of2 of3 on r0 r1 r2 r3 rf0 rf1 rf2 rf3 rn
      replace bp := bp.drewN nq2
      replace br := br.drewN nq2
      replace bn := bn.drewN nq2
      replace bo := bo.drewN nq2
      replace hI2 := Row.drewN hI2 nq2
      replace bl := bl.trans (below_drewN _ _ nq2)
      generalize (V2.drewN nq2) = V4 at *
      have q0 := bp.cell 0
      have q1 := bp.cell 1
      have qn := bp.lt
      simp only [List.getElem?_toArray, List.getElem?_cons_zero, List.getElem?_cons_succ] at q0 q1
      have s0 := bn.cell 0
      have s1 := bn.cell 1
      have sn := bn.lt
      simp only [List.getElem?_toArray, List.getElem?_cons_zero, List.getElem?_cons_succ] at s0 s1
      have o0 := bo.cell 0
      have o1 := bo.cell 1
      have o2 := bo.cell 2
      have o3 := bo.cell 3
      have of0 := bo.free 0
      have of1 := bo.free 1
      have of2 := bo.free 2
      have of3 := bo.free 3
      have on := bo.lt
      simp only [List.getElem?_toArray, List.getElem?_cons_zero, List.getElem?_cons_succ] at o0 o1 o2 o3
      have r0 := br.cell 0
      have r1 := br.cell 1
      have r2 := br.cell 2
      have r3 := br.cell 3
      have rf0 := br.free 0
      have rf1 := br.free 1
      have rf2 := br.free 2
      have rf3 := br.free 3
      have rn := br.lt
      simp only [List.getElem?_toArray, List.getElem?_cons_zero, List.getElem?_cons_succ] at r0 r1 r2 r3
      go_wp2_with fail
      clear q0 q1 qn s0 s1 sn o0 o1 o2 o3 of0 of1 of2 of3 on r0 r1 r2 r3 rf0 rf1 rf2 rf3 rn
      refine (l02Edge_any (B := B) bp HW.out HH.out (no_iff HE.out)).mono ?_
      rintro e w3 ⟨rfl, hb3⟩
      have sz3 := hb3.size
      replace bp := bp.below hb3
      replace br := br.below hb3
      replace bn := bn.below hb3
      replace bo := bo.below hb3
      replace hI2 := Row.below hI2 hb3
      replace bl := bnext bl hb3
      clear hb3
      have cc := Ints.cellI hI2 (i := m) m0 m1
      rw [hgk] at cc
      have q0 := bp.cell 0
      have q1 := bp.cell 1
      have q2 := bp.cell 2
      have qn := bp.lt
      simp only [List.getElem?_toArray, List.getElem?_cons_zero, List.getElem?_cons_succ] at q0 q1 q2
      have s0 := bn.cell 0
      have s1 := bn.cell 1
      have sn := bn.lt
      simp only [List.getElem?_toArray, List.getElem?_cons_zero, List.getElem?_cons_succ] at s0 s1
      have KS : Hid (∀ w', Below w3.heap.size w3 w' → (Below w3.heap.size w3 w' ∧ w'.cell? ⟨b, 0, none⟩ = some (.int .i64 W) ∧ w'.cell? ⟨b, 1, none⟩ = some (.int .i64 H) ∧ w'.cell? ⟨b, 2, none⟩ = some (.slice (some ⟨g, 0, none⟩) B.length cA) ∧ w'.cell? ⟨w2.heap.size, 0, none⟩ = some (.int .i64 (x + dx)) ∧ w'.cell? ⟨w2.heap.size, 1, none⟩ = some (.int .i64 (y + dy)) ∧ w'.cell? ⟨g, m.toNat, none⟩ = some (.int .i64 0))) := Lib.hid (fun x hx => ⟨hx, (bp.below hx).cell 0, (bp.below hx).cell 1, (bp.below hx).cell 2, (bn.below hx).cell 0, (bn.below hx).cell 1, keep_cell hx cc⟩)
      have KB : Hid (∀ w', Below w3.heap.size w3 w' → Box w' b 30 #[.int .i64 W, .int .i64 H, .slice (some ⟨g, 0, none⟩) B.length cA]) := Lib.hid (fun x hx => bp.below hx)
      clear hgk
      go_wp2
      go_region_held3 (fun w' => Below w3.heap.size w3 w' ∧ w'.cell? ⟨b, 0, none⟩ = some (.int .i64 W) ∧ w'.cell? ⟨b, 1, none⟩ = some (.int .i64 H) ∧ w'.cell? ⟨b, 2, none⟩ = some (.slice (some ⟨g, 0, none⟩) B.length cA) ∧ w'.cell? ⟨w2.heap.size, 0, none⟩ = some (.int .i64 (x + dx)) ∧ w'.cell? ⟨w2.heap.size, 1, none⟩ = some (.int .i64 (y + dy)) ∧ w'.cell? ⟨g, m.toNat, none⟩ = some (.int .i64 0))
        ((refine KS.out _ ?_; first | exact cut_drew | exact hBn))
        ((go_at_call 123; go_split_ands; (with_reducible refine (l02Number_any (KB.out _ (by assumption)) HW.out HX.out HY.out HM.out).mono ?_); rintro e w4 ⟨rfl, hb4⟩; have hBn := bnext (w := w3) (by assumption) hb4))
      go_split_ands
      clear q0 q1 q2 qn s0 s1 sn KS KB cc
      replace bp := bp.below hBn
      replace br := br.below hBn
      replace bn := bn.below hBn
      replace bo := bo.below hBn
      replace bl := bnext bl hBn
      have sz4 := hBn.size
      clear hBn hb4
      have o0 := bo.cell 0
      have o1 := bo.cell 1
      have o2 := bo.cell 2
      have o3 := bo.cell 3
      have of0 := bo.free 0
      have of1 := bo.free 1
      have of2 := bo.free 2
      have of3 := bo.free 3
      have on := bo.lt
      simp only [List.getElem?_toArray, List.getElem?_cons_zero, List.getElem?_cons_succ] at o0 o1 o2 o3
      have r0 := br.cell 0
      have r1 := br.cell 1
      have r2 := br.cell 2
      have r3 := br.cell 3
      have rf0 := br.free 0
      have rf1 := br.free 1
      have rf2 := br.free 2
      have rf3 := br.free 3
      have rn := br.lt
      simp only [List.getElem?_toArray, List.getElem?_cons_zero, List.getElem?_cons_succ] at r0 r1 r2 r3
      go_wp2
      refine bodyPost_ret (v := .agg #[.int .i64 (x + dx), .int .i64 (y + dy), .int .i64 dx, .int .i64 dy]) (by simp [results, Try.results155, go_sem, r0, r1, r2, r3, rf0, rf1, rf2, rf3, rn]) rfl ⟨rfl, ?_⟩
      exact (((bl.setCell (p := ⟨w.heap.size + 1, 0, none⟩) (by simp) _).setCell (p := ⟨w.heap.size + 1, 1, none⟩) (by simp) _).setCell (p := ⟨w.heap.size + 1, 2, none⟩) (by simp) _).setCell (p := ⟨w.heap.size + 1, 3, none⟩) (by simp) _
    · rw [hst] at hr
      injection hr with f1 f2 f3 f4
      subst f1 f2 f3 f4
      have HE := Lib.hid he
      have t1 := eqb_f n1
      have t2 := eqb_f n2
      have t3 := eqb_f n3
      have t4 := eqb_f n4
      obtain ⟨m, hm⟩ : ∃ m, rowOf W (y + dy) + (x + dx - 1) / 2 = m := ⟨_, rfl⟩
      rw [hm] at m0 m1 hgk
      have HM := Lib.hid hm
      obtain ⟨g, rfl, _, _⟩ := hA (by omega)
      clear he hst n1 n2 n3 n4 hm hA
      have p0 := bw.cell 0
      have p1 := bw.cell 1
      have p2 := bw.cell 2
      have p3 := bw.cell 3
      have pn := bw.lt
      simp only [List.getElem?_toArray, List.getElem?_cons_zero, List.getElem?_cons_succ] at p0 p1 p2 p3
      go_enter Try.func155, Try.ntmps155
      go_wp2_with fail
      refine (l03Next_any HN.out).mono ?_
      rintro e w2 ⟨rfl, hb2⟩
      have sz2 := hb2.size
      simp only [World.size_alloc] at sz2
      replace bp := bp.below hb2
      replace bw := bw.below hb2
      replace br := br.below hb2
      replace hI2 := Row.below hI2 hb2
      replace bl := bnext bl hb2
      clear p0 p1 p2 p3 pn hb2
      have p0 := bw.cell 0
      have p1 := bw.cell 1
      have p2 := bw.cell 2
      have p3 := bw.cell 3
      have pn := bw.lt
      simp only [List.getElem?_toArray, List.getElem?_cons_zero, List.getElem?_cons_succ] at p0 p1 p2 p3
      go_wp2
      replace bp := (bp.alloc (.cells #[.int .i64 (x + dx), .int .i64 (y + dy)] 36)).alloc (.cells #[.int .i64 (x + dx), .int .i64 (y + dy), .int .i64 dx, .int .i64 dy] 134)
      replace bw := (bw.alloc (.cells #[.int .i64 (x + dx), .int .i64 (y + dy)] 36)).alloc (.cells #[.int .i64 (x + dx), .int .i64 (y + dy), .int .i64 dx, .int .i64 dy] 134)
      replace br := (br.alloc (.cells #[.int .i64 (x + dx), .int .i64 (y + dy)] 36)).alloc (.cells #[.int .i64 (x + dx), .int .i64 (y + dy), .int .i64 dx, .int .i64 dy] 134)
      have bn := (Box.new w2 36 #[.int .i64 (x + dx), .int .i64 (y + dy)]).alloc (.cells #[.int .i64 (x + dx), .int .i64 (y + dy), .int .i64 dx, .int .i64 dy] 134)
      have bo := Box.new (w2.alloc (.cells #[.int .i64 (x + dx), .int .i64 (y + dy)] 36)) 134 #[.int .i64 (x + dx), .int .i64 (y + dy), .int .i64 dx, .int .i64 dy]
      rw [World.size_alloc] at bo
      replace hI2 := Row.below hI2 (Joins.below_alloc2 _ (.cells #[.int .i64 (x + dx), .int .i64 (y + dy)] 36) (.cells #[.int .i64 (x + dx), .int .i64 (y + dy), .int .i64 dx, .int .i64 dy] 134))
      replace bl := bnext bl (Joins.below_alloc2 _ (.cells #[.int .i64 (x + dx), .int .i64 (y + dy)] 36) (.cells #[.int .i64 (x + dx), .int .i64 (y + dy), .int .i64 dx, .int .i64 dy] 134))
      clear p0 p1 p2 p3 pn
      generalize (w2.alloc (.cells #[.int .i64 (x + dx), .int .i64 (y + dy)] 36)).alloc (.cells #[.int .i64 (x + dx), .int .i64 (y + dy), .int .i64 dx, .int .i64 dy] 134) = V at *
      have k1 : (b = w2.heap.size + 1) = False := by simp; omega
      have k2 : (w2.heap.size + 1 = b) = False := by simp; omega
      have k4 : (w2.heap.size = w2.heap.size + 1) = False := by simp
      have k6 : (w2.heap.size + 1 = w2.heap.size) = False := by simp
      have k7 : (w.heap.size + 1 = w2.heap.size + 1) = False := by simp; omega
      have k8 : (w2.heap.size + 1 = w.heap.size + 1) = False := by simp; omega
      have HG := HG0
      have q0 := bp.cell 0
      have q1 := bp.cell 1
      have qn := bp.lt
      simp only [List.getElem?_toArray, List.getElem?_cons_zero, List.getElem?_cons_succ] at q0 q1
      have s0 := bn.cell 0
      have s1 := bn.cell 1
      have sn := bn.lt
      simp only [List.getElem?_toArray, List.getElem?_cons_zero, List.getElem?_cons_succ] at s0 s1
      have o0 := bo.cell 0
      have o1 := bo.cell 1
      have o2 := bo.cell 2
      have o3 := bo.cell 3
      have of0 := bo.free 0
      have of1 := bo.free 1
      have of2 := bo.free 2
      have of3 := bo.free 3
      have on := bo.lt
      simp only [List.getElem?_toArray, List.getElem?_cons_zero, List.getElem?_cons_succ] at o0 o1 o2 o3
      have r0 := br.cell 0
      have r1 := br.cell 1
      have r2 := br.cell 2
      have r3 := br.cell 3
      have rf0 := br.free 0
      have rf1 := br.free 1
      have rf2 := br.free 2
      have rf3 := br.free 3
      have rn := br.lt
      simp only [List.getElem?_toArray, List.getElem?_cons_zero, List.getElem?_cons_succ] at r0 r1 r2 r3
      go_quiet (fail)
      obtain ⟨nq1, hnq⟩ : ∃ m, m = nq := ⟨nq, rfl⟩
      subst hnq
      clear q0 q1 qn s0 s1 sn o0 o1 o2 o3 of0 of1 of2 of3 on r0 r1 r2 r3 rf0 rf1 rf2 rf3 rn
      replace bp := bp.drewN nq1
      replace br := br.drewN nq1
      replace bn := bn.drewN nq1
      replace bo := bo.drewN nq1
      replace hI2 := Row.drewN hI2 nq1
      replace bl := bl.trans (below_drewN _ _ nq1)
      generalize (V.drewN nq1) = V2 at *
      have q0 := bp.cell 0
      have q1 := bp.cell 1
      have qn := bp.lt
      simp only [List.getElem?_toArray, List.getElem?_cons_zero, List.getElem?_cons_succ] at q0 q1
      have s0 := bn.cell 0
      have s1 := bn.cell 1
      have sn := bn.lt
      simp only [List.getElem?_toArray, List.getElem?_cons_zero, List.getElem?_cons_succ] at s0 s1
      have o0 := bo.cell 0
      have o1 := bo.cell 1
      have o2 := bo.cell 2
      have o3 := bo.cell 3
      have of0 := bo.free 0
      have of1 := bo.free 1
      have of2 := bo.free 2
      have of3 := bo.free 3
      have on := bo.lt
      simp only [List.getElem?_toArray, List.getElem?_cons_zero, List.getElem?_cons_succ] at o0 o1 o2 o3
      have r0 := br.cell 0
      have r1 := br.cell 1
      have r2 := br.cell 2
      have r3 := br.cell 3
      have rf0 := br.free 0
      have rf1 := br.free 1
      have rf2 := br.free 2
      have rf3 := br.free 3
      have rn := br.lt
      simp only [List.getElem?_toArray, List.getElem?_cons_zero, List.getElem?_cons_succ] at r0 r1 r2 r3
      go_wp2
      clear q0 q1 qn s0 s1 sn o0 o1 o2 o3 of0 of1 of2 of3 on r0 r1 r2 r3 rf0 rf1 rf2 rf3 rn
      have q0 := bp.cell 0
      have q1 := bp.cell 1
      have qn := bp.lt
      simp only [List.getElem?_toArray, List.getElem?_cons_zero, List.getElem?_cons_succ] at q0 q1
      have s0 := bn.cell 0
      have s1 := bn.cell 1
      have sn := bn.lt
      simp only [List.getElem?_toArray, List.getElem?_cons_zero, List.getElem?_cons_succ] at s0 s1
      have o0 := bo.cell 0
      have o1 := bo.cell 1
      have o2 := bo.cell 2
      have o3 := bo.cell 3
      have of0 := bo.free 0
      have of1 := bo.free 1
      have of2 := bo.free 2
      have of3 := bo.free 3
      have on := bo.lt
      simp only [List.getElem?_toArray, List.getElem?_cons_zero, List.getElem?_cons_succ] at o0 o1 o2 o3
      have r0 := br.cell 0
      have r1 := br.cell 1
      have r2 := br.cell 2
      have r3 := br.cell 3
      have rf0 := br.free 0
      have rf1 := br.free 1
      have rf2 := br.free 2
      have rf3 := br.free 3
      have rn := br.lt
      simp only [List.getElem?_toArray, List.getElem?_cons_zero, List.getElem?_cons_succ] at r0 r1 r2 r3
      go_quiet (fail)
      obtain ⟨nq2, hnq⟩ : ∃ m, m = nq := ⟨nq, rfl⟩
      subst hnq
      clear q0 q1 qn s0 s1 sn o0 o1 o2 o3 of0 of1 of2 of3 on r0 r1 r2 r3 rf0 rf1 rf2 rf3 rn
      replace bp := bp.drewN nq2
      replace br := br.drewN nq2
      replace bn := bn.drewN nq2
      replace bo := bo.drewN nq2
      replace hI2 := Row.drewN hI2 nq2
      replace bl := bl.trans (below_drewN _ _ nq2)
      generalize (V2.drewN nq2) = V4 at *
      have q0 := bp.cell 0
      have q1 := bp.cell 1
      have qn := bp.lt
      simp only [List.getElem?_toArray, List.getElem?_cons_zero, List.getElem?_cons_succ] at q0 q1
      have s0 := bn.cell 0
      have s1 := bn.cell 1
      have sn := bn.lt
      simp only [List.getElem?_toArray, List.getElem?_cons_zero, List.getElem?_cons_succ] at s0 s1
      have o0 := bo.cell 0
      have o1 := bo.cell 1
      have o2 := bo.cell 2
      have o3 := bo.cell 3
      have of0 := bo.free 0
      have of1 := bo.free 1
      have of2 := bo.free 2
      have of3 := bo.free 3
      have on := bo.lt
      simp only [List.getElem?_toArray, List.getElem?_cons_zero, List.getElem?_cons_succ] at o0 o1 o2 o3
      have r0 := br.cell 0
      have r1 := br.cell 1
      have r2 := br.cell 2
      have r3 := br.cell 3
      have rf0 := br.free 0
      have rf1 := br.free 1
      have rf2 := br.free 2
      have rf3 := br.free 3
      have rn := br.lt
      simp only [List.getElem?_toArray, List.getElem?_cons_zero, List.getElem?_cons_succ] at r0 r1 r2 r3
      go_wp2_with fail
      clear q0 q1 qn s0 s1 sn o0 o1 o2 o3 of0 of1 of2 of3 on r0 r1 r2 r3 rf0 rf1 rf2 rf3 rn
      refine (l02Edge_any (B := B) bp HW.out HH.out (no_iff HE.out)).mono ?_
      rintro e w3 ⟨rfl, hb3⟩
      have sz3 := hb3.size
      replace bp := bp.below hb3
      replace br := br.below hb3
      replace bn := bn.below hb3
      replace bo := bo.below hb3
      replace hI2 := Row.below hI2 hb3
      replace bl := bnext bl hb3
      clear hb3
      have cc := Ints.cellI hI2 (i := m) m0 m1
      rw [hgk] at cc
      have q0 := bp.cell 0
      have q1 := bp.cell 1
      have q2 := bp.cell 2
      have qn := bp.lt
      simp only [List.getElem?_toArray, List.getElem?_cons_zero, List.getElem?_cons_succ] at q0 q1 q2
      have s0 := bn.cell 0
      have s1 := bn.cell 1
      have sn := bn.lt
      simp only [List.getElem?_toArray, List.getElem?_cons_zero, List.getElem?_cons_succ] at s0 s1
      have KS : Hid (∀ w', Below w3.heap.size w3 w' → (Below w3.heap.size w3 w' ∧ w'.cell? ⟨b, 0, none⟩ = some (.int .i64 W) ∧ w'.cell? ⟨b, 1, none⟩ = some (.int .i64 H) ∧ w'.cell? ⟨b, 2, none⟩ = some (.slice (some ⟨g, 0, none⟩) B.length cA) ∧ w'.cell? ⟨w2.heap.size, 0, none⟩ = some (.int .i64 (x + dx)) ∧ w'.cell? ⟨w2.heap.size, 1, none⟩ = some (.int .i64 (y + dy)) ∧ w'.cell? ⟨g, m.toNat, none⟩ = some (.int .i64 1))) := Lib.hid (fun x hx => ⟨hx, (bp.below hx).cell 0, (bp.below hx).cell 1, (bp.below hx).cell 2, (bn.below hx).cell 0, (bn.below hx).cell 1, keep_cell hx cc⟩)
      have KB : Hid (∀ w', Below w3.heap.size w3 w' → Box w' b 30 #[.int .i64 W, .int .i64 H, .slice (some ⟨g, 0, none⟩) B.length cA]) := Lib.hid (fun x hx => bp.below hx)
      clear hgk
      go_wp2
      go_region_held3 (fun w' => Below w3.heap.size w3 w' ∧ w'.cell? ⟨b, 0, none⟩ = some (.int .i64 W) ∧ w'.cell? ⟨b, 1, none⟩ = some (.int .i64 H) ∧ w'.cell? ⟨b, 2, none⟩ = some (.slice (some ⟨g, 0, none⟩) B.length cA) ∧ w'.cell? ⟨w2.heap.size, 0, none⟩ = some (.int .i64 (x + dx)) ∧ w'.cell? ⟨w2.heap.size, 1, none⟩ = some (.int .i64 (y + dy)) ∧ w'.cell? ⟨g, m.toNat, none⟩ = some (.int .i64 1))
        ((refine KS.out _ ?_; first | exact cut_drew | exact hBn))
        ((go_at_call 123; go_split_ands; (with_reducible refine (l02Number_any (KB.out _ (by assumption)) HW.out HX.out HY.out HM.out).mono ?_); rintro e w4 ⟨rfl, hb4⟩; have hBn := bnext (w := w3) (by assumption) hb4))
      go_split_ands
      clear q0 q1 q2 qn s0 s1 sn KS KB cc
      replace bp := bp.below hBn
      replace br := br.below hBn
      replace bn := bn.below hBn
      replace bo := bo.below hBn
      replace bl := bnext bl hBn
      have sz4 := hBn.size
      clear hBn hb4
      have o0 := bo.cell 0
      have o1 := bo.cell 1
      have o2 := bo.cell 2
      have o3 := bo.cell 3
      have of0 := bo.free 0
      have of1 := bo.free 1
      have of2 := bo.free 2
      have of3 := bo.free 3
      have on := bo.lt
      simp only [List.getElem?_toArray, List.getElem?_cons_zero, List.getElem?_cons_succ] at o0 o1 o2 o3
      have r0 := br.cell 0
      have r1 := br.cell 1
      have r2 := br.cell 2
      have r3 := br.cell 3
      have rf0 := br.free 0
      have rf1 := br.free 1
      have rf2 := br.free 2
      have rf3 := br.free 3
      have rn := br.lt
      simp only [List.getElem?_toArray, List.getElem?_cons_zero, List.getElem?_cons_succ] at r0 r1 r2 r3
      go_wp2
      refine bodyPost_ret (v := .agg #[.int .i64 (x + dx), .int .i64 (y + dy), .int .i64 (-dx), .int .i64 dy]) (by simp [results, Try.results155, go_sem, r0, r1, r2, r3, rf0, rf1, rf2, rf3, rn]) rfl ⟨rfl, ?_⟩
      replace bl := bl.setCell (p := ⟨w2.heap.size + 1, 2, none⟩) (by show w.heap.size ≤ w2.heap.size + 1; omega) (.int .i64 (-dx))
      exact (((bl.setCell (p := ⟨w.heap.size + 1, 0, none⟩) (by simp) _).setCell (p := ⟨w.heap.size + 1, 1, none⟩) (by simp) _).setCell (p := ⟨w.heap.size + 1, 2, none⟩) (by simp) _).setCell (p := ⟨w.heap.size + 1, 3, none⟩) (by simp) _
    · rw [hst] at hr
      injection hr with f1 f2 f3 f4
      subst f1 f2 f3 f4
      have HE := Lib.hid he
      have t1 := eqb_f n1
      have t2 := eqb_f n2
      have t3 := eqb_f n3
      have t4 := eqb_f n4
      obtain ⟨m, hm⟩ : ∃ m, rowOf W (y + dy) + (x + dx - 1) / 2 = m := ⟨_, rfl⟩
      rw [hm] at m0 m1 hgk
      have HM := Lib.hid hm
      obtain ⟨g, rfl, _, _⟩ := hA (by omega)
      clear he hst n1 n2 n3 n4 hm hA
      have p0 := bw.cell 0
      have p1 := bw.cell 1
      have p2 := bw.cell 2
      have p3 := bw.cell 3
      have pn := bw.lt
      simp only [List.getElem?_toArray, List.getElem?_cons_zero, List.getElem?_cons_succ] at p0 p1 p2 p3
      go_enter Try.func155, Try.ntmps155
      go_wp2_with fail
      refine (l03Next_any HN.out).mono ?_
      rintro e w2 ⟨rfl, hb2⟩
      have sz2 := hb2.size
      simp only [World.size_alloc] at sz2
      replace bp := bp.below hb2
      replace bw := bw.below hb2
      replace br := br.below hb2
      replace hI2 := Row.below hI2 hb2
      replace bl := bnext bl hb2
      clear p0 p1 p2 p3 pn hb2
      have p0 := bw.cell 0
      have p1 := bw.cell 1
      have p2 := bw.cell 2
      have p3 := bw.cell 3
      have pn := bw.lt
      simp only [List.getElem?_toArray, List.getElem?_cons_zero, List.getElem?_cons_succ] at p0 p1 p2 p3
      go_wp2
      replace bp := (bp.alloc (.cells #[.int .i64 (x + dx), .int .i64 (y + dy)] 36)).alloc (.cells #[.int .i64 (x + dx), .int .i64 (y + dy), .int .i64 dx, .int .i64 dy] 134)
      replace bw := (bw.alloc (.cells #[.int .i64 (x + dx), .int .i64 (y + dy)] 36)).alloc (.cells #[.int .i64 (x + dx), .int .i64 (y + dy), .int .i64 dx, .int .i64 dy] 134)
      replace br := (br.alloc (.cells #[.int .i64 (x + dx), .int .i64 (y + dy)] 36)).alloc (.cells #[.int .i64 (x + dx), .int .i64 (y + dy), .int .i64 dx, .int .i64 dy] 134)
      have bn := (Box.new w2 36 #[.int .i64 (x + dx), .int .i64 (y + dy)]).alloc (.cells #[.int .i64 (x + dx), .int .i64 (y + dy), .int .i64 dx, .int .i64 dy] 134)
      have bo := Box.new (w2.alloc (.cells #[.int .i64 (x + dx), .int .i64 (y + dy)] 36)) 134 #[.int .i64 (x + dx), .int .i64 (y + dy), .int .i64 dx, .int .i64 dy]
      rw [World.size_alloc] at bo
      replace hI2 := Row.below hI2 (Joins.below_alloc2 _ (.cells #[.int .i64 (x + dx), .int .i64 (y + dy)] 36) (.cells #[.int .i64 (x + dx), .int .i64 (y + dy), .int .i64 dx, .int .i64 dy] 134))
      replace bl := bnext bl (Joins.below_alloc2 _ (.cells #[.int .i64 (x + dx), .int .i64 (y + dy)] 36) (.cells #[.int .i64 (x + dx), .int .i64 (y + dy), .int .i64 dx, .int .i64 dy] 134))
      clear p0 p1 p2 p3 pn
      generalize (w2.alloc (.cells #[.int .i64 (x + dx), .int .i64 (y + dy)] 36)).alloc (.cells #[.int .i64 (x + dx), .int .i64 (y + dy), .int .i64 dx, .int .i64 dy] 134) = V at *
      have k1 : (b = w2.heap.size + 1) = False := by simp; omega
      have k2 : (w2.heap.size + 1 = b) = False := by simp; omega
      have k4 : (w2.heap.size = w2.heap.size + 1) = False := by simp
      have k6 : (w2.heap.size + 1 = w2.heap.size) = False := by simp
      have k7 : (w.heap.size + 1 = w2.heap.size + 1) = False := by simp; omega
      have k8 : (w2.heap.size + 1 = w.heap.size + 1) = False := by simp; omega
      have HG := HG0
      have q0 := bp.cell 0
      have q1 := bp.cell 1
      have qn := bp.lt
      simp only [List.getElem?_toArray, List.getElem?_cons_zero, List.getElem?_cons_succ] at q0 q1
      have s0 := bn.cell 0
      have s1 := bn.cell 1
      have sn := bn.lt
      simp only [List.getElem?_toArray, List.getElem?_cons_zero, List.getElem?_cons_succ] at s0 s1
      have o0 := bo.cell 0
      have o1 := bo.cell 1
      have o2 := bo.cell 2
      have o3 := bo.cell 3
      have of0 := bo.free 0
      have of1 := bo.free 1
      have of2 := bo.free 2
      have of3 := bo.free 3
      have on := bo.lt
      simp only [List.getElem?_toArray, List.getElem?_cons_zero, List.getElem?_cons_succ] at o0 o1 o2 o3
      have r0 := br.cell 0
      have r1 := br.cell 1
      have r2 := br.cell 2
      have r3 := br.cell 3
      have rf0 := br.free 0
      have rf1 := br.free 1
      have rf2 := br.free 2
      have rf3 := br.free 3
      have rn := br.lt
      simp only [List.getElem?_toArray, List.getElem?_cons_zero, List.getElem?_cons_succ] at r0 r1 r2 r3
      go_quiet (fail)
      obtain ⟨nq1, hnq⟩ : ∃ m, m = nq := ⟨nq, rfl⟩
      subst hnq
      clear q0 q1 qn s0 s1 sn o0 o1 o2 o3 of0 of1 of2 of3 on r0 r1 r2 r3 rf0 rf1 rf2 rf3 rn
      replace bp := bp.drewN nq1
      replace br := br.drewN nq1
      replace bn := bn.drewN nq1
      replace bo := bo.drewN nq1
      replace hI2 := Row.drewN hI2 nq1
      replace bl := bl.trans (below_drewN _ _ nq1)
      generalize (V.drewN nq1) = V2 at *
      have q0 := bp.cell 0
      have q1 := bp.cell 1
      have qn := bp.lt
      simp only [List.getElem?_toArray, List.getElem?_cons_zero, List.getElem?_cons_succ] at q0 q1
      have s0 := bn.cell 0
      have s1 := bn.cell 1
      have sn := bn.lt
      simp only [List.getElem?_toArray, List.getElem?_cons_zero, List.getElem?_cons_succ] at s0 s1
      have o0 := bo.cell 0
      have o1 := bo.cell 1
      have o2 := bo.cell 2
      have o3 := bo.cell 3
      have of0 := bo.free 0
      have of1 := bo.free 1
      have of2 := bo.free 2
      have of3 := bo.free 3
      have on := bo.lt
      simp only [List.getElem?_toArray, List.getElem?_cons_zero, List.getElem?_cons_succ] at o0 o1 o2 o3
      have r0 := br.cell 0
      have r1 := br.cell 1
      have r2 := br.cell 2
      have r3 := br.cell 3
      have rf0 := br.free 0
      have rf1 := br.free 1
      have rf2 := br.free 2
      have rf3 := br.free 3
      have rn := br.lt
      simp only [List.getElem?_toArray, List.getElem?_cons_zero, List.getElem?_cons_succ] at r0 r1 r2 r3
      go_wp2
      clear q0 q1 qn s0 s1 sn o0 o1 o2 o3 of0 of1 of2 of3 on r0 r1 r2 r3 rf0 rf1 rf2 rf3 rn
      have q0 := bp.cell 0
      have q1 := bp.cell 1
      have qn := bp.lt
      simp only [List.getElem?_toArray, List.getElem?_cons_zero, List.getElem?_cons_succ] at q0 q1
      have s0 := bn.cell 0
      have s1 := bn.cell 1
      have sn := bn.lt
      simp only [List.getElem?_toArray, List.getElem?_cons_zero, List.getElem?_cons_succ] at s0 s1
      have o0 := bo.cell 0
      have o1 := bo.cell 1
      have o2 := bo.cell 2
      have o3 := bo.cell 3
      have of0 := bo.free 0
      have of1 := bo.free 1
      have of2 := bo.free 2
      have of3 := bo.free 3
      have on := bo.lt
      simp only [List.getElem?_toArray, List.getElem?_cons_zero, List.getElem?_cons_succ] at o0 o1 o2 o3
      have r0 := br.cell 0
      have r1 := br.cell 1
      have r2 := br.cell 2
      have r3 := br.cell 3
      have rf0 := br.free 0
      have rf1 := br.free 1
      have rf2 := br.free 2
      have rf3 := br.free 3
      have rn := br.lt
      simp only [List.getElem?_toArray, List.getElem?_cons_zero, List.getElem?_cons_succ] at r0 r1 r2 r3
      go_quiet (fail)
      obtain ⟨nq2, hnq⟩ : ∃ m, m = nq := ⟨nq, rfl⟩
      subst hnq
      clear q0 q1 qn s0 s1 sn o0 o1 o2 o3 of0 of1 of2 of3 on r0 r1 r2 r3 rf0 rf1 rf2 rf3 rn
      replace bp := bp.drewN nq2
      replace br := br.drewN nq2
      replace bn := bn.drewN nq2
      replace bo := bo.drewN nq2
      replace hI2 := Row.drewN hI2 nq2
      replace bl := bl.trans (below_drewN _ _ nq2)
      generalize (V2.drewN nq2) = V4 at *
      have q0 := bp.cell 0
      have q1 := bp.cell 1
      have qn := bp.lt
      simp only [List.getElem?_toArray, List.getElem?_cons_zero, List.getElem?_cons_succ] at q0 q1
      have s0 := bn.cell 0
      have s1 := bn.cell 1
      have sn := bn.lt
      simp only [List.getElem?_toArray, List.getElem?_cons_zero, List.getElem?_cons_succ] at s0 s1
      have o0 := bo.cell 0
      have o1 := bo.cell 1
      have o2 := bo.cell 2
      have o3 := bo.cell 3
      have of0 := bo.free 0
      have of1 := bo.free 1
      have of2 := bo.free 2
      have of3 := bo.free 3
      have on := bo.lt
      simp only [List.getElem?_toArray, List.getElem?_cons_zero, List.getElem?_cons_succ] at o0 o1 o2 o3
      have r0 := br.cell 0
      have r1 := br.cell 1
      have r2 := br.cell 2
      have r3 := br.cell 3
      have rf0 := br.free 0
      have rf1 := br.free 1
      have rf2 := br.free 2
      have rf3 := br.free 3
      have rn := br.lt
      simp only [List.getElem?_toArray, List.getElem?_cons_zero, List.getElem?_cons_succ] at r0 r1 r2 r3
      go_wp2_with fail
      clear q0 q1 qn s0 s1 sn o0 o1 o2 o3 of0 of1 of2 of3 on r0 r1 r2 r3 rf0 rf1 rf2 rf3 rn
      refine (l02Edge_any (B := B) bp HW.out HH.out (no_iff HE.out)).mono ?_
      rintro e w3 ⟨rfl, hb3⟩
      have sz3 := hb3.size
      replace bp := bp.below hb3
      replace br := br.below hb3
      replace bn := bn.below hb3
      replace bo := bo.below hb3
      replace hI2 := Row.below hI2 hb3
      replace bl := bnext bl hb3
      clear hb3
      have cc := Ints.cellI hI2 (i := m) m0 m1
      rw [hgk] at cc
      have q0 := bp.cell 0
      have q1 := bp.cell 1
      have q2 := bp.cell 2
      have qn := bp.lt
      simp only [List.getElem?_toArray, List.getElem?_cons_zero, List.getElem?_cons_succ] at q0 q1 q2
      have s0 := bn.cell 0
      have s1 := bn.cell 1
      have sn := bn.lt
      simp only [List.getElem?_toArray, List.getElem?_cons_zero, List.getElem?_cons_succ] at s0 s1
      have KS : Hid (∀ w', Below w3.heap.size w3 w' → (Below w3.heap.size w3 w' ∧ w'.cell? ⟨b, 0, none⟩ = some (.int .i64 W) ∧ w'.cell? ⟨b, 1, none⟩ = some (.int .i64 H) ∧ w'.cell? ⟨b, 2, none⟩ = some (.slice (some ⟨g, 0, none⟩) B.length cA) ∧ w'.cell? ⟨w2.heap.size, 0, none⟩ = some (.int .i64 (x + dx)) ∧ w'.cell? ⟨w2.heap.size, 1, none⟩ = some (.int .i64 (y + dy)) ∧ w'.cell? ⟨g, m.toNat, none⟩ = some (.int .i64 2))) := Lib.hid (fun x hx => ⟨hx, (bp.below hx).cell 0, (bp.below hx).cell 1, (bp.below hx).cell 2, (bn.below hx).cell 0, (bn.below hx).cell 1, keep_cell hx cc⟩)
      have KB : Hid (∀ w', Below w3.heap.size w3 w' → Box w' b 30 #[.int .i64 W, .int .i64 H, .slice (some ⟨g, 0, none⟩) B.length cA]) := Lib.hid (fun x hx => bp.below hx)
      clear hgk
      go_wp2
      go_region_held3 (fun w' => Below w3.heap.size w3 w' ∧ w'.cell? ⟨b, 0, none⟩ = some (.int .i64 W) ∧ w'.cell? ⟨b, 1, none⟩ = some (.int .i64 H) ∧ w'.cell? ⟨b, 2, none⟩ = some (.slice (some ⟨g, 0, none⟩) B.length cA) ∧ w'.cell? ⟨w2.heap.size, 0, none⟩ = some (.int .i64 (x + dx)) ∧ w'.cell? ⟨w2.heap.size, 1, none⟩ = some (.int .i64 (y + dy)) ∧ w'.cell? ⟨g, m.toNat, none⟩ = some (.int .i64 2))
        ((refine KS.out _ ?_; first | exact cut_drew | exact hBn))
        ((go_at_call 123; go_split_ands; (with_reducible refine (l02Number_any (KB.out _ (by assumption)) HW.out HX.out HY.out HM.out).mono ?_); rintro e w4 ⟨rfl, hb4⟩; have hBn := bnext (w := w3) (by assumption) hb4))
      go_split_ands
      clear q0 q1 q2 qn s0 s1 sn KS KB cc
      replace bp := bp.below hBn
      replace br := br.below hBn
      replace bn := bn.below hBn
      replace bo := bo.below hBn
      replace bl := bnext bl hBn
      have sz4 := hBn.size
      clear hBn hb4
      have o0 := bo.cell 0
      have o1 := bo.cell 1
      have o2 := bo.cell 2
      have o3 := bo.cell 3
      have of0 := bo.free 0
      have of1 := bo.free 1
      have of2 := bo.free 2
      have of3 := bo.free 3
      have on := bo.lt
      simp only [List.getElem?_toArray, List.getElem?_cons_zero, List.getElem?_cons_succ] at o0 o1 o2 o3
      have r0 := br.cell 0
      have r1 := br.cell 1
      have r2 := br.cell 2
      have r3 := br.cell 3
      have rf0 := br.free 0
      have rf1 := br.free 1
      have rf2 := br.free 2
      have rf3 := br.free 3
      have rn := br.lt
      simp only [List.getElem?_toArray, List.getElem?_cons_zero, List.getElem?_cons_succ] at r0 r1 r2 r3
      go_wp2
      refine bodyPost_ret (v := .agg #[.int .i64 (x + dx), .int .i64 (y + dy), .int .i64 dx, .int .i64 (-dy)]) (by simp [results, Try.results155, go_sem, r0, r1, r2, r3, rf0, rf1, rf2, rf3, rn]) rfl ⟨rfl, ?_⟩
      replace bl := bl.setCell (p := ⟨w2.heap.size + 1, 3, none⟩) (by show w.heap.size ≤ w2.heap.size + 1; omega) (.int .i64 (-dy))
      exact (((bl.setCell (p := ⟨w.heap.size + 1, 0, none⟩) (by simp) _).setCell (p := ⟨w.heap.size + 1, 1, none⟩) (by simp) _).setCell (p := ⟨w.heap.size + 1, 2, none⟩) (by simp) _).setCell (p := ⟨w.heap.size + 1, 3, none⟩) (by simp) _
end Go.Proofs.Ytihfdgnocdphcaa
