/-
  A step of a walker, by the program.
-/
import Derived.Test.YtihfdgnocdphcaaSegC
import Derived.Test.YtihfdgnocdphcaaAppAt
import Derived.Deep.RegionHeld3
import Derived.BigRegion
import Derived.Test.YtihfdgnocdphcaaCut
namespace Go.Proofs.Ytihfdgnocdphcaa
open Go.RowKit Knot

theorem keep_cell {w w' : World} (hb : Below w.heap.size w w') {b o : Nat} {v : Value} (h : w.cell? ⟨b, o, none⟩ = some v) : w'.cell? ⟨b, o, none⟩ = some v := by
  have hl := World.block_lt_of_cell? w _ h
  exact (hb.cell (p := ⟨b, o, none⟩) hl).trans h
theorem Box.setc {w : World} {k : Nat} {t : TypeId} {cs : Array Value} (h : Box w k t cs) {p : Addr} (hp : k ≠ p.block) (u : Value) : Box (w.setCell p u) k t cs := h.far hp u
/-- Where a walker's next point may lie, and what the step does there. -/
theorem step_cases {W H x y dx dy : Int} {B : List Int} (hp : Ok ⟨W, H, B⟩) (hk : OkW ⟨W, H, B⟩ ⟨x, y, dx, dy⟩) :
    (x + dx = 0 ∧ Knot.Edge ⟨W, H, B⟩ (x + dx) (y + dy) ∧ y + dy ≠ 0 ∧ y + dy ≠ 2 * H ∧ x + dx ≠ 2 * W ∧ stepW ⟨W, H, B⟩ ⟨x, y, dx, dy⟩ = ⟨x + dx, y + dy, -dx, dy⟩) ∨
    (x + dx = 2 * W ∧ Knot.Edge ⟨W, H, B⟩ (x + dx) (y + dy) ∧ y + dy ≠ 0 ∧ y + dy ≠ 2 * H ∧ x + dx ≠ 0 ∧ stepW ⟨W, H, B⟩ ⟨x, y, dx, dy⟩ = ⟨x + dx, y + dy, -dx, dy⟩) ∨
    (y + dy = 0 ∧ Knot.Edge ⟨W, H, B⟩ (x + dx) (y + dy) ∧ x + dx ≠ 0 ∧ x + dx ≠ 2 * W ∧ y + dy ≠ 2 * H ∧ stepW ⟨W, H, B⟩ ⟨x, y, dx, dy⟩ = ⟨x + dx, y + dy, dx, -dy⟩) ∨
    (y + dy = 2 * H ∧ Knot.Edge ⟨W, H, B⟩ (x + dx) (y + dy) ∧ x + dx ≠ 0 ∧ x + dx ≠ 2 * W ∧ y + dy ≠ 0 ∧ stepW ⟨W, H, B⟩ ⟨x, y, dx, dy⟩ = ⟨x + dx, y + dy, dx, -dy⟩) ∨
    (¬ Knot.Edge ⟨W, H, B⟩ (x + dx) (y + dy) ∧ (x + dx ≠ 0 ∧ x + dx ≠ 2 * W ∧ y + dy ≠ 0 ∧ y + dy ≠ 2 * H) ∧ (1 ≤ x + dx ∧ x + dx ≤ 15 ∧ 1 ≤ y + dy ∧ y + dy ≤ 15 ∧ (x + dx + (y + dy)) % 2 = 1) ∧
      (0 ≤ rowOf W (y + dy) + (x + dx - 1) / 2 ∧ rowOf W (y + dy) + (x + dx - 1) / 2 < B.length) ∧
      ((gI B (rowOf W (y + dy) + (x + dx - 1) / 2) = 0 ∧ stepW ⟨W, H, B⟩ ⟨x, y, dx, dy⟩ = ⟨x + dx, y + dy, dx, dy⟩) ∨ (gI B (rowOf W (y + dy) + (x + dx - 1) / 2) = 1 ∧ stepW ⟨W, H, B⟩ ⟨x, y, dx, dy⟩ = ⟨x + dx, y + dy, -dx, dy⟩) ∨
        (gI B (rowOf W (y + dy) + (x + dx - 1) / 2) = 2 ∧ stepW ⟨W, H, B⟩ ⟨x, y, dx, dy⟩ = ⟨x + dx, y + dy, dx, -dy⟩))) := by
  obtain ⟨h1, h2, ⟨a1, a2, a3, a4, a5⟩, ⟨b1, b2, b3, b4, b5⟩⟩ := hk
  have w1 := hp.w1
  have w8 := hp.w8
  have h1' := hp.h1
  have h8 := hp.h8
  have hlen := hp.len
  have hkind := hp.kind
  simp only [] at *
  by_cases e1 : x + dx = 0
  · refine .inl ⟨e1, .inl e1, by omega, by omega, by omega, ?_⟩
    have he : Knot.Edge ⟨W, H, B⟩ (x + dx) (y + dy) := .inl e1
    simp only [stepW, brk, if_pos he]
    rw [if_pos (.inl e1), if_neg (by omega)]
  by_cases e2 : x + dx = 2 * W
  · refine .inr (.inl ⟨e2, .inr (.inl e2), by omega, by omega, by omega, ?_⟩)
    have he : Knot.Edge ⟨W, H, B⟩ (x + dx) (y + dy) := .inr (.inl e2)
    simp only [stepW, brk, if_pos he]
    rw [if_pos (.inr (.inl e2)), if_neg (by omega)]
  by_cases e3 : y + dy = 0
  · refine .inr (.inr (.inl ⟨e3, .inr (.inr (.inl e3)), by omega, by omega, by omega, ?_⟩))
    have he : Knot.Edge ⟨W, H, B⟩ (x + dx) (y + dy) := .inr (.inr (.inl e3))
    simp only [stepW, brk, if_pos he]
    rw [if_neg (by omega), if_pos (.inl e3)]
  by_cases e4 : y + dy = 2 * H
  · refine .inr (.inr (.inr (.inl ⟨e4, .inr (.inr (.inr e4)), by omega, by omega, by omega, ?_⟩)))
    have he : Knot.Edge ⟨W, H, B⟩ (x + dx) (y + dy) := .inr (.inr (.inr e4))
    simp only [stepW, brk, if_pos he]
    rw [if_neg (by omega), if_pos (.inr (.inl e4))]
  have he : ¬ Knot.Edge ⟨W, H, B⟩ (x + dx) (y + dy) := by
    rintro (h | h | h | h) <;> (try simp only [] at h) <;> omega
  obtain ⟨n1, n2, _, _⟩ := num_pt (H := H) w1 w8 (y := y + dy) (x := x + dx) (by omega) (by omega) (by omega) (by omega) b5
  refine .inr (.inr (.inr (.inr ⟨he, ⟨e1, e2, e3, e4⟩, ⟨by omega, by omega, by omega, by omega, b5⟩, ⟨n1, by omega⟩, ?_⟩)))
  have hk2 : brk ⟨W, H, B⟩ (x + dx) (y + dy) = gI B (rowOf W (y + dy) + (x + dx - 1) / 2) := by
    simp only [brk, if_neg he, num, gI]
  have hrng : 0 ≤ gI B (rowOf W (y + dy) + (x + dx - 1) / 2) ∧ gI B (rowOf W (y + dy) + (x + dx - 1) / 2) ≤ 2 := by
    have hl : (rowOf W (y + dy) + (x + dx - 1) / 2).toNat < B.length := by omega
    have : gI B (rowOf W (y + dy) + (x + dx - 1) / 2) = B[(rowOf W (y + dy) + (x + dx - 1) / 2).toNat] := by simp [gI, List.getD, hl]
    rw [this]
    exact hkind _ (List.getElem_mem _)
  simp only [stepW, hk2]
  generalize gI B (rowOf W (y + dy) + (x + dx - 1) / 2) = k at *
  rcases (show k = 0 ∨ k = 1 ∨ k = 2 by omega) with rfl | rfl | rfl
  · refine .inl ⟨rfl, ?_⟩
    rw [if_neg (by omega), if_neg (by omega)]
  · refine .inr (.inl ⟨rfl, ?_⟩)
    rw [if_pos (by omega), if_neg (by omega)]
  · refine .inr (.inr ⟨rfl, ?_⟩)
    rw [if_neg (by omega), if_pos (by omega)]
set_option maxHeartbeats 8000000 in
theorem step_any {w : World} {Bd : Nat} {W H x y dx dy nx ny ex ey : Int} {v : Value} {B : List Int} (hI : Ints w Bd v B) (hp : Ok ⟨W, H, B⟩) (hk : OkW ⟨W, H, B⟩ ⟨x, y, dx, dy⟩) (hr : stepW ⟨W, H, B⟩ ⟨x, y, dx, dy⟩ = ⟨nx, ny, ex, ey⟩) :
    Calls Try.prog 144 #[.agg #[.int .i64 W, .int .i64 H, v], .agg #[.int .i64 x, .int .i64 y, .int .i64 dx, .int .i64 dy]] w fun e w' => ∃ t, e = .returned (.tuple #[.agg #[.int .i64 nx, .int .i64 ny, .int .i64 ex, .int .i64 ey], .bool t]) ∧ Below w.heap.size w w' := by
  obtain ⟨A, cA, rfl, _, hA⟩ := hI.open_
  have bl := Joins.below_alloc3 w (.cells #[.int .i64 W, .int .i64 H, .slice A B.length cA] 30) (.cells #[.int .i64 x, .int .i64 y, .int .i64 dx, .int .i64 dy] 134) (.cells #[.int .i64 0, .int .i64 0, .int .i64 0, .int .i64 0] 134)
  have bp := ((Box.new w 30 #[.int .i64 W, .int .i64 H, .slice A B.length cA]).alloc (.cells #[.int .i64 x, .int .i64 y, .int .i64 dx, .int .i64 dy] 134)).alloc (.cells #[.int .i64 0, .int .i64 0, .int .i64 0, .int .i64 0] 134)
  have bw := (Box.new (w.alloc (.cells #[.int .i64 W, .int .i64 H, .slice A B.length cA] 30)) 134 #[.int .i64 x, .int .i64 y, .int .i64 dx, .int .i64 dy]).alloc (.cells #[.int .i64 0, .int .i64 0, .int .i64 0, .int .i64 0] 134)
  have br := Box.new ((w.alloc (.cells #[.int .i64 W, .int .i64 H, .slice A B.length cA] 30)).alloc (.cells #[.int .i64 x, .int .i64 y, .int .i64 dx, .int .i64 dy] 134)) 134 #[.int .i64 0, .int .i64 0, .int .i64 0, .int .i64 0]
  rw [World.size_alloc] at bw
  rw [World.size_alloc, World.size_alloc] at br
  have hI2 := Row.below hI bl
  obtain ⟨hx, hy, hdx, hdy, hx2, hy2, _, _⟩ := okW_bd hk ⟨hp.w1, hp.w8⟩ ⟨hp.h1, hp.h8⟩
  have HN : Hid ((0 ≤ x ∧ x ≤ 2000000) ∧ (0 ≤ y ∧ y ≤ 2000000) ∧ (dx = 1 ∨ dx = -1) ∧ (dy = 1 ∨ dy = -1)) := Lib.hid ⟨⟨hx.1, by omega⟩, ⟨hy.1, by omega⟩, hdx, hdy⟩
  have HW : Hid (1 ≤ W ∧ W ≤ 8) := Lib.hid ⟨hp.w1, hp.w8⟩
  have HH : Hid (1 ≤ H ∧ H ≤ 8) := Lib.hid ⟨hp.h1, hp.h8⟩
  have d0 : -1 ≤ dx ∧ dx ≤ 1 := by omega
  have d1 : -1 ≤ dy ∧ dy ≤ 1 := by omega
  obtain ⟨d0, d0'⟩ := d0
  obtain ⟨d1, d1'⟩ := d1
  have hcs := step_cases hp hk
  obtain ⟨x0, x16⟩ := hx2
  obtain ⟨y0, y16⟩ := hy2
  obtain ⟨W1, W8⟩ := HW.out
  obtain ⟨H1, H8⟩ := HH.out
  clear hdx hdy hx hy hk hp hI
  rcases hcs with hcs | hcs | hcs | hcs | hcs
  · obtain ⟨e1, he, n1, n2, n3, hst⟩ := hcs
    rw [hst] at hr
    injection hr with f1 f2 f3 f4
    subst f1 f2 f3 f4
    have HE := Lib.hid he
    have t1 := eqb_t e1
    have t2 := eqb_f n1
    have t3 := eqb_f n2
    have t4 := eqb_f n3
    clear he hst e1 n1 n2 n3
    have p0 := bw.cell 0
    have p1 := bw.cell 1
    have p2 := bw.cell 2
    have p3 := bw.cell 3
    have pn := bw.lt
    simp only [List.getElem?_toArray, List.getElem?_cons_zero, List.getElem?_cons_succ] at p0 p1 p2 p3
    go_enter Try.func144, Try.ntmps144
    go_wp2_with fail
    refine (next_any HN.out).mono ?_
    rintro e w2 ⟨rfl, hb2⟩
    have sz2 := hb2.size
    simp only [World.size_alloc] at sz2
    replace bp := bp.below hb2
    replace bw := bw.below hb2
    replace br := br.below hb2
    replace hI2 := Row.below hI2 hb2
    replace bl := bnext bl hb2
    clear p0 p1 p2 p3 pn hb2
    have p0 := bw.cell 0
    have p1 := bw.cell 1
    have p2 := bw.cell 2
    have p3 := bw.cell 3
    have pn := bw.lt
    simp only [List.getElem?_toArray, List.getElem?_cons_zero, List.getElem?_cons_succ] at p0 p1 p2 p3
    have q0 := bp.cell 0
    have q1 := bp.cell 1
    have q2 := bp.cell 2
    have qn := bp.lt
    simp only [List.getElem?_toArray, List.getElem?_cons_zero, List.getElem?_cons_succ] at q0 q1 q2
    go_wp2_with fail
    replace bp := (bp.alloc (.cells #[.int .i64 (x + dx), .int .i64 (y + dy)] 36)).alloc (.cells #[.int .i64 (x + dx), .int .i64 (y + dy), .int .i64 dx, .int .i64 dy] 134)
    replace bw := (bw.alloc (.cells #[.int .i64 (x + dx), .int .i64 (y + dy)] 36)).alloc (.cells #[.int .i64 (x + dx), .int .i64 (y + dy), .int .i64 dx, .int .i64 dy] 134)
    replace br := (br.alloc (.cells #[.int .i64 (x + dx), .int .i64 (y + dy)] 36)).alloc (.cells #[.int .i64 (x + dx), .int .i64 (y + dy), .int .i64 dx, .int .i64 dy] 134)
    have bn := (Box.new w2 36 #[.int .i64 (x + dx), .int .i64 (y + dy)]).alloc (.cells #[.int .i64 (x + dx), .int .i64 (y + dy), .int .i64 dx, .int .i64 dy] 134)
    have bo := Box.new (w2.alloc (.cells #[.int .i64 (x + dx), .int .i64 (y + dy)] 36)) 134 #[.int .i64 (x + dx), .int .i64 (y + dy), .int .i64 dx, .int .i64 dy]
    rw [World.size_alloc] at bo
    replace hI2 := Row.below hI2 (Joins.below_alloc2 _ (.cells #[.int .i64 (x + dx), .int .i64 (y + dy)] 36) (.cells #[.int .i64 (x + dx), .int .i64 (y + dy), .int .i64 dx, .int .i64 dy] 134))
    replace bl := bnext bl (Joins.below_alloc2 _ (.cells #[.int .i64 (x + dx), .int .i64 (y + dy)] 36) (.cells #[.int .i64 (x + dx), .int .i64 (y + dy), .int .i64 dx, .int .i64 dy] 134))
    clear p0 p1 p2 p3 pn q0 q1 q2 qn
    refine (isBorder_any (B := B) HW.out HH.out (yes_iff HE.out)).mono ?_
    rintro e w3 ⟨rfl, hb3⟩
    have sz3 := hb3.size
    simp only [World.size_alloc] at sz3
    replace bp := bp.below hb3
    replace bw := bw.below hb3
    replace br := br.below hb3
    replace bn := bn.below hb3
    replace bo := bo.below hb3
    replace hI2 := Row.below hI2 hb3
    replace bl := bnext bl hb3
    clear hb3
    have q0 := bp.cell 0
    have q1 := bp.cell 1
    have qn := bp.lt
    simp only [List.getElem?_toArray, List.getElem?_cons_zero, List.getElem?_cons_succ] at q0 q1
    have s0 := bn.cell 0
    have s1 := bn.cell 1
    have sn := bn.lt
    simp only [List.getElem?_toArray, List.getElem?_cons_zero, List.getElem?_cons_succ] at s0 s1
    have p0 := bw.cell 0
    have p1 := bw.cell 1
    have p2 := bw.cell 2
    have p3 := bw.cell 3
    have pn := bw.lt
    simp only [List.getElem?_toArray, List.getElem?_cons_zero, List.getElem?_cons_succ] at p0 p1 p2 p3
    have o0 := bo.cell 0
    have o1 := bo.cell 1
    have o2 := bo.cell 2
    have o3 := bo.cell 3
    have of0 := bo.free 0
    have of1 := bo.free 1
    have of2 := bo.free 2
    have of3 := bo.free 3
    have on := bo.lt
    simp only [List.getElem?_toArray, List.getElem?_cons_zero, List.getElem?_cons_succ] at o0 o1 o2 o3
    have r0 := br.cell 0
    have r1 := br.cell 1
    have r2 := br.cell 2
    have r3 := br.cell 3
    have rf0 := br.free 0
    have rf1 := br.free 1
    have rf2 := br.free 2
    have rf3 := br.free 3
    have rn := br.lt
    simp only [List.getElem?_toArray, List.getElem?_cons_zero, List.getElem?_cons_succ] at r0 r1 r2 r3
    have k1 : (w.heap.size + 1 + 1 = w2.heap.size + 1) = False := by simp; omega
    have k2 : (w2.heap.size + 1 = w.heap.size + 1 + 1) = False := by simp; omega
    have k3 : (w2.heap.size + 1 = w.heap.size + 1) = False := by simp; omega
    have k4 : (w2.heap.size = w2.heap.size + 1) = False := by simp
    have k5 : (w2.heap.size + 1 = w.heap.size) = False := by simp; omega
    have k6 : (w2.heap.size + 1 = w2.heap.size) = False := by simp
    go_wp2
    clear q0 q1 qn s0 s1 sn p0 p1 p2 p3 pn o0 o1 o2 o3 of0 of1 of2 of3 on r0 r1 r2 r3 rf0 rf1 rf2 rf3 rn k1 k2 k3 k4 k5 k6
    replace bo : Box (w3.setCell ⟨w2.heap.size + 1, 2, none⟩ (.int .i64 (-dx))) (w2.heap.size + 1) 134 #[.int .i64 (x + dx), .int .i64 (y + dy), .int .i64 (-dx), .int .i64 dy] := by simpa using bo.set_ 2 (.int .i64 (-dx))
    replace bw := bw.setc (p := ⟨w2.heap.size + 1, 2, none⟩) (by show _ ≠ w2.heap.size + 1; omega) (.int .i64 (-dx))
    replace br := br.setc (p := ⟨w2.heap.size + 1, 2, none⟩) (by show _ ≠ w2.heap.size + 1; omega) (.int .i64 (-dx))
    replace bl := bl.setCell (p := ⟨w2.heap.size + 1, 2, none⟩) (by show w.heap.size ≤ w2.heap.size + 1; omega) (.int .i64 (-dx))
    generalize (w3.setCell ⟨w2.heap.size + 1, 2, none⟩ (.int .i64 (-dx))) = V at *
    have p0 := bw.cell 0
    have p1 := bw.cell 1
    have p2 := bw.cell 2
    have p3 := bw.cell 3
    have pn := bw.lt
    simp only [List.getElem?_toArray, List.getElem?_cons_zero, List.getElem?_cons_succ] at p0 p1 p2 p3
    have o0 := bo.cell 0
    have o1 := bo.cell 1
    have o2 := bo.cell 2
    have o3 := bo.cell 3
    have on := bo.lt
    simp only [List.getElem?_toArray, List.getElem?_cons_zero, List.getElem?_cons_succ] at o0 o1 o2 o3
    have r0 := br.cell 0
    have r1 := br.cell 1
    have r2 := br.cell 2
    have r3 := br.cell 3
    have rf0 := br.free 0
    have rf1 := br.free 1
    have rf2 := br.free 2
    have rf3 := br.free 3
    have rn := br.lt
    simp only [List.getElem?_toArray, List.getElem?_cons_zero, List.getElem?_cons_succ] at r0 r1 r2 r3
    have k1 : (w.heap.size + 1 + 1 = w2.heap.size + 1) = False := by simp; omega
    have k2 : (w2.heap.size + 1 = w.heap.size + 1 + 1) = False := by simp; omega
    have k7 : (w.heap.size + 1 = w.heap.size + 1 + 1) = False := by simp
    have k8 : (w.heap.size + 1 + 1 = w.heap.size + 1) = False := by simp
    have u1 : (-dx != dx) = true := by simp; have := HN.out; omega
    clear bp bw br bn bo hI2
    go_region
    go_wp2
    refine bodyPost_ret (v := .tuple #[.agg #[.int .i64 (x + dx), .int .i64 (y + dy), .int .i64 (-dx), .int .i64 dy], .bool true]) (by simp [results, Try.results144, go_sem, r0, r1, r2, r3, rf0, rf1, rf2, rf3, rn]) rfl ⟨_, rfl, ?_⟩
    exact ((((bl.setCell (p := ⟨w.heap.size + 1 + 1, 0, none⟩) (by simp; omega) _).setCell (p := ⟨w.heap.size + 1 + 1, 1, none⟩) (by simp; omega) _).setCell (p := ⟨w.heap.size + 1 + 1, 2, none⟩) (by simp; omega) _).setCell (p := ⟨w.heap.size + 1 + 1, 3, none⟩) (by simp; omega) _).trans (below_drewN _ _ 1)
  · obtain ⟨e1, he, n1, n2, n3, hst⟩ := hcs
    rw [hst] at hr
    injection hr with f1 f2 f3 f4
    subst f1 f2 f3 f4
    have HE := Lib.hid he
    have t1 := eqb_t e1
    have t2 := eqb_f n1
    have t3 := eqb_f n2
    have t4 := eqb_f n3
    clear he hst e1 n1 n2 n3
    have p0 := bw.cell 0
    have p1 := bw.cell 1
    have p2 := bw.cell 2
    have p3 := bw.cell 3
    have pn := bw.lt
    simp only [List.getElem?_toArray, List.getElem?_cons_zero, List.getElem?_cons_succ] at p0 p1 p2 p3
    go_enter Try.func144, Try.ntmps144
    go_wp2_with fail
    refine (next_any HN.out).mono ?_
    rintro e w2 ⟨rfl, hb2⟩
    have sz2 := hb2.size
    simp only [World.size_alloc] at sz2
    replace bp := bp.below hb2
    replace bw := bw.below hb2
    replace br := br.below hb2
    replace hI2 := Row.below hI2 hb2
    replace bl := bnext bl hb2
    clear p0 p1 p2 p3 pn hb2
    have p0 := bw.cell 0
    have p1 := bw.cell 1
    have p2 := bw.cell 2
    have p3 := bw.cell 3
    have pn := bw.lt
    simp only [List.getElem?_toArray, List.getElem?_cons_zero, List.getElem?_cons_succ] at p0 p1 p2 p3
    have q0 := bp.cell 0
    have q1 := bp.cell 1
    have q2 := bp.cell 2
    have qn := bp.lt
    simp only [List.getElem?_toArray, List.getElem?_cons_zero, List.getElem?_cons_succ] at q0 q1 q2
    go_wp2_with fail
    replace bp := (bp.alloc (.cells #[.int .i64 (x + dx), .int .i64 (y + dy)] 36)).alloc (.cells #[.int .i64 (x + dx), .int .i64 (y + dy), .int .i64 dx, .int .i64 dy] 134)
    replace bw := (bw.alloc (.cells #[.int .i64 (x + dx), .int .i64 (y + dy)] 36)).alloc (.cells #[.int .i64 (x + dx), .int .i64 (y + dy), .int .i64 dx, .int .i64 dy] 134)
    replace br := (br.alloc (.cells #[.int .i64 (x + dx), .int .i64 (y + dy)] 36)).alloc (.cells #[.int .i64 (x + dx), .int .i64 (y + dy), .int .i64 dx, .int .i64 dy] 134)
    have bn := (Box.new w2 36 #[.int .i64 (x + dx), .int .i64 (y + dy)]).alloc (.cells #[.int .i64 (x + dx), .int .i64 (y + dy), .int .i64 dx, .int .i64 dy] 134)
    have bo := Box.new (w2.alloc (.cells #[.int .i64 (x + dx), .int .i64 (y + dy)] 36)) 134 #[.int .i64 (x + dx), .int .i64 (y + dy), .int .i64 dx, .int .i64 dy]
    rw [World.size_alloc] at bo
    replace hI2 := Row.below hI2 (Joins.below_alloc2 _ (.cells #[.int .i64 (x + dx), .int .i64 (y + dy)] 36) (.cells #[.int .i64 (x + dx), .int .i64 (y + dy), .int .i64 dx, .int .i64 dy] 134))
    replace bl := bnext bl (Joins.below_alloc2 _ (.cells #[.int .i64 (x + dx), .int .i64 (y + dy)] 36) (.cells #[.int .i64 (x + dx), .int .i64 (y + dy), .int .i64 dx, .int .i64 dy] 134))
    clear p0 p1 p2 p3 pn q0 q1 q2 qn
    refine (isBorder_any (B := B) HW.out HH.out (yes_iff HE.out)).mono ?_
    rintro e w3 ⟨rfl, hb3⟩
    have sz3 := hb3.size
    simp only [World.size_alloc] at sz3
    replace bp := bp.below hb3
    replace bw := bw.below hb3
    replace br := br.below hb3
    replace bn := bn.below hb3
    replace bo := bo.below hb3
    replace hI2 := Row.below hI2 hb3
    replace bl := bnext bl hb3
    clear hb3
    have q0 := bp.cell 0
    have q1 := bp.cell 1
    have qn := bp.lt
    simp only [List.getElem?_toArray, List.getElem?_cons_zero, List.getElem?_cons_succ] at q0 q1
    have s0 := bn.cell 0
    have s1 := bn.cell 1
    have sn := bn.lt
    simp only [List.getElem?_toArray, List.getElem?_cons_zero, List.getElem?_cons_succ] at s0 s1
    have p0 := bw.cell 0
    have p1 := bw.cell 1
    have p2 := bw.cell 2
    have p3 := bw.cell 3
    have pn := bw.lt
    simp only [List.getElem?_toArray, List.getElem?_cons_zero, List.getElem?_cons_succ] at p0 p1 p2 p3
    have o0 := bo.cell 0
    have o1 := bo.cell 1
    have o2 := bo.cell 2
    have o3 := bo.cell 3
    have of0 := bo.free 0
    have of1 := bo.free 1
    have of2 := bo.free 2
    have of3 := bo.free 3
    have on := bo.lt
    simp only [List.getElem?_toArray, List.getElem?_cons_zero, List.getElem?_cons_succ] at o0 o1 o2 o3
    have r0 := br.cell 0
    have r1 := br.cell 1
    have r2 := br.cell 2
    have r3 := br.cell 3
    have rf0 := br.free 0
    have rf1 := br.free 1
    have rf2 := br.free 2
    have rf3 := br.free 3
    have rn := br.lt
    simp only [List.getElem?_toArray, List.getElem?_cons_zero, List.getElem?_cons_succ] at r0 r1 r2 r3
    have k1 : (w.heap.size + 1 + 1 = w2.heap.size + 1) = False := by simp; omega
    have k2 : (w2.heap.size + 1 = w.heap.size + 1 + 1) = False := by simp; omega
    have k3 : (w2.heap.size + 1 = w.heap.size + 1) = False := by simp; omega
    have k4 : (w2.heap.size = w2.heap.size + 1) = False := by simp
    have k5 : (w2.heap.size + 1 = w.heap.size) = False := by simp; omega
    have k6 : (w2.heap.size + 1 = w2.heap.size) = False := by simp
    go_wp2
    clear q0 q1 qn s0 s1 sn p0 p1 p2 p3 pn o0 o1 o2 o3 of0 of1 of2 of3 on r0 r1 r2 r3 rf0 rf1 rf2 rf3 rn k1 k2 k3 k4 k5 k6
    replace bo : Box (w3.setCell ⟨w2.heap.size + 1, 2, none⟩ (.int .i64 (-dx))) (w2.heap.size + 1) 134 #[.int .i64 (x + dx), .int .i64 (y + dy), .int .i64 (-dx), .int .i64 dy] := by simpa using bo.set_ 2 (.int .i64 (-dx))
    replace bw := bw.setc (p := ⟨w2.heap.size + 1, 2, none⟩) (by show _ ≠ w2.heap.size + 1; omega) (.int .i64 (-dx))
    replace br := br.setc (p := ⟨w2.heap.size + 1, 2, none⟩) (by show _ ≠ w2.heap.size + 1; omega) (.int .i64 (-dx))
    replace bl := bl.setCell (p := ⟨w2.heap.size + 1, 2, none⟩) (by show w.heap.size ≤ w2.heap.size + 1; omega) (.int .i64 (-dx))
    generalize (w3.setCell ⟨w2.heap.size + 1, 2, none⟩ (.int .i64 (-dx))) = V at *
    have p0 := bw.cell 0
    have p1 := bw.cell 1
    have p2 := bw.cell 2
    have p3 := bw.cell 3
    have pn := bw.lt
    simp only [List.getElem?_toArray, List.getElem?_cons_zero, List.getElem?_cons_succ] at p0 p1 p2 p3
    have o0 := bo.cell 0
    have o1 := bo.cell 1
    have o2 := bo.cell 2
    have o3 := bo.cell 3
    have on := bo.lt
    simp only [List.getElem?_toArray, List.getElem?_cons_zero, List.getElem?_cons_succ] at o0 o1 o2 o3
    have r0 := br.cell 0
    have r1 := br.cell 1
    have r2 := br.cell 2
    have r3 := br.cell 3
    have rf0 := br.free 0
    have rf1 := br.free 1
    have rf2 := br.free 2
    have rf3 := br.free 3
    have rn := br.lt
    simp only [List.getElem?_toArray, List.getElem?_cons_zero, List.getElem?_cons_succ] at r0 r1 r2 r3
    have k1 : (w.heap.size + 1 + 1 = w2.heap.size + 1) = False := by simp; omega
    have k2 : (w2.heap.size + 1 = w.heap.size + 1 + 1) = False := by simp; omega
    have k7 : (w.heap.size + 1 = w.heap.size + 1 + 1) = False := by simp
    have k8 : (w.heap.size + 1 + 1 = w.heap.size + 1) = False := by simp
    have u1 : (-dx != dx) = true := by simp; have := HN.out; omega
    clear bp bw br bn bo hI2
    go_region
    go_wp2
    refine bodyPost_ret (v := .tuple #[.agg #[.int .i64 (x + dx), .int .i64 (y + dy), .int .i64 (-dx), .int .i64 dy], .bool true]) (by simp [results, Try.results144, go_sem, r0, r1, r2, r3, rf0, rf1, rf2, rf3, rn]) rfl ⟨_, rfl, ?_⟩
    exact ((((bl.setCell (p := ⟨w.heap.size + 1 + 1, 0, none⟩) (by simp; omega) _).setCell (p := ⟨w.heap.size + 1 + 1, 1, none⟩) (by simp; omega) _).setCell (p := ⟨w.heap.size + 1 + 1, 2, none⟩) (by simp; omega) _).setCell (p := ⟨w.heap.size + 1 + 1, 3, none⟩) (by simp; omega) _).trans (below_drewN _ _ 1)
  · obtain ⟨e1, he, n1, n2, n3, hst⟩ := hcs
    rw [hst] at hr
    injection hr with f1 f2 f3 f4
    subst f1 f2 f3 f4
    have HE := Lib.hid he
    have t1 := eqb_t e1
    have t2 := eqb_f n1
    have t3 := eqb_f n2
    have t4 := eqb_f n3
    clear he hst e1 n1 n2 n3
    have p0 := bw.cell 0
    have p1 := bw.cell 1
    have p2 := bw.cell 2
    have p3 := bw.cell 3
    have pn := bw.lt
    simp only [List.getElem?_toArray, List.getElem?_cons_zero, List.getElem?_cons_succ] at p0 p1 p2 p3
    go_enter Try.func144, Try.ntmps144
    go_wp2_with fail
    refine (next_any HN.out).mono ?_
    rintro e w2 ⟨rfl, hb2⟩
    have sz2 := hb2.size
    simp only [World.size_alloc] at sz2
    replace bp := bp.below hb2
    replace bw := bw.below hb2
    replace br := br.below hb2
    replace hI2 := Row.below hI2 hb2
    replace bl := bnext bl hb2
    clear p0 p1 p2 p3 pn hb2
    have p0 := bw.cell 0
    have p1 := bw.cell 1
    have p2 := bw.cell 2
    have p3 := bw.cell 3
    have pn := bw.lt
    simp only [List.getElem?_toArray, List.getElem?_cons_zero, List.getElem?_cons_succ] at p0 p1 p2 p3
    have q0 := bp.cell 0
    have q1 := bp.cell 1
    have q2 := bp.cell 2
    have qn := bp.lt
    simp only [List.getElem?_toArray, List.getElem?_cons_zero, List.getElem?_cons_succ] at q0 q1 q2
    go_wp2_with fail
    replace bp := (bp.alloc (.cells #[.int .i64 (x + dx), .int .i64 (y + dy)] 36)).alloc (.cells #[.int .i64 (x + dx), .int .i64 (y + dy), .int .i64 dx, .int .i64 dy] 134)
    replace bw := (bw.alloc (.cells #[.int .i64 (x + dx), .int .i64 (y + dy)] 36)).alloc (.cells #[.int .i64 (x + dx), .int .i64 (y + dy), .int .i64 dx, .int .i64 dy] 134)
    replace br := (br.alloc (.cells #[.int .i64 (x + dx), .int .i64 (y + dy)] 36)).alloc (.cells #[.int .i64 (x + dx), .int .i64 (y + dy), .int .i64 dx, .int .i64 dy] 134)
    have bn := (Box.new w2 36 #[.int .i64 (x + dx), .int .i64 (y + dy)]).alloc (.cells #[.int .i64 (x + dx), .int .i64 (y + dy), .int .i64 dx, .int .i64 dy] 134)
    have bo := Box.new (w2.alloc (.cells #[.int .i64 (x + dx), .int .i64 (y + dy)] 36)) 134 #[.int .i64 (x + dx), .int .i64 (y + dy), .int .i64 dx, .int .i64 dy]
    rw [World.size_alloc] at bo
    replace hI2 := Row.below hI2 (Joins.below_alloc2 _ (.cells #[.int .i64 (x + dx), .int .i64 (y + dy)] 36) (.cells #[.int .i64 (x + dx), .int .i64 (y + dy), .int .i64 dx, .int .i64 dy] 134))
    replace bl := bnext bl (Joins.below_alloc2 _ (.cells #[.int .i64 (x + dx), .int .i64 (y + dy)] 36) (.cells #[.int .i64 (x + dx), .int .i64 (y + dy), .int .i64 dx, .int .i64 dy] 134))
    clear p0 p1 p2 p3 pn q0 q1 q2 qn
    refine (isBorder_any (B := B) HW.out HH.out (yes_iff HE.out)).mono ?_
    rintro e w3 ⟨rfl, hb3⟩
    have sz3 := hb3.size
    simp only [World.size_alloc] at sz3
    replace bp := bp.below hb3
    replace bw := bw.below hb3
    replace br := br.below hb3
    replace bn := bn.below hb3
    replace bo := bo.below hb3
    replace hI2 := Row.below hI2 hb3
    replace bl := bnext bl hb3
    clear hb3
    have q0 := bp.cell 0
    have q1 := bp.cell 1
    have qn := bp.lt
    simp only [List.getElem?_toArray, List.getElem?_cons_zero, List.getElem?_cons_succ] at q0 q1
    have s0 := bn.cell 0
    have s1 := bn.cell 1
    have sn := bn.lt
    simp only [List.getElem?_toArray, List.getElem?_cons_zero, List.getElem?_cons_succ] at s0 s1
    have p0 := bw.cell 0
    have p1 := bw.cell 1
    have p2 := bw.cell 2
    have p3 := bw.cell 3
    have pn := bw.lt
    simp only [List.getElem?_toArray, List.getElem?_cons_zero, List.getElem?_cons_succ] at p0 p1 p2 p3
    have o0 := bo.cell 0
    have o1 := bo.cell 1
    have o2 := bo.cell 2
    have o3 := bo.cell 3
    have of0 := bo.free 0
    have of1 := bo.free 1
    have of2 := bo.free 2
    have of3 := bo.free 3
    have on := bo.lt
    simp only [List.getElem?_toArray, List.getElem?_cons_zero, List.getElem?_cons_succ] at o0 o1 o2 o3
    have r0 := br.cell 0
    have r1 := br.cell 1
    have r2 := br.cell 2
    have r3 := br.cell 3
    have rf0 := br.free 0
    have rf1 := br.free 1
    have rf2 := br.free 2
    have rf3 := br.free 3
    have rn := br.lt
    simp only [List.getElem?_toArray, List.getElem?_cons_zero, List.getElem?_cons_succ] at r0 r1 r2 r3
    have k1 : (w.heap.size + 1 + 1 = w2.heap.size + 1) = False := by simp; omega
    have k2 : (w2.heap.size + 1 = w.heap.size + 1 + 1) = False := by simp; omega
    have k3 : (w2.heap.size + 1 = w.heap.size + 1) = False := by simp; omega
    have k4 : (w2.heap.size = w2.heap.size + 1) = False := by simp
    have k5 : (w2.heap.size + 1 = w.heap.size) = False := by simp; omega
    have k6 : (w2.heap.size + 1 = w2.heap.size) = False := by simp
    go_wp2
    clear q0 q1 qn s0 s1 sn p0 p1 p2 p3 pn o0 o1 o2 o3 of0 of1 of2 of3 on r0 r1 r2 r3 rf0 rf1 rf2 rf3 rn k1 k2 k3 k4 k5 k6
    replace bo : Box (w3.setCell ⟨w2.heap.size + 1, 3, none⟩ (.int .i64 (-dy))) (w2.heap.size + 1) 134 #[.int .i64 (x + dx), .int .i64 (y + dy), .int .i64 dx, .int .i64 (-dy)] := by simpa using bo.set_ 3 (.int .i64 (-dy))
    replace bw := bw.setc (p := ⟨w2.heap.size + 1, 3, none⟩) (by show _ ≠ w2.heap.size + 1; omega) (.int .i64 (-dy))
    replace br := br.setc (p := ⟨w2.heap.size + 1, 3, none⟩) (by show _ ≠ w2.heap.size + 1; omega) (.int .i64 (-dy))
    replace bl := bl.setCell (p := ⟨w2.heap.size + 1, 3, none⟩) (by show w.heap.size ≤ w2.heap.size + 1; omega) (.int .i64 (-dy))
    generalize (w3.setCell ⟨w2.heap.size + 1, 3, none⟩ (.int .i64 (-dy))) = V at *
    have p0 := bw.cell 0
    have p1 := bw.cell 1
    have p2 := bw.cell 2
    have p3 := bw.cell 3
    have pn := bw.lt
    simp only [List.getElem?_toArray, List.getElem?_cons_zero, List.getElem?_cons_succ] at p0 p1 p2 p3
    have o0 := bo.cell 0
    have o1 := bo.cell 1
    have o2 := bo.cell 2
    have o3 := bo.cell 3
    have on := bo.lt
    simp only [List.getElem?_toArray, List.getElem?_cons_zero, List.getElem?_cons_succ] at o0 o1 o2 o3
    have r0 := br.cell 0
    have r1 := br.cell 1
    have r2 := br.cell 2
    have r3 := br.cell 3
    have rf0 := br.free 0
    have rf1 := br.free 1
    have rf2 := br.free 2
    have rf3 := br.free 3
    have rn := br.lt
    simp only [List.getElem?_toArray, List.getElem?_cons_zero, List.getElem?_cons_succ] at r0 r1 r2 r3
    have k1 : (w.heap.size + 1 + 1 = w2.heap.size + 1) = False := by simp; omega
    have k2 : (w2.heap.size + 1 = w.heap.size + 1 + 1) = False := by simp; omega
    have k7 : (w.heap.size + 1 = w.heap.size + 1 + 1) = False := by simp
    have k8 : (w.heap.size + 1 + 1 = w.heap.size + 1) = False := by simp
    have u1 : (-dy != dy) = true := by simp; have := HN.out; omega
    clear bp bw br bn bo hI2
    go_region
    go_wp2
    refine bodyPost_ret (v := .tuple #[.agg #[.int .i64 (x + dx), .int .i64 (y + dy), .int .i64 dx, .int .i64 (-dy)], .bool true]) (by simp [results, Try.results144, go_sem, r0, r1, r2, r3, rf0, rf1, rf2, rf3, rn]) rfl ⟨_, rfl, ?_⟩
    exact ((((bl.setCell (p := ⟨w.heap.size + 1 + 1, 0, none⟩) (by simp; omega) _).setCell (p := ⟨w.heap.size + 1 + 1, 1, none⟩) (by simp; omega) _).setCell (p := ⟨w.heap.size + 1 + 1, 2, none⟩) (by simp; omega) _).setCell (p := ⟨w.heap.size + 1 + 1, 3, none⟩) (by simp; omega) _).trans (below_drewN _ _ 1)
  · obtain ⟨e1, he, n1, n2, n3, hst⟩ := hcs
    rw [hst] at hr
    injection hr with f1 f2 f3 f4
    subst f1 f2 f3 f4
    have HE := Lib.hid he
    have t1 := eqb_t e1
    have t2 := eqb_f n1
    have t3 := eqb_f n2
    have t4 := eqb_f n3
    clear he hst e1 n1 n2 n3
    have p0 := bw.cell 0
    have p1 := bw.cell 1
    have p2 := bw.cell 2
    have p3 := bw.cell 3
    have pn := bw.lt
    simp only [List.getElem?_toArray, List.getElem?_cons_zero, List.getElem?_cons_succ] at p0 p1 p2 p3
    go_enter Try.func144, Try.ntmps144
    go_wp2_with fail
    refine (next_any HN.out).mono ?_
    rintro e w2 ⟨rfl, hb2⟩
    have sz2 := hb2.size
    simp only [World.size_alloc] at sz2
    replace bp := bp.below hb2
    replace bw := bw.below hb2
    replace br := br.below hb2
    replace hI2 := Row.below hI2 hb2
    replace bl := bnext bl hb2
    clear p0 p1 p2 p3 pn hb2
    have p0 := bw.cell 0
    have p1 := bw.cell 1
    have p2 := bw.cell 2
    have p3 := bw.cell 3
    have pn := bw.lt
    simp only [List.getElem?_toArray, List.getElem?_cons_zero, List.getElem?_cons_succ] at p0 p1 p2 p3
    have q0 := bp.cell 0
    have q1 := bp.cell 1
    have q2 := bp.cell 2
    have qn := bp.lt
    simp only [List.getElem?_toArray, List.getElem?_cons_zero, List.getElem?_cons_succ] at q0 q1 q2
    go_wp2_with fail
    replace bp := (bp.alloc (.cells #[.int .i64 (x + dx), .int .i64 (y + dy)] 36)).alloc (.cells #[.int .i64 (x + dx), .int .i64 (y + dy), .int .i64 dx, .int .i64 dy] 134)
    replace bw := (bw.alloc (.cells #[.int .i64 (x + dx), .int .i64 (y + dy)] 36)).alloc (.cells #[.int .i64 (x + dx), .int .i64 (y + dy), .int .i64 dx, .int .i64 dy] 134)
    replace br := (br.alloc (.cells #[.int .i64 (x + dx), .int .i64 (y + dy)] 36)).alloc (.cells #[.int .i64 (x + dx), .int .i64 (y + dy), .int .i64 dx, .int .i64 dy] 134)
    have bn := (Box.new w2 36 #[.int .i64 (x + dx), .int .i64 (y + dy)]).alloc (.cells #[.int .i64 (x + dx), .int .i64 (y + dy), .int .i64 dx, .int .i64 dy] 134)
    have bo := Box.new (w2.alloc (.cells #[.int .i64 (x + dx), .int .i64 (y + dy)] 36)) 134 #[.int .i64 (x + dx), .int .i64 (y + dy), .int .i64 dx, .int .i64 dy]
    rw [World.size_alloc] at bo
    replace hI2 := Row.below hI2 (Joins.below_alloc2 _ (.cells #[.int .i64 (x + dx), .int .i64 (y + dy)] 36) (.cells #[.int .i64 (x + dx), .int .i64 (y + dy), .int .i64 dx, .int .i64 dy] 134))
    replace bl := bnext bl (Joins.below_alloc2 _ (.cells #[.int .i64 (x + dx), .int .i64 (y + dy)] 36) (.cells #[.int .i64 (x + dx), .int .i64 (y + dy), .int .i64 dx, .int .i64 dy] 134))
    clear p0 p1 p2 p3 pn q0 q1 q2 qn
    refine (isBorder_any (B := B) HW.out HH.out (yes_iff HE.out)).mono ?_
    rintro e w3 ⟨rfl, hb3⟩
    have sz3 := hb3.size
    simp only [World.size_alloc] at sz3
    replace bp := bp.below hb3
    replace bw := bw.below hb3
    replace br := br.below hb3
    replace bn := bn.below hb3
    replace bo := bo.below hb3
    replace hI2 := Row.below hI2 hb3
    replace bl := bnext bl hb3
    clear hb3
    have q0 := bp.cell 0
    have q1 := bp.cell 1
    have qn := bp.lt
    simp only [List.getElem?_toArray, List.getElem?_cons_zero, List.getElem?_cons_succ] at q0 q1
    have s0 := bn.cell 0
    have s1 := bn.cell 1
    have sn := bn.lt
    simp only [List.getElem?_toArray, List.getElem?_cons_zero, List.getElem?_cons_succ] at s0 s1
    have p0 := bw.cell 0
    have p1 := bw.cell 1
    have p2 := bw.cell 2
    have p3 := bw.cell 3
    have pn := bw.lt
    simp only [List.getElem?_toArray, List.getElem?_cons_zero, List.getElem?_cons_succ] at p0 p1 p2 p3
    have o0 := bo.cell 0
    have o1 := bo.cell 1
    have o2 := bo.cell 2
    have o3 := bo.cell 3
    have of0 := bo.free 0
    have of1 := bo.free 1
    have of2 := bo.free 2
    have of3 := bo.free 3
    have on := bo.lt
    simp only [List.getElem?_toArray, List.getElem?_cons_zero, List.getElem?_cons_succ] at o0 o1 o2 o3
    have r0 := br.cell 0
    have r1 := br.cell 1
    have r2 := br.cell 2
    have r3 := br.cell 3
    have rf0 := br.free 0
    have rf1 := br.free 1
    have rf2 := br.free 2
    have rf3 := br.free 3
    have rn := br.lt
    simp only [List.getElem?_toArray, List.getElem?_cons_zero, List.getElem?_cons_succ] at r0 r1 r2 r3
    have k1 : (w.heap.size + 1 + 1 = w2.heap.size + 1) = False := by simp; omega
    have k2 : (w2.heap.size + 1 = w.heap.size + 1 + 1) = False := by simp; omega
    have k3 : (w2.heap.size + 1 = w.heap.size + 1) = False := by simp; omega
    have k4 : (w2.heap.size = w2.heap.size + 1) = False := by simp
    have k5 : (w2.heap.size + 1 = w.heap.size) = False := by simp; omega
    have k6 : (w2.heap.size + 1 = w2.heap.size) = False := by simp
    go_wp2
    clear q0 q1 qn s0 s1 sn p0 p1 p2 p3 pn o0 o1 o2 o3 of0 of1 of2 of3 on r0 r1 r2 r3 rf0 rf1 rf2 rf3 rn k1 k2 k3 k4 k5 k6
    replace bo : Box (w3.setCell ⟨w2.heap.size + 1, 3, none⟩ (.int .i64 (-dy))) (w2.heap.size + 1) 134 #[.int .i64 (x + dx), .int .i64 (y + dy), .int .i64 dx, .int .i64 (-dy)] := by simpa using bo.set_ 3 (.int .i64 (-dy))
    replace bw := bw.setc (p := ⟨w2.heap.size + 1, 3, none⟩) (by show _ ≠ w2.heap.size + 1; omega) (.int .i64 (-dy))
    replace br := br.setc (p := ⟨w2.heap.size + 1, 3, none⟩) (by show _ ≠ w2.heap.size + 1; omega) (.int .i64 (-dy))
    replace bl := bl.setCell (p := ⟨w2.heap.size + 1, 3, none⟩) (by show w.heap.size ≤ w2.heap.size + 1; omega) (.int .i64 (-dy))
    generalize (w3.setCell ⟨w2.heap.size + 1, 3, none⟩ (.int .i64 (-dy))) = V at *
    have p0 := bw.cell 0
    have p1 := bw.cell 1
    have p2 := bw.cell 2
    have p3 := bw.cell 3
    have pn := bw.lt
    simp only [List.getElem?_toArray, List.getElem?_cons_zero, List.getElem?_cons_succ] at p0 p1 p2 p3
    have o0 := bo.cell 0
    have o1 := bo.cell 1
    have o2 := bo.cell 2
    have o3 := bo.cell 3
    have on := bo.lt
    simp only [List.getElem?_toArray, List.getElem?_cons_zero, List.getElem?_cons_succ] at o0 o1 o2 o3
    have r0 := br.cell 0
    have r1 := br.cell 1
    have r2 := br.cell 2
    have r3 := br.cell 3
    have rf0 := br.free 0
    have rf1 := br.free 1
    have rf2 := br.free 2
    have rf3 := br.free 3
    have rn := br.lt
    simp only [List.getElem?_toArray, List.getElem?_cons_zero, List.getElem?_cons_succ] at r0 r1 r2 r3
    have k1 : (w.heap.size + 1 + 1 = w2.heap.size + 1) = False := by simp; omega
    have k2 : (w2.heap.size + 1 = w.heap.size + 1 + 1) = False := by simp; omega
    have k7 : (w.heap.size + 1 = w.heap.size + 1 + 1) = False := by simp
    have k8 : (w.heap.size + 1 + 1 = w.heap.size + 1) = False := by simp
    have u1 : (-dy != dy) = true := by simp; have := HN.out; omega
    clear bp bw br bn bo hI2
    go_region
    go_wp2
    refine bodyPost_ret (v := .tuple #[.agg #[.int .i64 (x + dx), .int .i64 (y + dy), .int .i64 dx, .int .i64 (-dy)], .bool true]) (by simp [results, Try.results144, go_sem, r0, r1, r2, r3, rf0, rf1, rf2, rf3, rn]) rfl ⟨_, rfl, ?_⟩
    exact ((((bl.setCell (p := ⟨w.heap.size + 1 + 1, 0, none⟩) (by simp; omega) _).setCell (p := ⟨w.heap.size + 1 + 1, 1, none⟩) (by simp; omega) _).setCell (p := ⟨w.heap.size + 1 + 1, 2, none⟩) (by simp; omega) _).setCell (p := ⟨w.heap.size + 1 + 1, 3, none⟩) (by simp; omega) _).trans (below_drewN _ _ 1)
  · obtain ⟨he, ⟨n1, n2, n3, n4⟩, ⟨i1, i2, i3, i4, i5⟩, ⟨m0, m1⟩, hk3⟩ := hcs
    have HX : Hid (1 ≤ x + dx ∧ x + dx ≤ 16) := Lib.hid ⟨i1, by omega⟩
    have HY : Hid (1 ≤ y + dy ∧ y + dy ≤ 16) := Lib.hid ⟨i3, by omega⟩
    have HP := Lib.hid i5
    clear i5
    rcases hk3 with ⟨hgk, hst⟩ | ⟨hgk, hst⟩ | ⟨hgk, hst⟩
    · rw [hst] at hr
      injection hr with f1 f2 f3 f4
      subst f1 f2 f3 f4
      have HE := Lib.hid he
      have t1 := eqb_f n1
      have t2 := eqb_f n2
      have t3 := eqb_f n3
      have t4 := eqb_f n4
      obtain ⟨m, hm⟩ : ∃ m, rowOf W (y + dy) + (x + dx - 1) / 2 = m := ⟨_, rfl⟩
      rw [hm] at m0 m1 hgk
      have HM := Lib.hid hm
      obtain ⟨g, rfl, _, _⟩ := hA (by omega)
      clear he hst n1 n2 n3 n4 hm hA
      have p0 := bw.cell 0
      have p1 := bw.cell 1
      have p2 := bw.cell 2
      have p3 := bw.cell 3
      have pn := bw.lt
      simp only [List.getElem?_toArray, List.getElem?_cons_zero, List.getElem?_cons_succ] at p0 p1 p2 p3
      go_enter Try.func144, Try.ntmps144
      go_wp2_with fail
      refine (next_any HN.out).mono ?_
      rintro e w2 ⟨rfl, hb2⟩
      have sz2 := hb2.size
      simp only [World.size_alloc] at sz2
      replace bp := bp.below hb2
      replace bw := bw.below hb2
      replace br := br.below hb2
      replace hI2 := Row.below hI2 hb2
      replace bl := bnext bl hb2
      clear p0 p1 p2 p3 pn hb2
      have p0 := bw.cell 0
      have p1 := bw.cell 1
      have p2 := bw.cell 2
      have p3 := bw.cell 3
      have pn := bw.lt
      simp only [List.getElem?_toArray, List.getElem?_cons_zero, List.getElem?_cons_succ] at p0 p1 p2 p3
      have q0 := bp.cell 0
      have q1 := bp.cell 1
      have q2 := bp.cell 2
      have qn := bp.lt
      simp only [List.getElem?_toArray, List.getElem?_cons_zero, List.getElem?_cons_succ] at q0 q1 q2
      go_wp2_with fail
      replace bp := (bp.alloc (.cells #[.int .i64 (x + dx), .int .i64 (y + dy)] 36)).alloc (.cells #[.int .i64 (x + dx), .int .i64 (y + dy), .int .i64 dx, .int .i64 dy] 134)
      replace bw := (bw.alloc (.cells #[.int .i64 (x + dx), .int .i64 (y + dy)] 36)).alloc (.cells #[.int .i64 (x + dx), .int .i64 (y + dy), .int .i64 dx, .int .i64 dy] 134)
      replace br := (br.alloc (.cells #[.int .i64 (x + dx), .int .i64 (y + dy)] 36)).alloc (.cells #[.int .i64 (x + dx), .int .i64 (y + dy), .int .i64 dx, .int .i64 dy] 134)
      have bn := (Box.new w2 36 #[.int .i64 (x + dx), .int .i64 (y + dy)]).alloc (.cells #[.int .i64 (x + dx), .int .i64 (y + dy), .int .i64 dx, .int .i64 dy] 134)
      have bo := Box.new (w2.alloc (.cells #[.int .i64 (x + dx), .int .i64 (y + dy)] 36)) 134 #[.int .i64 (x + dx), .int .i64 (y + dy), .int .i64 dx, .int .i64 dy]
      rw [World.size_alloc] at bo
      replace hI2 := Row.below hI2 (Joins.below_alloc2 _ (.cells #[.int .i64 (x + dx), .int .i64 (y + dy)] 36) (.cells #[.int .i64 (x + dx), .int .i64 (y + dy), .int .i64 dx, .int .i64 dy] 134))
      replace bl := bnext bl (Joins.below_alloc2 _ (.cells #[.int .i64 (x + dx), .int .i64 (y + dy)] 36) (.cells #[.int .i64 (x + dx), .int .i64 (y + dy), .int .i64 dx, .int .i64 dy] 134))
      clear p0 p1 p2 p3 pn q0 q1 q2 qn
      refine (isBorder_any (B := B) HW.out HH.out (no_iff HE.out)).mono ?_
      rintro e w3 ⟨rfl, hb3⟩
      have sz3 := hb3.size
      simp only [World.size_alloc] at sz3
      replace bp := bp.below hb3
      replace bw := bw.below hb3
      replace br := br.below hb3
      replace bn := bn.below hb3
      replace bo := bo.below hb3
      replace hI2 := Row.below hI2 hb3
      replace bl := bnext bl hb3
      clear hb3
      have cc := Ints.cellI hI2 (i := m) m0 m1
      rw [hgk] at cc
      have q0 := bp.cell 0
      have q1 := bp.cell 1
      have q2 := bp.cell 2
      have qn := bp.lt
      simp only [List.getElem?_toArray, List.getElem?_cons_zero, List.getElem?_cons_succ] at q0 q1 q2
      have s0 := bn.cell 0
      have s1 := bn.cell 1
      have sn := bn.lt
      simp only [List.getElem?_toArray, List.getElem?_cons_zero, List.getElem?_cons_succ] at s0 s1
      have KS : Hid (∀ w', Below w3.heap.size w3 w' → (Below w3.heap.size w3 w' ∧ w'.cell? ⟨w.heap.size, 0, none⟩ = some (.int .i64 W) ∧ w'.cell? ⟨w.heap.size, 1, none⟩ = some (.int .i64 H) ∧ w'.cell? ⟨w.heap.size, 2, none⟩ = some (.slice (some ⟨g, 0, none⟩) B.length cA) ∧ w'.cell? ⟨w2.heap.size, 0, none⟩ = some (.int .i64 (x + dx)) ∧ w'.cell? ⟨w2.heap.size, 1, none⟩ = some (.int .i64 (y + dy)) ∧ w'.cell? ⟨g, m.toNat, none⟩ = some (.int .i64 0))) := Lib.hid (fun x hx => ⟨hx, (bp.below hx).cell 0, (bp.below hx).cell 1, (bp.below hx).cell 2, (bn.below hx).cell 0, (bn.below hx).cell 1, keep_cell hx cc⟩)
      clear hgk
      go_wp2
      go_region_held3 (fun w' => Below w3.heap.size w3 w' ∧ w'.cell? ⟨w.heap.size, 0, none⟩ = some (.int .i64 W) ∧ w'.cell? ⟨w.heap.size, 1, none⟩ = some (.int .i64 H) ∧ w'.cell? ⟨w.heap.size, 2, none⟩ = some (.slice (some ⟨g, 0, none⟩) B.length cA) ∧ w'.cell? ⟨w2.heap.size, 0, none⟩ = some (.int .i64 (x + dx)) ∧ w'.cell? ⟨w2.heap.size, 1, none⟩ = some (.int .i64 (y + dy)) ∧ w'.cell? ⟨g, m.toNat, none⟩ = some (.int .i64 0))
        ((refine KS.out _ ?_; first | exact cut_drew | exact hBn))
        ((go_at_call 93; go_split_ands; (with_reducible refine (number_any HW.out HX.out HY.out HP.out HM.out).mono ?_); rintro e w4 ⟨rfl, hb4⟩; have hBn := bnext (w := w3) (by assumption) hb4))
      go_split_ands
      clear q0 q1 q2 qn s0 s1 sn KS cc
      replace bp := bp.below hBn
      replace bw := bw.below hBn
      replace br := br.below hBn
      replace bn := bn.below hBn
      replace bo := bo.below hBn
      replace bl := bnext bl hBn
      have sz4 := hBn.size
      clear hBn hb4
      obtain ⟨w3, hw3⟩ : ∃ x, x = w4 := ⟨w4, rfl⟩
      subst hw3
      have q0 := bp.cell 0
      have q1 := bp.cell 1
      have qn := bp.lt
      simp only [List.getElem?_toArray, List.getElem?_cons_zero, List.getElem?_cons_succ] at q0 q1
      have s0 := bn.cell 0
      have s1 := bn.cell 1
      have sn := bn.lt
      simp only [List.getElem?_toArray, List.getElem?_cons_zero, List.getElem?_cons_succ] at s0 s1
      have p0 := bw.cell 0
      have p1 := bw.cell 1
      have p2 := bw.cell 2
      have p3 := bw.cell 3
      have pn := bw.lt
      simp only [List.getElem?_toArray, List.getElem?_cons_zero, List.getElem?_cons_succ] at p0 p1 p2 p3
      have o0 := bo.cell 0
      have o1 := bo.cell 1
      have o2 := bo.cell 2
      have o3 := bo.cell 3
      have of0 := bo.free 0
      have of1 := bo.free 1
      have of2 := bo.free 2
      have of3 := bo.free 3
      have on := bo.lt
      simp only [List.getElem?_toArray, List.getElem?_cons_zero, List.getElem?_cons_succ] at o0 o1 o2 o3
      have r0 := br.cell 0
      have r1 := br.cell 1
      have r2 := br.cell 2
      have r3 := br.cell 3
      have rf0 := br.free 0
      have rf1 := br.free 1
      have rf2 := br.free 2
      have rf3 := br.free 3
      have rn := br.lt
      simp only [List.getElem?_toArray, List.getElem?_cons_zero, List.getElem?_cons_succ] at r0 r1 r2 r3
      have k1 : (w.heap.size + 1 + 1 = w2.heap.size + 1) = False := by simp; omega
      have k2 : (w2.heap.size + 1 = w.heap.size + 1 + 1) = False := by simp; omega
      have k3 : (w2.heap.size + 1 = w.heap.size + 1) = False := by simp; omega
      have k4 : (w2.heap.size = w2.heap.size + 1) = False := by simp
      have k5 : (w2.heap.size + 1 = w.heap.size) = False := by simp; omega
      have k6 : (w2.heap.size + 1 = w2.heap.size) = False := by simp
      go_wp2
      clear q0 q1 qn s0 s1 sn p0 p1 p2 p3 pn o0 o1 o2 o3 of0 of1 of2 of3 on r0 r1 r2 r3 rf0 rf1 rf2 rf3 rn k1 k2 k3 k4 k5 k6
      obtain ⟨V, hV⟩ : ∃ x, x = w3 := ⟨w3, rfl⟩
      subst hV
      have p0 := bw.cell 0
      have p1 := bw.cell 1
      have p2 := bw.cell 2
      have p3 := bw.cell 3
      have pn := bw.lt
      simp only [List.getElem?_toArray, List.getElem?_cons_zero, List.getElem?_cons_succ] at p0 p1 p2 p3
      have o0 := bo.cell 0
      have o1 := bo.cell 1
      have o2 := bo.cell 2
      have o3 := bo.cell 3
      have on := bo.lt
      simp only [List.getElem?_toArray, List.getElem?_cons_zero, List.getElem?_cons_succ] at o0 o1 o2 o3
      have r0 := br.cell 0
      have r1 := br.cell 1
      have r2 := br.cell 2
      have r3 := br.cell 3
      have rf0 := br.free 0
      have rf1 := br.free 1
      have rf2 := br.free 2
      have rf3 := br.free 3
      have rn := br.lt
      simp only [List.getElem?_toArray, List.getElem?_cons_zero, List.getElem?_cons_succ] at r0 r1 r2 r3
      have k1 : (w.heap.size + 1 + 1 = w2.heap.size + 1) = False := by simp; omega
      have k2 : (w2.heap.size + 1 = w.heap.size + 1 + 1) = False := by simp; omega
      have k7 : (w.heap.size + 1 = w.heap.size + 1 + 1) = False := by simp
      have k8 : (w.heap.size + 1 + 1 = w.heap.size + 1) = False := by simp
      clear bp bw br bn bo hI2
      go_region
      go_wp2
      refine bodyPost_ret (v := .tuple #[.agg #[.int .i64 (x + dx), .int .i64 (y + dy), .int .i64 dx, .int .i64 dy], .bool false]) (by simp [results, Try.results144, go_sem, r0, r1, r2, r3, rf0, rf1, rf2, rf3, rn]) rfl ⟨_, rfl, ?_⟩
      exact ((((bl.setCell (p := ⟨w.heap.size + 1 + 1, 0, none⟩) (by simp; omega) _).setCell (p := ⟨w.heap.size + 1 + 1, 1, none⟩) (by simp; omega) _).setCell (p := ⟨w.heap.size + 1 + 1, 2, none⟩) (by simp; omega) _).setCell (p := ⟨w.heap.size + 1 + 1, 3, none⟩) (by simp; omega) _).trans (below_drewN _ _ 1)
    · rw [hst] at hr
      injection hr with f1 f2 f3 f4
      subst f1 f2 f3 f4
      have HE := Lib.hid he
      have t1 := eqb_f n1
      have t2 := eqb_f n2
      have t3 := eqb_f n3
      have t4 := eqb_f n4
      obtain ⟨m, hm⟩ : ∃ m, rowOf W (y + dy) + (x + dx - 1) / 2 = m := ⟨_, rfl⟩
      rw [hm] at m0 m1 hgk
      have HM := Lib.hid hm
      obtain ⟨g, rfl, _, _⟩ := hA (by omega)
      clear he hst n1 n2 n3 n4 hm hA
      have p0 := bw.cell 0
      have p1 := bw.cell 1
      have p2 := bw.cell 2
      have p3 := bw.cell 3
      have pn := bw.lt
      simp only [List.getElem?_toArray, List.getElem?_cons_zero, List.getElem?_cons_succ] at p0 p1 p2 p3
      go_enter Try.func144, Try.ntmps144
      go_wp2_with fail
      refine (next_any HN.out).mono ?_
      rintro e w2 ⟨rfl, hb2⟩
      have sz2 := hb2.size
      simp only [World.size_alloc] at sz2
      replace bp := bp.below hb2
      replace bw := bw.below hb2
      replace br := br.below hb2
      replace hI2 := Row.below hI2 hb2
      replace bl := bnext bl hb2
      clear p0 p1 p2 p3 pn hb2
      have p0 := bw.cell 0
      have p1 := bw.cell 1
      have p2 := bw.cell 2
      have p3 := bw.cell 3
      have pn := bw.lt
      simp only [List.getElem?_toArray, List.getElem?_cons_zero, List.getElem?_cons_succ] at p0 p1 p2 p3
      have q0 := bp.cell 0
      have q1 := bp.cell 1
      have q2 := bp.cell 2
      have qn := bp.lt
      simp only [List.getElem?_toArray, List.getElem?_cons_zero, List.getElem?_cons_succ] at q0 q1 q2
      go_wp2_with fail
      replace bp := (bp.alloc (.cells #[.int .i64 (x + dx), .int .i64 (y + dy)] 36)).alloc (.cells #[.int .i64 (x + dx), .int .i64 (y + dy), .int .i64 dx, .int .i64 dy] 134)
      replace bw := (bw.alloc (.cells #[.int .i64 (x + dx), .int .i64 (y + dy)] 36)).alloc (.cells #[.int .i64 (x + dx), .int .i64 (y + dy), .int .i64 dx, .int .i64 dy] 134)
      replace br := (br.alloc (.cells #[.int .i64 (x + dx), .int .i64 (y + dy)] 36)).alloc (.cells #[.int .i64 (x + dx), .int .i64 (y + dy), .int .i64 dx, .int .i64 dy] 134)
      have bn := (Box.new w2 36 #[.int .i64 (x + dx), .int .i64 (y + dy)]).alloc (.cells #[.int .i64 (x + dx), .int .i64 (y + dy), .int .i64 dx, .int .i64 dy] 134)
      have bo := Box.new (w2.alloc (.cells #[.int .i64 (x + dx), .int .i64 (y + dy)] 36)) 134 #[.int .i64 (x + dx), .int .i64 (y + dy), .int .i64 dx, .int .i64 dy]
      rw [World.size_alloc] at bo
      replace hI2 := Row.below hI2 (Joins.below_alloc2 _ (.cells #[.int .i64 (x + dx), .int .i64 (y + dy)] 36) (.cells #[.int .i64 (x + dx), .int .i64 (y + dy), .int .i64 dx, .int .i64 dy] 134))
      replace bl := bnext bl (Joins.below_alloc2 _ (.cells #[.int .i64 (x + dx), .int .i64 (y + dy)] 36) (.cells #[.int .i64 (x + dx), .int .i64 (y + dy), .int .i64 dx, .int .i64 dy] 134))
      clear p0 p1 p2 p3 pn q0 q1 q2 qn
      refine (isBorder_any (B := B) HW.out HH.out (no_iff HE.out)).mono ?_
      rintro e w3 ⟨rfl, hb3⟩
      have sz3 := hb3.size
      simp only [World.size_alloc] at sz3
      replace bp := bp.below hb3
      replace bw := bw.below hb3
      replace br := br.below hb3
      replace bn := bn.below hb3
      replace bo := bo.below hb3
      replace hI2 := Row.below hI2 hb3
      replace bl := bnext bl hb3
      clear hb3
      have cc := Ints.cellI hI2 (i := m) m0 m1
      rw [hgk] at cc
      have q0 := bp.cell 0
      have q1 := bp.cell 1
      have q2 := bp.cell 2
      have qn := bp.lt
      simp only [List.getElem?_toArray, List.getElem?_cons_zero, List.getElem?_cons_succ] at q0 q1 q2
      have s0 := bn.cell 0
      have s1 := bn.cell 1
      have sn := bn.lt
      simp only [List.getElem?_toArray, List.getElem?_cons_zero, List.getElem?_cons_succ] at s0 s1
      have KS : Hid (∀ w', Below w3.heap.size w3 w' → (Below w3.heap.size w3 w' ∧ w'.cell? ⟨w.heap.size, 0, none⟩ = some (.int .i64 W) ∧ w'.cell? ⟨w.heap.size, 1, none⟩ = some (.int .i64 H) ∧ w'.cell? ⟨w.heap.size, 2, none⟩ = some (.slice (some ⟨g, 0, none⟩) B.length cA) ∧ w'.cell? ⟨w2.heap.size, 0, none⟩ = some (.int .i64 (x + dx)) ∧ w'.cell? ⟨w2.heap.size, 1, none⟩ = some (.int .i64 (y + dy)) ∧ w'.cell? ⟨g, m.toNat, none⟩ = some (.int .i64 1))) := Lib.hid (fun x hx => ⟨hx, (bp.below hx).cell 0, (bp.below hx).cell 1, (bp.below hx).cell 2, (bn.below hx).cell 0, (bn.below hx).cell 1, keep_cell hx cc⟩)
      clear hgk
      go_wp2
      go_region_held3 (fun w' => Below w3.heap.size w3 w' ∧ w'.cell? ⟨w.heap.size, 0, none⟩ = some (.int .i64 W) ∧ w'.cell? ⟨w.heap.size, 1, none⟩ = some (.int .i64 H) ∧ w'.cell? ⟨w.heap.size, 2, none⟩ = some (.slice (some ⟨g, 0, none⟩) B.length cA) ∧ w'.cell? ⟨w2.heap.size, 0, none⟩ = some (.int .i64 (x + dx)) ∧ w'.cell? ⟨w2.heap.size, 1, none⟩ = some (.int .i64 (y + dy)) ∧ w'.cell? ⟨g, m.toNat, none⟩ = some (.int .i64 1))
        ((refine KS.out _ ?_; first | exact cut_drew | exact hBn))
        ((go_at_call 93; go_split_ands; (with_reducible refine (number_any HW.out HX.out HY.out HP.out HM.out).mono ?_); rintro e w4 ⟨rfl, hb4⟩; have hBn := bnext (w := w3) (by assumption) hb4))
      go_split_ands
      clear q0 q1 q2 qn s0 s1 sn KS cc
      replace bp := bp.below hBn
      replace bw := bw.below hBn
      replace br := br.below hBn
      replace bn := bn.below hBn
      replace bo := bo.below hBn
      replace bl := bnext bl hBn
      have sz4 := hBn.size
      clear hBn hb4
      obtain ⟨w3, hw3⟩ : ∃ x, x = w4 := ⟨w4, rfl⟩
      subst hw3
      have q0 := bp.cell 0
      have q1 := bp.cell 1
      have qn := bp.lt
      simp only [List.getElem?_toArray, List.getElem?_cons_zero, List.getElem?_cons_succ] at q0 q1
      have s0 := bn.cell 0
      have s1 := bn.cell 1
      have sn := bn.lt
      simp only [List.getElem?_toArray, List.getElem?_cons_zero, List.getElem?_cons_succ] at s0 s1
      have p0 := bw.cell 0
      have p1 := bw.cell 1
      have p2 := bw.cell 2
      have p3 := bw.cell 3
      have pn := bw.lt
      simp only [List.getElem?_toArray, List.getElem?_cons_zero, List.getElem?_cons_succ] at p0 p1 p2 p3
      have o0 := bo.cell 0
      have o1 := bo.cell 1
      have o2 := bo.cell 2
      have o3 := bo.cell 3
      have of0 := bo.free 0
      have of1 := bo.free 1
      have of2 := bo.free 2
      have of3 := bo.free 3
      have on := bo.lt
      simp only [List.getElem?_toArray, List.getElem?_cons_zero, List.getElem?_cons_succ] at o0 o1 o2 o3
      have r0 := br.cell 0
      have r1 := br.cell 1
      have r2 := br.cell 2
      have r3 := br.cell 3
      have rf0 := br.free 0
      have rf1 := br.free 1
      have rf2 := br.free 2
      have rf3 := br.free 3
      have rn := br.lt
      simp only [List.getElem?_toArray, List.getElem?_cons_zero, List.getElem?_cons_succ] at r0 r1 r2 r3
      have k1 : (w.heap.size + 1 + 1 = w2.heap.size + 1) = False := by simp; omega
      have k2 : (w2.heap.size + 1 = w.heap.size + 1 + 1) = False := by simp; omega
      have k3 : (w2.heap.size + 1 = w.heap.size + 1) = False := by simp; omega
      have k4 : (w2.heap.size = w2.heap.size + 1) = False := by simp
      have k5 : (w2.heap.size + 1 = w.heap.size) = False := by simp; omega
      have k6 : (w2.heap.size + 1 = w2.heap.size) = False := by simp
      go_wp2
      clear q0 q1 qn s0 s1 sn p0 p1 p2 p3 pn o0 o1 o2 o3 of0 of1 of2 of3 on r0 r1 r2 r3 rf0 rf1 rf2 rf3 rn k1 k2 k3 k4 k5 k6
      replace bo : Box (w3.setCell ⟨w2.heap.size + 1, 2, none⟩ (.int .i64 (-dx))) (w2.heap.size + 1) 134 #[.int .i64 (x + dx), .int .i64 (y + dy), .int .i64 (-dx), .int .i64 dy] := by simpa using bo.set_ 2 (.int .i64 (-dx))
      replace bw := bw.setc (p := ⟨w2.heap.size + 1, 2, none⟩) (by show _ ≠ w2.heap.size + 1; omega) (.int .i64 (-dx))
      replace br := br.setc (p := ⟨w2.heap.size + 1, 2, none⟩) (by show _ ≠ w2.heap.size + 1; omega) (.int .i64 (-dx))
      replace bl := bl.setCell (p := ⟨w2.heap.size + 1, 2, none⟩) (by show w.heap.size ≤ w2.heap.size + 1; omega) (.int .i64 (-dx))
      generalize (w3.setCell ⟨w2.heap.size + 1, 2, none⟩ (.int .i64 (-dx))) = V at *
      have p0 := bw.cell 0
      have p1 := bw.cell 1
      have p2 := bw.cell 2
      have p3 := bw.cell 3
      have pn := bw.lt
      simp only [List.getElem?_toArray, List.getElem?_cons_zero, List.getElem?_cons_succ] at p0 p1 p2 p3
      have o0 := bo.cell 0
      have o1 := bo.cell 1
      have o2 := bo.cell 2
      have o3 := bo.cell 3
      have on := bo.lt
      simp only [List.getElem?_toArray, List.getElem?_cons_zero, List.getElem?_cons_succ] at o0 o1 o2 o3
      have r0 := br.cell 0
      have r1 := br.cell 1
      have r2 := br.cell 2
      have r3 := br.cell 3
      have rf0 := br.free 0
      have rf1 := br.free 1
      have rf2 := br.free 2
      have rf3 := br.free 3
      have rn := br.lt
      simp only [List.getElem?_toArray, List.getElem?_cons_zero, List.getElem?_cons_succ] at r0 r1 r2 r3
      have k1 : (w.heap.size + 1 + 1 = w2.heap.size + 1) = False := by simp; omega
      have k2 : (w2.heap.size + 1 = w.heap.size + 1 + 1) = False := by simp; omega
      have k7 : (w.heap.size + 1 = w.heap.size + 1 + 1) = False := by simp
      have k8 : (w.heap.size + 1 + 1 = w.heap.size + 1) = False := by simp
      have u1 : (-dx != dx) = true := by simp; have := HN.out; omega
      clear bp bw br bn bo hI2
      go_region
      go_wp2
      refine bodyPost_ret (v := .tuple #[.agg #[.int .i64 (x + dx), .int .i64 (y + dy), .int .i64 (-dx), .int .i64 dy], .bool true]) (by simp [results, Try.results144, go_sem, r0, r1, r2, r3, rf0, rf1, rf2, rf3, rn]) rfl ⟨_, rfl, ?_⟩
      exact ((((bl.setCell (p := ⟨w.heap.size + 1 + 1, 0, none⟩) (by simp; omega) _).setCell (p := ⟨w.heap.size + 1 + 1, 1, none⟩) (by simp; omega) _).setCell (p := ⟨w.heap.size + 1 + 1, 2, none⟩) (by simp; omega) _).setCell (p := ⟨w.heap.size + 1 + 1, 3, none⟩) (by simp; omega) _).trans (below_drewN _ _ 1)
    · rw [hst] at hr
      injection hr with f1 f2 f3 f4
      subst f1 f2 f3 f4
      have HE := Lib.hid he
      have t1 := eqb_f n1
      have t2 := eqb_f n2
      have t3 := eqb_f n3
      have t4 := eqb_f n4
      obtain ⟨m, hm⟩ : ∃ m, rowOf W (y + dy) + (x + dx - 1) / 2 = m := ⟨_, rfl⟩
      rw [hm] at m0 m1 hgk
      have HM := Lib.hid hm
      obtain ⟨g, rfl, _, _⟩ := hA (by omega)
      clear he hst n1 n2 n3 n4 hm hA
      have p0 := bw.cell 0
      have p1 := bw.cell 1
      have p2 := bw.cell 2
      have p3 := bw.cell 3
      have pn := bw.lt
      simp only [List.getElem?_toArray, List.getElem?_cons_zero, List.getElem?_cons_succ] at p0 p1 p2 p3
      go_enter Try.func144, Try.ntmps144
      go_wp2_with fail
      refine (next_any HN.out).mono ?_
      rintro e w2 ⟨rfl, hb2⟩
      have sz2 := hb2.size
      simp only [World.size_alloc] at sz2
      replace bp := bp.below hb2
      replace bw := bw.below hb2
      replace br := br.below hb2
      replace hI2 := Row.below hI2 hb2
      replace bl := bnext bl hb2
      clear p0 p1 p2 p3 pn hb2
      have p0 := bw.cell 0
      have p1 := bw.cell 1
      have p2 := bw.cell 2
      have p3 := bw.cell 3
      have pn := bw.lt
      simp only [List.getElem?_toArray, List.getElem?_cons_zero, List.getElem?_cons_succ] at p0 p1 p2 p3
      have q0 := bp.cell 0
      have q1 := bp.cell 1
      have q2 := bp.cell 2
      have qn := bp.lt
      simp only [List.getElem?_toArray, List.getElem?_cons_zero, List.getElem?_cons_succ] at q0 q1 q2
      go_wp2_with fail
      replace bp := (bp.alloc (.cells #[.int .i64 (x + dx), .int .i64 (y + dy)] 36)).alloc (.cells #[.int .i64 (x + dx), .int .i64 (y + dy), .int .i64 dx, .int .i64 dy] 134)
      replace bw := (bw.alloc (.cells #[.int .i64 (x + dx), .int .i64 (y + dy)] 36)).alloc (.cells #[.int .i64 (x + dx), .int .i64 (y + dy), .int .i64 dx, .int .i64 dy] 134)
      replace br := (br.alloc (.cells #[.int .i64 (x + dx), .int .i64 (y + dy)] 36)).alloc (.cells #[.int .i64 (x + dx), .int .i64 (y + dy), .int .i64 dx, .int .i64 dy] 134)
      have bn := (Box.new w2 36 #[.int .i64 (x + dx), .int .i64 (y + dy)]).alloc (.cells #[.int .i64 (x + dx), .int .i64 (y + dy), .int .i64 dx, .int .i64 dy] 134)
      have bo := Box.new (w2.alloc (.cells #[.int .i64 (x + dx), .int .i64 (y + dy)] 36)) 134 #[.int .i64 (x + dx), .int .i64 (y + dy), .int .i64 dx, .int .i64 dy]
      rw [World.size_alloc] at bo
      replace hI2 := Row.below hI2 (Joins.below_alloc2 _ (.cells #[.int .i64 (x + dx), .int .i64 (y + dy)] 36) (.cells #[.int .i64 (x + dx), .int .i64 (y + dy), .int .i64 dx, .int .i64 dy] 134))
      replace bl := bnext bl (Joins.below_alloc2 _ (.cells #[.int .i64 (x + dx), .int .i64 (y + dy)] 36) (.cells #[.int .i64 (x + dx), .int .i64 (y + dy), .int .i64 dx, .int .i64 dy] 134))
      clear p0 p1 p2 p3 pn q0 q1 q2 qn
      refine (isBorder_any (B := B) HW.out HH.out (no_iff HE.out)).mono ?_
      rintro e w3 ⟨rfl, hb3⟩
      have sz3 := hb3.size
      simp only [World.size_alloc] at sz3
      replace bp := bp.below hb3
      replace bw := bw.below hb3
      replace br := br.below hb3
      replace bn := bn.below hb3
      replace bo := bo.below hb3
      replace hI2 := Row.below hI2 hb3
      replace bl := bnext bl hb3
      clear hb3
      have cc := Ints.cellI hI2 (i := m) m0 m1
      rw [hgk] at cc
      have q0 := bp.cell 0
      have q1 := bp.cell 1
      have q2 := bp.cell 2
      have qn := bp.lt
      simp only [List.getElem?_toArray, List.getElem?_cons_zero, List.getElem?_cons_succ] at q0 q1 q2
      have s0 := bn.cell 0
      have s1 := bn.cell 1
      have sn := bn.lt
      simp only [List.getElem?_toArray, List.getElem?_cons_zero, List.getElem?_cons_succ] at s0 s1
      have KS : Hid (∀ w', Below w3.heap.size w3 w' → (Below w3.heap.size w3 w' ∧ w'.cell? ⟨w.heap.size, 0, none⟩ = some (.int .i64 W) ∧ w'.cell? ⟨w.heap.size, 1, none⟩ = some (.int .i64 H) ∧ w'.cell? ⟨w.heap.size, 2, none⟩ = some (.slice (some ⟨g, 0, none⟩) B.length cA) ∧ w'.cell? ⟨w2.heap.size, 0, none⟩ = some (.int .i64 (x + dx)) ∧ w'.cell? ⟨w2.heap.size, 1, none⟩ = some (.int .i64 (y + dy)) ∧ w'.cell? ⟨g, m.toNat, none⟩ = some (.int .i64 2))) := Lib.hid (fun x hx => ⟨hx, (bp.below hx).cell 0, (bp.below hx).cell 1, (bp.below hx).cell 2, (bn.below hx).cell 0, (bn.below hx).cell 1, keep_cell hx cc⟩)
      clear hgk
      go_wp2
      go_region_held3 (fun w' => Below w3.heap.size w3 w' ∧ w'.cell? ⟨w.heap.size, 0, none⟩ = some (.int .i64 W) ∧ w'.cell? ⟨w.heap.size, 1, none⟩ = some (.int .i64 H) ∧ w'.cell? ⟨w.heap.size, 2, none⟩ = some (.slice (some ⟨g, 0, none⟩) B.length cA) ∧ w'.cell? ⟨w2.heap.size, 0, none⟩ = some (.int .i64 (x + dx)) ∧ w'.cell? ⟨w2.heap.size, 1, none⟩ = some (.int .i64 (y + dy)) ∧ w'.cell? ⟨g, m.toNat, none⟩ = some (.int .i64 2))
        ((refine KS.out _ ?_; first | exact cut_drew | exact hBn))
        ((go_at_call 93; go_split_ands; (with_reducible refine (number_any HW.out HX.out HY.out HP.out HM.out).mono ?_); rintro e w4 ⟨rfl, hb4⟩; have hBn := bnext (w := w3) (by assumption) hb4))
      go_split_ands
      clear q0 q1 q2 qn s0 s1 sn KS cc
      replace bp := bp.below hBn
      replace bw := bw.below hBn
      replace br := br.below hBn
      replace bn := bn.below hBn
      replace bo := bo.below hBn
      replace bl := bnext bl hBn
      have sz4 := hBn.size
      clear hBn hb4
      obtain ⟨w3, hw3⟩ : ∃ x, x = w4 := ⟨w4, rfl⟩
      subst hw3
      have q0 := bp.cell 0
      have q1 := bp.cell 1
      have qn := bp.lt
      simp only [List.getElem?_toArray, List.getElem?_cons_zero, List.getElem?_cons_succ] at q0 q1
      have s0 := bn.cell 0
      have s1 := bn.cell 1
      have sn := bn.lt
      simp only [List.getElem?_toArray, List.getElem?_cons_zero, List.getElem?_cons_succ] at s0 s1
      have p0 := bw.cell 0
      have p1 := bw.cell 1
      have p2 := bw.cell 2
      have p3 := bw.cell 3
      have pn := bw.lt
      simp only [List.getElem?_toArray, List.getElem?_cons_zero, List.getElem?_cons_succ] at p0 p1 p2 p3
      have o0 := bo.cell 0
      have o1 := bo.cell 1
      have o2 := bo.cell 2
      have o3 := bo.cell 3
      have of0 := bo.free 0
      have of1 := bo.free 1
      have of2 := bo.free 2
      have of3 := bo.free 3
      have on := bo.lt
      simp only [List.getElem?_toArray, List.getElem?_cons_zero, List.getElem?_cons_succ] at o0 o1 o2 o3
      have r0 := br.cell 0
      have r1 := br.cell 1
      have r2 := br.cell 2
      have r3 := br.cell 3
      have rf0 := br.free 0
      have rf1 := br.free 1
      have rf2 := br.free 2
      have rf3 := br.free 3
      have rn := br.lt
      simp only [List.getElem?_toArray, List.getElem?_cons_zero, List.getElem?_cons_succ] at r0 r1 r2 r3
      have k1 : (w.heap.size + 1 + 1 = w2.heap.size + 1) = False := by simp; omega
      have k2 : (w2.heap.size + 1 = w.heap.size + 1 + 1) = False := by simp; omega
      have k3 : (w2.heap.size + 1 = w.heap.size + 1) = False := by simp; omega
      have k4 : (w2.heap.size = w2.heap.size + 1) = False := by simp
      have k5 : (w2.heap.size + 1 = w.heap.size) = False := by simp; omega
      have k6 : (w2.heap.size + 1 = w2.heap.size) = False := by simp
      go_wp2
      clear q0 q1 qn s0 s1 sn p0 p1 p2 p3 pn o0 o1 o2 o3 of0 of1 of2 of3 on r0 r1 r2 r3 rf0 rf1 rf2 rf3 rn k1 k2 k3 k4 k5 k6
      replace bo : Box (w3.setCell ⟨w2.heap.size + 1, 3, none⟩ (.int .i64 (-dy))) (w2.heap.size + 1) 134 #[.int .i64 (x + dx), .int .i64 (y + dy), .int .i64 dx, .int .i64 (-dy)] := by simpa using bo.set_ 3 (.int .i64 (-dy))
      replace bw := bw.setc (p := ⟨w2.heap.size + 1, 3, none⟩) (by show _ ≠ w2.heap.size + 1; omega) (.int .i64 (-dy))
      replace br := br.setc (p := ⟨w2.heap.size + 1, 3, none⟩) (by show _ ≠ w2.heap.size + 1; omega) (.int .i64 (-dy))
      replace bl := bl.setCell (p := ⟨w2.heap.size + 1, 3, none⟩) (by show w.heap.size ≤ w2.heap.size + 1; omega) (.int .i64 (-dy))
      generalize (w3.setCell ⟨w2.heap.size + 1, 3, none⟩ (.int .i64 (-dy))) = V at *
      have p0 := bw.cell 0
      have p1 := bw.cell 1
      have p2 := bw.cell 2
      have p3 := bw.cell 3
      have pn := bw.lt
      simp only [List.getElem?_toArray, List.getElem?_cons_zero, List.getElem?_cons_succ] at p0 p1 p2 p3
      have o0 := bo.cell 0
      have o1 := bo.cell 1
      have o2 := bo.cell 2
      have o3 := bo.cell 3
      have on := bo.lt
      simp only [List.getElem?_toArray, List.getElem?_cons_zero, List.getElem?_cons_succ] at o0 o1 o2 o3
      have r0 := br.cell 0
      have r1 := br.cell 1
      have r2 := br.cell 2
      have r3 := br.cell 3
      have rf0 := br.free 0
      have rf1 := br.free 1
      have rf2 := br.free 2
      have rf3 := br.free 3
      have rn := br.lt
      simp only [List.getElem?_toArray, List.getElem?_cons_zero, List.getElem?_cons_succ] at r0 r1 r2 r3
      have k1 : (w.heap.size + 1 + 1 = w2.heap.size + 1) = False := by simp; omega
      have k2 : (w2.heap.size + 1 = w.heap.size + 1 + 1) = False := by simp; omega
      have k7 : (w.heap.size + 1 = w.heap.size + 1 + 1) = False := by simp
      have k8 : (w.heap.size + 1 + 1 = w.heap.size + 1) = False := by simp
      have u1 : (-dy != dy) = true := by simp; have := HN.out; omega
      clear bp bw br bn bo hI2
      go_region
      go_wp2
      refine bodyPost_ret (v := .tuple #[.agg #[.int .i64 (x + dx), .int .i64 (y + dy), .int .i64 dx, .int .i64 (-dy)], .bool true]) (by simp [results, Try.results144, go_sem, r0, r1, r2, r3, rf0, rf1, rf2, rf3, rn]) rfl ⟨_, rfl, ?_⟩
      exact ((((bl.setCell (p := ⟨w.heap.size + 1 + 1, 0, none⟩) (by simp; omega) _).setCell (p := ⟨w.heap.size + 1 + 1, 1, none⟩) (by simp; omega) _).setCell (p := ⟨w.heap.size + 1 + 1, 2, none⟩) (by simp; omega) _).setCell (p := ⟨w.heap.size + 1 + 1, 3, none⟩) (by simp; omega) _).trans (below_drewN _ _ 1)
end Go.Proofs.Ytihfdgnocdphcaa
