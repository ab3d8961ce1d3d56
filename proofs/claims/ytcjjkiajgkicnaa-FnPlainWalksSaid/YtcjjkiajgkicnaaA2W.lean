/-
  A valid panel with a valid walker, out of some bytes.
-/
import Derived.Test.YtcjjkiajgkicnaaWalkL
namespace Go.Proofs.Ytcjjkiajgkicnaa
open Go.RowKit Knot

theorem Chg.low {lo hi : Nat} {w w' : World} (h : Chg lo hi w w') (hl : lo ≤ w.heap.size) : Below lo w w' := ⟨h.os, h.tape, h.output, h.size, fun k hk => h.block k (by omega) (.inl hk)⟩
set_option maxHeartbeats 2000000 in
theorem src_one {w : World} {b m : Nat} {n : Int} (h : Src w b m) (hm : m ≤ 1000000000) (n0 : n ≤ 200) :
    Calls Try.prog 76 #[.pointer (some ⟨b, 0, none⟩), .int .i64 n] w fun e w' => ∃ c : Bool, e = .returned (.bool c) ∧ Src w' b (m + 1) ∧ Chg b (b + 1) w w' := by
  go_enter Try.func76, Try.ntmps76
  go_wp2_with fail
  refine (src_pick h hm n0).mono ?_
  rintro e w1 ⟨x, rfl, _, _, _, hS, hc⟩
  clear h
  go_wp2
  go_ret
  exact ⟨_, rfl, hS, hc⟩
set_option maxHeartbeats 8000000 in
theorem A2Walker_any {w : World} {a : Option Addr} {len cap : Nat} {zs : List Int} (h : IsRow .u8 w a len cap zs) :
    Calls Try.prog 47 #[.slice a len cap] w fun e w' => ∃ (W H x y dx dy : Int) (g : Option Addr) (n : Nat) (B : List Int), e = .returned (.tuple #[.agg #[.int .i64 W, .int .i64 H, .slice g n n], .agg #[.int .i64 x, .int .i64 y, .int .i64 dx, .int .i64 dy]]) ∧ Ok ⟨W, H, B⟩ ∧ OkW ⟨W, H, B⟩ ⟨x, y, dx, dy⟩ ∧ Below w.heap.size w w' := by
  have bl := Joins.below_alloc2 w (.cells #[.int .i64 0, .int .i64 0, .slice none 0 0] 45) (.cells #[.int .i64 0, .int .i64 0, .int .i64 0, .int .i64 0] 38)
  have r1 := (Box.new w 45 #[.int .i64 0, .int .i64 0, .slice none 0 0]).alloc (.cells #[.int .i64 0, .int .i64 0, .int .i64 0, .int .i64 0] 38)
  have r2 := Box.new (w.alloc (.cells #[.int .i64 0, .int .i64 0, .slice none 0 0] 45)) 38 #[.int .i64 0, .int .i64 0, .int .i64 0, .int .i64 0]
  rw [World.size_alloc] at r2
  have h1 := h.below bl
  clear h
  go_enter Try.func47, Try.ntmps47
  go_wp2_with fail
  refine (src_from h1).mono ?_
  rintro e w1 ⟨rfl, hS, s1, hb1⟩
  simp only [World.size_alloc] at hS s1
  obtain ⟨b, hb⟩ : ∃ b, w.heap.size + 1 + 1 = b := ⟨_, rfl⟩
  rw [hb] at hS s1
  simp only [World.size_alloc, hb]
  replace r1 := r1.below hb1
  replace r2 := r2.below hb1
  replace bl := bnext bl hb1
  clear h1 hb1
  go_wp2_with fail
  refine (l02Draw_any hS (by omega) (by omega) (by omega)).mono ?_
  rintro e w2 ⟨W, H, g, B, rfl, hok, ⟨hW5, hH5⟩, hI, hS2, hc2⟩
  have s2 := hc2.size
  replace r1 := r1.chgb hc2 (by omega)
  replace r2 := r2.chgb hc2 (by omega)
  replace bl := bl.trans (hc2.low (by omega) |>.mono (by omega))
  have g0 := (Row.lt hI.1 (g := g) rfl).1
  clear hS hc2
  have W1 := hok.w1
  have H1 := hok.h1
  simp only [] at W1 H1
  have HP := Lib.hid hok
  have HW : Hid (1 ≤ W ∧ W ≤ 8) := Lib.hid ⟨hok.w1, hok.w8⟩
  have HH : Hid (1 ≤ H ∧ H ≤ 8) := Lib.hid ⟨hok.h1, hok.h8⟩
  have hm4 := mul4 HW.out HH.out
  have hm5 : 4 * W * H ≤ 200 := by
    have : 4 * W * H ≤ 4 * 5 * 5 := Int.mul_le_mul (by omega) hH5 (by omega) (by omega)
    omega
  obtain ⟨hm4a, hm4b⟩ := hm4
  have bp := Box.new w2 45 #[.int .i64 W, .int .i64 H, .slice (some ⟨g, 0, none⟩) B.length B.length]
  have hbz := Joins.below_alloc1 w2 (.cells #[.int .i64 W, .int .i64 H, .slice (some ⟨g, 0, none⟩) B.length B.length] 45)
  replace r1 := r1.below hbz
  replace r2 := r2.below hbz
  replace hS2 := hS2.below hbz
  replace hI := hI.alloc (.cells #[.int .i64 W, .int .i64 H, .slice (some ⟨g, 0, none⟩) B.length B.length] 45)
  replace bl := bnext bl hbz
  clear hok hbz
  have p0 := bp.cell 0
  have p1 := bp.cell 1
  have p2 := bp.cell 2
  have pn := bp.lt
  simp only [List.getElem?_toArray, List.getElem?_cons_zero, List.getElem?_cons_succ] at p0 p1 p2
  go_wp2_with fail
  generalize hV : (w2.alloc (.cells #[.int .i64 W, .int .i64 H, .slice (some ⟨g, 0, none⟩) B.length B.length] 45)) = V at *
  have hVs : V.heap.size = w2.heap.size + 1 := by rw [← hV]; simp
  clear hV
  refine (src_pick hS2 (by omega) hm5).mono ?_
  rintro e w3 ⟨k, rfl, k0, k1, _, hS3, hc3⟩
  have k2 := k1 (by omega)
  have s3 := hc3.size
  replace r1 := r1.chgb hc3 (by omega)
  replace r2 := r2.chgb hc3 (by omega)
  replace bp := bp.chgb hc3 (by omega)
  replace bl := bl.trans (hc3.low (by omega) |>.mono (by omega))
  obtain ⟨hok, hsg⟩ := start_ok HP.out k0 k2
  obtain ⟨x, y, dx, dy, hst⟩ : ∃ x y dx dy, startI ⟨W, H, B⟩ k = ⟨x, y, dx, dy⟩ := ⟨_, _, _, _, rfl⟩
  rw [hst] at hok
  have HST := Lib.hid hst
  have HOK := Lib.hid hok
  clear hS2 hc3 p0 p1 p2 pn hok hsg hst k1 hI
  go_wp2_with fail
  refine (l03Walker_any bp HW.out HH.out k0 k2 HST.out).mono ?_
  rintro e w4 ⟨rfl, hb4⟩
  have s4 := hb4.size
  replace r1 := (r1.below hb4).alloc (.cells #[.int .i64 x, .int .i64 y, .int .i64 dx, .int .i64 dy] 38)
  replace r2 := (r2.below hb4).alloc (.cells #[.int .i64 x, .int .i64 y, .int .i64 dx, .int .i64 dy] 38)
  replace bp := (bp.below hb4).alloc (.cells #[.int .i64 x, .int .i64 y, .int .i64 dx, .int .i64 dy] 38)
  have bw := Box.new w4 38 #[.int .i64 x, .int .i64 y, .int .i64 dx, .int .i64 dy]
  have hS4 := (hS3.below hb4).below (Joins.below_alloc1 w4 (.cells #[.int .i64 x, .int .i64 y, .int .i64 dx, .int .i64 dy] 38))
  replace bl := bnext (bnext bl hb4) (Joins.below_alloc1 w4 (.cells #[.int .i64 x, .int .i64 y, .int .i64 dx, .int .i64 dy] 38))
  clear hS3 hb4
  go_wp2_with fail
  generalize hV : (w4.alloc (.cells #[.int .i64 x, .int .i64 y, .int .i64 dx, .int .i64 dy] 38)) = V4 at *
  have hVs4 : V4.heap.size = w4.heap.size + 1 := by rw [← hV]; simp
  clear hV
  refine (src_one hS4 (by omega) (by omega)).mono ?_
  rintro e w5 ⟨c, rfl, hS5, hc5⟩
  have s5 := hc5.size
  replace r1 := r1.chgb hc5 (by omega)
  replace r2 := r2.chgb hc5 (by omega)
  replace bp := bp.chgb hc5 (by omega)
  replace bw := bw.chgb hc5 (by omega)
  replace bl := bl.trans (hc5.low (by omega) |>.mono (by omega))
  clear hS4 hc5 hS5
  have fin : ∀ (w : World), True := fun _ => trivial
  cases c with
  | false =>
    have p0 := bp.cell 0
    have p1 := bp.cell 1
    have p2 := bp.cell 2
    have pn := bp.lt
    simp only [List.getElem?_toArray, List.getElem?_cons_zero, List.getElem?_cons_succ] at p0 p1 p2
    have q0 := bw.cell 0
    have q1 := bw.cell 1
    have q2 := bw.cell 2
    have q3 := bw.cell 3
    have qn := bw.lt
    simp only [List.getElem?_toArray, List.getElem?_cons_zero, List.getElem?_cons_succ] at q0 q1 q2 q3
    have u0 := r1.cell 0
    have u1 := r1.cell 1
    have u2 := r1.cell 2
    have uf0 := r1.free 0
    have uf1 := r1.free 1
    have uf2 := r1.free 2
    have un := r1.lt
    simp only [List.getElem?_toArray, List.getElem?_cons_zero, List.getElem?_cons_succ] at u0 u1 u2
    have t0 := r2.cell 0
    have t1 := r2.cell 1
    have t2 := r2.cell 2
    have t3 := r2.cell 3
    have tf0 := r2.free 0
    have tf1 := r2.free 1
    have tf2 := r2.free 2
    have tf3 := r2.free 3
    have tn := r2.lt
    simp only [List.getElem?_toArray, List.getElem?_cons_zero, List.getElem?_cons_succ] at t0 t1 t2 t3
    go_wp2
    go_region
    go_wp2
    refine bodyPost_ret (v := .tuple #[.agg #[.int .i64 W, .int .i64 H, .slice (some ⟨g, 0, none⟩) B.length B.length], .agg #[.int .i64 x, .int .i64 y, .int .i64 dx, .int .i64 dy]]) (by simp [results, Try.results47, go_sem, u0, u1, u2, uf0, uf1, uf2, un, t0, t1, t2, t3, tf0, tf1, tf2, tf3, tn]) rfl ⟨W, H, x, y, dx, dy, _, _, B, rfl, HP.out, HOK.out, ?_⟩
    exact (((((((bl.setCell (p := ⟨w.heap.size, 0, none⟩) (Nat.le_refl _) _).setCell (p := ⟨w.heap.size, 1, none⟩) (Nat.le_refl _) _).setCell (p := ⟨w.heap.size, 2, none⟩) (Nat.le_refl _) _).setCell (p := ⟨w.heap.size + 1, 0, none⟩) (by show w.heap.size ≤ w.heap.size + 1; omega) _).setCell (p := ⟨w.heap.size + 1, 1, none⟩) (by show w.heap.size ≤ w.heap.size + 1; omega) _).setCell (p := ⟨w.heap.size + 1, 2, none⟩) (by show w.heap.size ≤ w.heap.size + 1; omega) _).setCell (p := ⟨w.heap.size + 1, 3, none⟩) (by show w.heap.size ≤ w.heap.size + 1; omega) _).trans (below_drewN _ _ 1)
  | true =>
    obtain ⟨hx, hy, hdx, hdy, _⟩ := okW_bd HOK.out HW.out HH.out
    have HN : Hid ((0 ≤ x ∧ x ≤ 2000000) ∧ (0 ≤ y ∧ y ≤ 2000000) ∧ (dx = 1 ∨ dx = -1) ∧ (dy = 1 ∨ dy = -1)) := Lib.hid ⟨⟨hx.1, by omega⟩, ⟨hy.1, by omega⟩, hdx, hdy⟩
    have HOKB : Hid (OkW ⟨W, H, B⟩ ⟨x + dx, y + dy, -dx, -dy⟩) := Lib.hid HOK.out.back
    clear hx hy hdx hdy
    have q0 := bw.cell 0
    have q1 := bw.cell 1
    have q2 := bw.cell 2
    have q3 := bw.cell 3
    have qn := bw.lt
    simp only [List.getElem?_toArray, List.getElem?_cons_zero, List.getElem?_cons_succ] at q0 q1 q2 q3
    go_wp2_with fail
    refine (l03Back_any HN.out).mono ?_
    rintro e w6 ⟨rfl, hb6⟩
    have s6 := hb6.size
    replace r1 := r1.below hb6
    replace r2 := r2.below hb6
    replace bp := bp.below hb6
    replace bw := bw.below hb6
    replace bl := bnext bl hb6
    clear hb6 q0 q1 q2 q3 qn
    have q0 := bw.cell 0
    have q1 := bw.cell 1
    have q2 := bw.cell 2
    have q3 := bw.cell 3
    have qf0 := bw.free 0
    have qf1 := bw.free 1
    have qf2 := bw.free 2
    have qf3 := bw.free 3
    have qn := bw.lt
    simp only [List.getElem?_toArray, List.getElem?_cons_zero, List.getElem?_cons_succ] at q0 q1 q2 q3
    go_wp2
    obtain ⟨X, hX⟩ : ∃ X, x + dx = X := ⟨_, rfl⟩
    obtain ⟨Y, hY⟩ : ∃ Y, y + dy = Y := ⟨_, rfl⟩
    obtain ⟨DX, hDX⟩ : ∃ X, -dx = X := ⟨_, rfl⟩
    obtain ⟨DY, hDY⟩ : ∃ Y, -dy = Y := ⟨_, rfl⟩
    rw [hX, hY, hDX, hDY] at HOKB
    try rw [hX, hY, hDX, hDY]
    have bq := ((((bw.set_ 0 (.int .i64 X)).set_ 1 (.int .i64 Y)).set_ 2 (.int .i64 DX)).set_ 3 (.int .i64 DY))
    replace bq : Box ((((w6.setCell ⟨w4.heap.size, 0, none⟩ (.int .i64 X)).setCell ⟨w4.heap.size, 1, none⟩ (.int .i64 Y)).setCell ⟨w4.heap.size, 2, none⟩ (.int .i64 DX)).setCell ⟨w4.heap.size, 3, none⟩ (.int .i64 DY)) w4.heap.size 38 #[.int .i64 X, .int .i64 Y, .int .i64 DX, .int .i64 DY] := by simpa using bq
    have r17 := ((((r1.far (p := ⟨w4.heap.size, 0, none⟩) (by show w.heap.size ≠ w4.heap.size; omega) (.int .i64 X)).far (p := ⟨w4.heap.size, 1, none⟩) (by show w.heap.size ≠ w4.heap.size; omega) (.int .i64 Y)).far (p := ⟨w4.heap.size, 2, none⟩) (by show w.heap.size ≠ w4.heap.size; omega) (.int .i64 DX)).far (p := ⟨w4.heap.size, 3, none⟩) (by show w.heap.size ≠ w4.heap.size; omega) (.int .i64 DY))
    have r27 := ((((r2.far (p := ⟨w4.heap.size, 0, none⟩) (by show w.heap.size + 1 ≠ w4.heap.size; omega) (.int .i64 X)).far (p := ⟨w4.heap.size, 1, none⟩) (by show w.heap.size + 1 ≠ w4.heap.size; omega) (.int .i64 Y)).far (p := ⟨w4.heap.size, 2, none⟩) (by show w.heap.size + 1 ≠ w4.heap.size; omega) (.int .i64 DX)).far (p := ⟨w4.heap.size, 3, none⟩) (by show w.heap.size + 1 ≠ w4.heap.size; omega) (.int .i64 DY))
    have bp7 := ((((bp.far (p := ⟨w4.heap.size, 0, none⟩) (by show w2.heap.size ≠ w4.heap.size; omega) (.int .i64 X)).far (p := ⟨w4.heap.size, 1, none⟩) (by show w2.heap.size ≠ w4.heap.size; omega) (.int .i64 Y)).far (p := ⟨w4.heap.size, 2, none⟩) (by show w2.heap.size ≠ w4.heap.size; omega) (.int .i64 DX)).far (p := ⟨w4.heap.size, 3, none⟩) (by show w2.heap.size ≠ w4.heap.size; omega) (.int .i64 DY))
    have bl7 := ((((bl.setCell (p := ⟨w4.heap.size, 0, none⟩) (by show w.heap.size ≤ w4.heap.size; omega) (.int .i64 X)).setCell (p := ⟨w4.heap.size, 1, none⟩) (by show w.heap.size ≤ w4.heap.size; omega) (.int .i64 Y)).setCell (p := ⟨w4.heap.size, 2, none⟩) (by show w.heap.size ≤ w4.heap.size; omega) (.int .i64 DX)).setCell (p := ⟨w4.heap.size, 3, none⟩) (by show w.heap.size ≤ w4.heap.size; omega) (.int .i64 DY))
    clear bp bw r1 r2 bl q0 q1 q2 q3 qf0 qf1 qf2 qf3 qn hX hY hDX hDY
    generalize ((((w6.setCell ⟨w4.heap.size, 0, none⟩ (.int .i64 X)).setCell ⟨w4.heap.size, 1, none⟩ (.int .i64 Y)).setCell ⟨w4.heap.size, 2, none⟩ (.int .i64 DX)).setCell ⟨w4.heap.size, 3, none⟩ (.int .i64 DY)) = V7 at *
    have bp := bp7
    have bw := bq
    have r1 := r17
    have r2 := r27
    have bl := bl7
    clear bp7 bq r17 r27 bl7
    have p0 := bp.cell 0
    have p1 := bp.cell 1
    have p2 := bp.cell 2
    have pn := bp.lt
    simp only [List.getElem?_toArray, List.getElem?_cons_zero, List.getElem?_cons_succ] at p0 p1 p2
    have q0 := bw.cell 0
    have q1 := bw.cell 1
    have q2 := bw.cell 2
    have q3 := bw.cell 3
    have qn := bw.lt
    simp only [List.getElem?_toArray, List.getElem?_cons_zero, List.getElem?_cons_succ] at q0 q1 q2 q3
    have u0 := r1.cell 0
    have u1 := r1.cell 1
    have u2 := r1.cell 2
    have uf0 := r1.free 0
    have uf1 := r1.free 1
    have uf2 := r1.free 2
    have un := r1.lt
    simp only [List.getElem?_toArray, List.getElem?_cons_zero, List.getElem?_cons_succ] at u0 u1 u2
    have t0 := r2.cell 0
    have t1 := r2.cell 1
    have t2 := r2.cell 2
    have t3 := r2.cell 3
    have tf0 := r2.free 0
    have tf1 := r2.free 1
    have tf2 := r2.free 2
    have tf3 := r2.free 3
    have tn := r2.lt
    simp only [List.getElem?_toArray, List.getElem?_cons_zero, List.getElem?_cons_succ] at t0 t1 t2 t3
    go_wp2
    go_region
    go_wp2
    refine bodyPost_ret (v := .tuple #[.agg #[.int .i64 W, .int .i64 H, .slice (some ⟨g, 0, none⟩) B.length B.length], .agg #[.int .i64 X, .int .i64 Y, .int .i64 DX, .int .i64 DY]]) (by simp [results, Try.results47, go_sem, u0, u1, u2, uf0, uf1, uf2, un, t0, t1, t2, t3, tf0, tf1, tf2, tf3, tn]) rfl ⟨W, H, X, Y, DX, DY, _, _, B, rfl, HP.out, HOKB.out, ?_⟩
    exact (((((((bl.setCell (p := ⟨w.heap.size, 0, none⟩) (Nat.le_refl _) _).setCell (p := ⟨w.heap.size, 1, none⟩) (Nat.le_refl _) _).setCell (p := ⟨w.heap.size, 2, none⟩) (Nat.le_refl _) _).setCell (p := ⟨w.heap.size + 1, 0, none⟩) (by show w.heap.size ≤ w.heap.size + 1; omega) _).setCell (p := ⟨w.heap.size + 1, 1, none⟩) (by show w.heap.size ≤ w.heap.size + 1; omega) _).setCell (p := ⟨w.heap.size + 1, 2, none⟩) (by show w.heap.size ≤ w.heap.size + 1; omega) _).setCell (p := ⟨w.heap.size + 1, 3, none⟩) (by show w.heap.size ≤ w.heap.size + 1; omega) _).trans (below_drewN _ _ 1)
end Go.Proofs.Ytcjjkiajgkicnaa
