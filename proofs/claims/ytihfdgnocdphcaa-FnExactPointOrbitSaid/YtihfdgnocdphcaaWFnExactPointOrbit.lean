/-
  The law FnExactPointOrbit, walked.
-/
import Derived.Test.YtihfdgnocdphcaaOrbS
import Derived.Test.YtihfdgnocdphcaaOrbI
import Derived.Test.YtihfdgnocdphcaaKPts
import Derived.Test.YtihfdgnocdphcaaKPan
import Derived.Test.YtihfdgnocdphcaaKWalk
import Derived.Deep.RegionHeld3
namespace Go.Proofs.Ytihfdgnocdphcaa
open Go.RowKit Knot

set_option maxHeartbeats 4000000 in
theorem FnExactPointOrbit_walk (x0 : Int) (y0 : Int) (a0 : Option Addr) (l0 : Nat) (c0 : Nat) (z0 : List Int) (x1 : Int) (y1 : Int) (w : World) (_wx0 : (Lit.int .i64 x0).wf = true) (_wy0 : (Lit.int .i64 y0).wf = true) (r0 : IsRow .i64 w a0 l0 c0 z0) (_wx1 : (Lit.int .i64 x1).wf = true) (_wy1 : (Lit.int .i64 y1).wf = true) :
    Calls Try.prog 13 #[.agg #[.int .i64 x0, .int .i64 y0, .slice a0 l0 c0], .agg #[.int .i64 x1, .int .i64 y1]] w fun e w' => e = .returned (.bool true) ∧ Below w.heap.size w w' := by
  obtain ⟨ps0, rn1, hm⟩ : ∃ ps0 rn1, orbM ⟨x0, y0, z0.take l0⟩ x1 y1 = (ps0, rn1) := ⟨_, _, rfl⟩
  have HM := Lib.hid hm
  clear hm
  have ll_l0 := r0.len_le
  have bl := Below.refl w.heap.size w
  replace bl := bnext bl (Joins.below_alloc1 _ (.cells #[.int .i64 x0, .int .i64 y0, .slice a0 l0 c0] 27))
  have bp0 := Box.new (w) 27 #[.int .i64 x0, .int .i64 y0, .slice a0 l0 c0]
  try simp only [World.size_alloc, World.size_drew] at bp0
  replace bl := bnext bl (Joins.below_alloc1 _ (.cells #[.int .i64 x1, .int .i64 y1] 35))
  replace bp0 := bp0.alloc (.cells #[.int .i64 x1, .int .i64 y1] 35)
  have bp1 := Box.new (w.alloc (.cells #[.int .i64 x0, .int .i64 y0, .slice a0 l0 c0] 27)) 35 #[.int .i64 x1, .int .i64 y1]
  try simp only [World.size_alloc, World.size_drew] at bp1
  by_cases e_0 : (l0 : Int) ≤ (1048576 : Int)
  rotate_left
  · skip
    go_enter Try.func13, Try.ntmps13
    have q_bp0_0 := bp0.cell 0
    have q_bp0_1 := bp0.cell 1
    have q_bp0_2 := bp0.cell 2
    have n_bp0 := bp0.lt
    go_wp2_with fail
    clear q_bp0_0 q_bp0_1 q_bp0_2 n_bp0
    refine (K_szPanel (left := 1048576) (by omega) (by omega) (by omega)).mono ?_
    rintro e w1 ⟨rfl, hb⟩
    rw [if_neg (show ¬ ((l0 : Int) ≤ 1048576) by omega)]
    have sz_1 := hb.size
    try simp only [World.size_alloc, World.size_drew] at sz_1
    replace bp0 := bp0.below hb
    replace bp1 := bp1.below hb
    replace bl := bnext bl hb
    clear hb
    go_wp2_with fail
    go_ret
    exact ⟨rfl, bl⟩
  go_enter Try.func13, Try.ntmps13
  have q_bp0_0 := bp0.cell 0
  have q_bp0_1 := bp0.cell 1
  have q_bp0_2 := bp0.cell 2
  have n_bp0 := bp0.lt
  go_wp2_with fail
  clear q_bp0_0 q_bp0_1 q_bp0_2 n_bp0
  refine (K_szPanel (left := 1048576) (by omega) (by omega) (by omega)).mono ?_
  rintro e w1 ⟨rfl, hb⟩
  rw [if_pos (show (l0 : Int) ≤ 1048576 by omega)]
  have sz_1 := hb.size
  try simp only [World.size_alloc, World.size_drew] at sz_1
  replace bp0 := bp0.below hb
  replace bp1 := bp1.below hb
  replace bl := bnext bl hb
  clear hb
  have q_bp0_0 := bp0.cell 0
  have q_bp0_1 := bp0.cell 1
  have q_bp0_2 := bp0.cell 2
  have n_bp0 := bp0.lt
  have q_bp1_0 := bp1.cell 0
  have q_bp1_1 := bp1.cell 1
  have n_bp1 := bp1.lt
  go_wp2_with fail
  clear q_bp0_0 q_bp0_1 q_bp0_2 n_bp0 q_bp1_0 q_bp1_1 n_bp1
  have q_bp0_0 := bp0.cell 0
  have q_bp0_1 := bp0.cell 1
  have q_bp0_2 := bp0.cell 2
  have q_bp1_0 := bp1.cell 0
  have q_bp1_1 := bp1.cell 1
  simp only [List.getElem?_toArray, List.getElem?_cons_zero, List.getElem?_cons_succ] at q_bp0_0 q_bp0_1 q_bp0_2 q_bp1_0 q_bp1_1
  go_region_held3 (fun w' => Below (w1).heap.size (w1) w' ∧ w'.cell? ⟨w.heap.size, 0, none⟩ = some (.int .i64 x0) ∧ w'.cell? ⟨w.heap.size, 1, none⟩ = some (.int .i64 y0) ∧ w'.cell? ⟨w.heap.size, 2, none⟩ = some (.slice a0 l0 c0) ∧ w'.cell? ⟨w.heap.size + 1, 0, none⟩ = some (.int .i64 x1) ∧ w'.cell? ⟨w.heap.size + 1, 1, none⟩ = some (.int .i64 y1))
    (first | exact ⟨below_drewN _ _ 1, q_bp0_0, q_bp0_1, q_bp0_2, q_bp1_0, q_bp1_1⟩ | (go_split_ands; have hx := bnext (w := w1) (by assumption) (by assumption); exact ⟨hx, (bp0.below hx).cell 0, (bp0.below hx).cell 1, (bp0.below hx).cell 2, (bp1.below hx).cell 0, (bp1.below hx).cell 1⟩))
    (first | (go_at_call 19; go_split_ands; with_reducible refine (K_toPanel (r0.below (bnext bl (by assumption))) (by omega)).mono ?_; rintro e w2 ⟨gw0, rfl, cpw0, hbw0⟩) | (go_at_call 23; go_split_ands; with_reducible refine (K_toPoint).mono ?_; rintro e w3 ⟨rfl, hbw1⟩) | (go_at_call 59; go_split_ands; refine (K_spec_PointOrbit (cpw0.below hbw1) HM.out).mono ?_; rintro e w4 ⟨Aw0, cw0, rfl, rw0, hbz⟩))
  clear q_bp0_0 q_bp0_1 q_bp0_2 q_bp1_0 q_bp1_1
  go_split_ands
  have hx : Below (w1).heap.size (w1) w4 := by assumption
  have sz_2 := hx.size
  try simp only [World.size_alloc, World.size_drew] at sz_2
  replace bp0 := bp0.below hx
  replace bp1 := bp1.below hx
  replace bl := bnext bl hx
  replace cpw0 := cpw0.below hbw1
  replace cpw0 := cpw0.below hbz
  try simp only [World.size_alloc, World.size_drew] at cpw0
  try simp only [World.size_alloc, World.size_drew] at rw0
  have sz_3 := hbw0.size
  try simp only [World.size_alloc, World.size_drew] at sz_3
  have sz_4 := hbw1.size
  try simp only [World.size_alloc, World.size_drew] at sz_4
  have sz_5 := hbz.size
  try simp only [World.size_alloc, World.size_drew] at sz_5
  clear hx hbw0 hbw1 hbz
  have q_bp0_0 := bp0.cell 0
  have q_bp0_1 := bp0.cell 1
  have q_bp0_2 := bp0.cell 2
  have n_bp0 := bp0.lt
  go_wp2_with fail
  clear q_bp0_0 q_bp0_1 q_bp0_2 n_bp0
  refine (K_toPanel (r0.below bl) (by omega)).mono ?_
  rintro e w5 ⟨gx0, rfl, cpx0, hb⟩
  have sz_6 := hb.size
  try simp only [World.size_alloc, World.size_drew] at sz_6
  replace bp0 := bp0.below hb
  replace bp1 := bp1.below hb
  replace cpw0 := cpw0.below hb
  replace rw0 := rw0.below hb
  replace bl := bnext bl hb
  try simp only [World.size_alloc, World.size_drew] at cpx0
  clear hb
  have q_bp1_0 := bp1.cell 0
  have q_bp1_1 := bp1.cell 1
  have n_bp1 := bp1.lt
  go_wp2_with fail
  clear q_bp1_0 q_bp1_1 n_bp1
  replace bp0 := bp0.alloc (.cells #[.int .i64 x0, .int .i64 y0, .slice (some ⟨gx0, 0, none⟩) l0 l0] 30)
  replace bp1 := bp1.alloc (.cells #[.int .i64 x0, .int .i64 y0, .slice (some ⟨gx0, 0, none⟩) l0 l0] 30)
  replace cpw0 := cpw0.alloc (.cells #[.int .i64 x0, .int .i64 y0, .slice (some ⟨gx0, 0, none⟩) l0 l0] 30)
  replace rw0 := rw0.alloc (.cells #[.int .i64 x0, .int .i64 y0, .slice (some ⟨gx0, 0, none⟩) l0 l0] 30)
  replace cpx0 := cpx0.alloc (.cells #[.int .i64 x0, .int .i64 y0, .slice (some ⟨gx0, 0, none⟩) l0 l0] 30)
  replace bl := bnext bl (Joins.below_alloc1 _ (.cells #[.int .i64 x0, .int .i64 y0, .slice (some ⟨gx0, 0, none⟩) l0 l0] 30))
  have bx0 := Box.new (w5) 30 #[.int .i64 x0, .int .i64 y0, .slice (some ⟨gx0, 0, none⟩) l0 l0]
  try simp only [World.size_alloc, World.size_drew] at bx0
  have q_bp1_0 := bp1.cell 0
  have q_bp1_1 := bp1.cell 1
  have q_bx0_0 := bx0.cell 0
  have q_bx0_1 := bx0.cell 1
  have q_bx0_2 := bx0.cell 2
  simp only [List.getElem?_toArray, List.getElem?_cons_zero, List.getElem?_cons_succ] at q_bp1_0 q_bp1_1 q_bx0_0 q_bx0_1 q_bx0_2
  go_region_held3 (fun w' => Below (w5.alloc (.cells #[.int .i64 x0, .int .i64 y0, .slice (some ⟨gx0, 0, none⟩) l0 l0] 30)).heap.size (w5.alloc (.cells #[.int .i64 x0, .int .i64 y0, .slice (some ⟨gx0, 0, none⟩) l0 l0] 30)) w' ∧ w'.cell? ⟨w.heap.size + 1, 0, none⟩ = some (.int .i64 x1) ∧ w'.cell? ⟨w.heap.size + 1, 1, none⟩ = some (.int .i64 y1) ∧ w'.cell? ⟨w5.heap.size, 0, none⟩ = some (.int .i64 x0) ∧ w'.cell? ⟨w5.heap.size, 1, none⟩ = some (.int .i64 y0) ∧ w'.cell? ⟨w5.heap.size, 2, none⟩ = some (.slice (some ⟨gx0, 0, none⟩) l0 l0))
    (first | exact ⟨below_drewN _ _ 1, q_bp1_0, q_bp1_1, q_bx0_0, q_bx0_1, q_bx0_2⟩ | (go_split_ands; have hx := bnext (w := w5.alloc (.cells #[.int .i64 x0, .int .i64 y0, .slice (some ⟨gx0, 0, none⟩) l0 l0] 30)) (by assumption) (by assumption); exact ⟨hx, (bp1.below hx).cell 0, (bp1.below hx).cell 1, (bx0.below hx).cell 0, (bx0.below hx).cell 1, (bx0.below hx).cell 2⟩))
    (first | (go_at_call 23; go_split_ands; with_reducible refine (K_toPoint).mono ?_; rintro e w6 ⟨rfl, hbg1⟩) | (go_at_call 60; go_split_ands; refine (K_impl_PointOrbit (cpx0.below (by assumption)) HM.out).mono ?_; rintro e w7 ⟨Ag0, cg0, rfl, rg0, hbz⟩))
  clear q_bp1_0 q_bp1_1 q_bx0_0 q_bx0_1 q_bx0_2
  go_split_ands
  have hx : Below (w5.alloc (.cells #[.int .i64 x0, .int .i64 y0, .slice (some ⟨gx0, 0, none⟩) l0 l0] 30)).heap.size (w5.alloc (.cells #[.int .i64 x0, .int .i64 y0, .slice (some ⟨gx0, 0, none⟩) l0 l0] 30)) w7 := by assumption
  have sz_7 := hx.size
  try simp only [World.size_alloc, World.size_drew] at sz_7
  replace bp0 := bp0.below hx
  replace bp1 := bp1.below hx
  replace cpw0 := cpw0.below hx
  replace rw0 := rw0.below hx
  replace cpx0 := cpx0.below hx
  replace bx0 := bx0.below hx
  replace bl := bnext bl hx
  try simp only [World.size_alloc, World.size_drew] at rg0
  have sz_8 := hbg1.size
  try simp only [World.size_alloc, World.size_drew] at sz_8
  have sz_9 := hbz.size
  try simp only [World.size_alloc, World.size_drew] at sz_9
  clear hx hbg1 hbz
  go_wp2_with fail
  refine (K_eqPoints (r := true) rg0 rw0 (by simp)).mono ?_
  rintro e w8 ⟨rfl, hb⟩
  have sz_10 := hb.size
  try simp only [World.size_alloc, World.size_drew] at sz_10
  replace bp0 := bp0.below hb
  replace bp1 := bp1.below hb
  replace cpw0 := cpw0.below hb
  replace rw0 := rw0.below hb
  replace cpx0 := cpx0.below hb
  replace bx0 := bx0.below hb
  replace rg0 := rg0.below hb
  replace bl := bnext bl hb
  clear hb
  have q_bx0_0 := bx0.cell 0
  have q_bx0_1 := bx0.cell 1
  have q_bx0_2 := bx0.cell 2
  have n_bx0 := bx0.lt
  have q_bp0_0 := bp0.cell 0
  have q_bp0_1 := bp0.cell 1
  have q_bp0_2 := bp0.cell 2
  have n_bp0 := bp0.lt
  go_wp2_with fail
  clear q_bx0_0 q_bx0_1 q_bx0_2 n_bx0 q_bp0_0 q_bp0_1 q_bp0_2 n_bp0
  have q_bx0_0 := bx0.cell 0
  have q_bx0_1 := bx0.cell 1
  have q_bx0_2 := bx0.cell 2
  have q_bp0_0 := bp0.cell 0
  have q_bp0_1 := bp0.cell 1
  have q_bp0_2 := bp0.cell 2
  simp only [List.getElem?_toArray, List.getElem?_cons_zero, List.getElem?_cons_succ] at q_bx0_0 q_bx0_1 q_bx0_2 q_bp0_0 q_bp0_1 q_bp0_2
  go_region_held3 (fun w' => Below (w8).heap.size (w8) w' ∧ w'.cell? ⟨w5.heap.size, 0, none⟩ = some (.int .i64 x0) ∧ w'.cell? ⟨w5.heap.size, 1, none⟩ = some (.int .i64 y0) ∧ w'.cell? ⟨w5.heap.size, 2, none⟩ = some (.slice (some ⟨gx0, 0, none⟩) l0 l0) ∧ w'.cell? ⟨w.heap.size, 0, none⟩ = some (.int .i64 x0) ∧ w'.cell? ⟨w.heap.size, 1, none⟩ = some (.int .i64 y0) ∧ w'.cell? ⟨w.heap.size, 2, none⟩ = some (.slice a0 l0 c0))
    (first | exact ⟨below_drewN _ _ 1, q_bx0_0, q_bx0_1, q_bx0_2, q_bp0_0, q_bp0_1, q_bp0_2⟩ | (go_split_ands; have hx := bnext (w := w8) (by assumption) (by assumption); exact ⟨hx, (bx0.below hx).cell 0, (bx0.below hx).cell 1, (bx0.below hx).cell 2, (bp0.below hx).cell 0, (bp0.below hx).cell 1, (bp0.below hx).cell 2⟩))
    (first | (go_at_call 19; go_split_ands; with_reducible refine (K_toPanel (r0.below (bnext bl (by assumption))) (by omega)).mono ?_; rintro e w9 ⟨gy80, rfl, cpy80, hby⟩) | (go_at_call 21; go_split_ands; refine (K_eqPanel (r := true) (cpx0.below (by assumption)) cpy80 (by simp)).mono ?_; rintro e w10 ⟨rfl, hbz⟩))
  clear q_bx0_0 q_bx0_1 q_bx0_2 q_bp0_0 q_bp0_1 q_bp0_2
  go_split_ands
  have hx : Below (w8).heap.size (w8) w10 := by assumption
  have sz_11 := hx.size
  try simp only [World.size_alloc, World.size_drew] at sz_11
  replace bp0 := bp0.below hx
  replace bp1 := bp1.below hx
  replace cpw0 := cpw0.below hx
  replace rw0 := rw0.below hx
  replace cpx0 := cpx0.below hx
  replace bx0 := bx0.below hx
  replace rg0 := rg0.below hx
  replace bl := bnext bl hx
  clear hx hby hbz cpy80
  have q_bx0_0 := bx0.cell 0
  have q_bx0_1 := bx0.cell 1
  have q_bx0_2 := bx0.cell 2
  have n_bx0 := bx0.lt
  go_wp2_with fail
  clear q_bx0_0 q_bx0_1 q_bx0_2 n_bx0
  refine (K_markPanel cpx0 (by omega) (by omega)).mono ?_
  rintro e w11 ⟨rfl, cpx0', hc⟩
  clear cpx0
  have sz_12 := hc.size
  try simp only [World.size_alloc, World.size_drew] at sz_12
  replace bp0 := bp0.chg hc (by omega)
  replace bp1 := bp1.chg hc (by omega)
  replace cpw0 := cpw0.chg hc (by omega)
  replace rw0 := rw0.chg hc (by omega)
  replace bx0 := bx0.chg hc (by omega)
  replace rg0 := rg0.chg hc (by omega)
  replace bl := bchg bl hc (by omega)
  clear hc
  go_wp2_with fail
  refine (K_eqPoints (r := true) rg0 rw0 (by simp)).mono ?_
  rintro e w12 ⟨rfl, hb⟩
  have sz_13 := hb.size
  try simp only [World.size_alloc, World.size_drew] at sz_13
  replace bp0 := bp0.below hb
  replace bp1 := bp1.below hb
  replace cpw0 := cpw0.below hb
  replace rw0 := rw0.below hb
  replace bx0 := bx0.below hb
  replace rg0 := rg0.below hb
  replace cpx0' := cpx0'.below hb
  replace bl := bnext bl hb
  clear hb
  go_wp2_with fail
  refine (K_markPoints rg0 (by omega) (by omega)).mono ?_
  rintro e w13 ⟨rfl, rg0', hc⟩
  clear rg0
  have sz_14 := hc.size
  try simp only [World.size_alloc, World.size_drew] at sz_14
  replace bp0 := bp0.chg hc (by omega)
  replace bp1 := bp1.chg hc (by omega)
  replace cpw0 := cpw0.chg hc (by omega)
  replace rw0 := rw0.chg hc (by omega)
  replace bx0 := bx0.chg hc (by omega)
  replace cpx0' := cpx0'.chg hc (by omega)
  replace bl := bchg bl hc (by omega)
  clear hc
  go_wp2_with fail
  refine (K_heldPoints rg0' (by omega) (by omega)).mono ?_
  rintro e w14 ⟨rfl, hb⟩
  have sz_15 := hb.size
  try simp only [World.size_alloc, World.size_drew] at sz_15
  replace bp0 := bp0.below hb
  replace bp1 := bp1.below hb
  replace cpw0 := cpw0.below hb
  replace rw0 := rw0.below hb
  replace bx0 := bx0.below hb
  replace cpx0' := cpx0'.below hb
  replace rg0' := rg0'.below hb
  replace bl := bnext bl hb
  clear hb
  have q_bp0_0 := bp0.cell 0
  have q_bp0_1 := bp0.cell 1
  have q_bp0_2 := bp0.cell 2
  have n_bp0 := bp0.lt
  have q_bp1_0 := bp1.cell 0
  have q_bp1_1 := bp1.cell 1
  have n_bp1 := bp1.lt
  go_wp2_with fail
  clear q_bp0_0 q_bp0_1 q_bp0_2 n_bp0 q_bp1_0 q_bp1_1 n_bp1
  have q_bp0_0 := bp0.cell 0
  have q_bp0_1 := bp0.cell 1
  have q_bp0_2 := bp0.cell 2
  have q_bp1_0 := bp1.cell 0
  have q_bp1_1 := bp1.cell 1
  simp only [List.getElem?_toArray, List.getElem?_cons_zero, List.getElem?_cons_succ] at q_bp0_0 q_bp0_1 q_bp0_2 q_bp1_0 q_bp1_1
  go_region_held3 (fun w' => Below (w14).heap.size (w14) w' ∧ w'.cell? ⟨w.heap.size, 0, none⟩ = some (.int .i64 x0) ∧ w'.cell? ⟨w.heap.size, 1, none⟩ = some (.int .i64 y0) ∧ w'.cell? ⟨w.heap.size, 2, none⟩ = some (.slice a0 l0 c0) ∧ w'.cell? ⟨w.heap.size + 1, 0, none⟩ = some (.int .i64 x1) ∧ w'.cell? ⟨w.heap.size + 1, 1, none⟩ = some (.int .i64 y1))
    (first | exact ⟨below_drewN _ _ 1, q_bp0_0, q_bp0_1, q_bp0_2, q_bp1_0, q_bp1_1⟩ | (go_split_ands; have hx := bnext (w := w14) (by assumption) (by assumption); exact ⟨hx, (bp0.below hx).cell 0, (bp0.below hx).cell 1, (bp0.below hx).cell 2, (bp1.below hx).cell 0, (bp1.below hx).cell 1⟩))
    (first | (go_at_call 19; go_split_ands; with_reducible refine (K_toPanel (r0.below (bnext bl (by assumption))) (by omega)).mono ?_; rintro e w15 ⟨gh0, rfl, cph0, hbh0⟩) | (go_at_call 23; go_split_ands; with_reducible refine (K_toPoint).mono ?_; rintro e w16 ⟨rfl, hbh1⟩) | (go_at_call 60; go_split_ands; refine (K_impl_PointOrbit (cph0.below hbh1) HM.out).mono ?_; rintro e w17 ⟨Ah0, ch0, rfl, rh0, hbz⟩))
  clear q_bp0_0 q_bp0_1 q_bp0_2 q_bp1_0 q_bp1_1
  go_split_ands
  have hx : Below (w14).heap.size (w14) w17 := by assumption
  have sz_16 := hx.size
  try simp only [World.size_alloc, World.size_drew] at sz_16
  replace bp0 := bp0.below hx
  replace bp1 := bp1.below hx
  replace cpw0 := cpw0.below hx
  replace rw0 := rw0.below hx
  replace bx0 := bx0.below hx
  replace cpx0' := cpx0'.below hx
  replace rg0' := rg0'.below hx
  replace bl := bnext bl hx
  replace cph0 := cph0.below hbh1
  replace cph0 := cph0.below hbz
  try simp only [World.size_alloc, World.size_drew] at cph0
  try simp only [World.size_alloc, World.size_drew] at rh0
  have sz_17 := hbh0.size
  try simp only [World.size_alloc, World.size_drew] at sz_17
  have sz_18 := hbh1.size
  try simp only [World.size_alloc, World.size_drew] at sz_18
  have sz_19 := hbz.size
  try simp only [World.size_alloc, World.size_drew] at sz_19
  clear hx hbh0 hbh1 hbz
  go_wp2_with fail
  refine (K_eqPoints (r := true) rh0 rw0 (by simp)).mono ?_
  rintro e w18 ⟨rfl, hb⟩
  have sz_20 := hb.size
  try simp only [World.size_alloc, World.size_drew] at sz_20
  replace bp0 := bp0.below hb
  replace bp1 := bp1.below hb
  replace cpw0 := cpw0.below hb
  replace rw0 := rw0.below hb
  replace bx0 := bx0.below hb
  replace cpx0' := cpx0'.below hb
  replace rg0' := rg0'.below hb
  replace cph0 := cph0.below hb
  replace rh0 := rh0.below hb
  replace bl := bnext bl hb
  clear hb
  go_wp2_with fail
  refine (K_heldPoints rg0' (by omega) (by omega)).mono ?_
  rintro e w19 ⟨rfl, hb⟩
  have sz_21 := hb.size
  try simp only [World.size_alloc, World.size_drew] at sz_21
  replace bp0 := bp0.below hb
  replace bp1 := bp1.below hb
  replace cpw0 := cpw0.below hb
  replace rw0 := rw0.below hb
  replace bx0 := bx0.below hb
  replace cpx0' := cpx0'.below hb
  replace rg0' := rg0'.below hb
  replace cph0 := cph0.below hb
  replace rh0 := rh0.below hb
  replace bl := bnext bl hb
  clear hb
  go_wp2_with fail
  go_ret
  exact ⟨rfl, bl⟩
end Go.Proofs.Ytihfdgnocdphcaa
