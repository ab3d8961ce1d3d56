/-
  The law FnExactAlikePanels, walked.
-/
import Derived.Test.YtihfdgnocdphcaaSymE
import Derived.Test.YtihfdgnocdphcaaKPan
import Derived.Deep.RegionHeld3
namespace Go.Proofs.Ytihfdgnocdphcaa
open Go.RowKit Knot

set_option maxHeartbeats 4000000 in
theorem FnExactAlikePanels_walk (x0 : Int) (y0 : Int) (a0 : Option Addr) (l0 : Nat) (c0 : Nat) (z0 : List Int) (x1 : Int) (y1 : Int) (a1 : Option Addr) (l1 : Nat) (c1 : Nat) (z1 : List Int) (w : World) (_wx0 : (Lit.int .i64 x0).wf = true) (_wy0 : (Lit.int .i64 y0).wf = true) (r0 : IsRow .i64 w a0 l0 c0 z0) (_wx1 : (Lit.int .i64 x1).wf = true) (_wy1 : (Lit.int .i64 y1).wf = true) (r1 : IsRow .i64 w a1 l1 c1 z1) :
    Calls Try.prog 9 #[.agg #[.int .i64 x0, .int .i64 y0, .slice a0 l0 c0], .agg #[.int .i64 x1, .int .i64 y1, .slice a1 l1 c1]] w fun e w' => e = .returned (.bool true) ∧ Below w.heap.size w w' := by
  obtain ⟨rb0, hm⟩ : ∃ rb0, alikeM ⟨x0, y0, z0.take l0⟩ ⟨x1, y1, z1.take l1⟩ = rb0 := ⟨_, rfl⟩
  have HM := Lib.hid hm
  clear hm
  have ll_l0 := r0.len_le
  have ll_l1 := r1.len_le
  have bl := Below.refl w.heap.size w
  replace bl := bnext bl (Joins.below_alloc1 _ (.cells #[.int .i64 x0, .int .i64 y0, .slice a0 l0 c0] 27))
  have bp0 := Box.new (w) 27 #[.int .i64 x0, .int .i64 y0, .slice a0 l0 c0]
  try simp only [World.size_alloc] at bp0
  replace bl := bnext bl (Joins.below_alloc1 _ (.cells #[.int .i64 x1, .int .i64 y1, .slice a1 l1 c1] 27))
  replace bp0 := bp0.alloc (.cells #[.int .i64 x1, .int .i64 y1, .slice a1 l1 c1] 27)
  have bp1 := Box.new (w.alloc (.cells #[.int .i64 x0, .int .i64 y0, .slice a0 l0 c0] 27)) 27 #[.int .i64 x1, .int .i64 y1, .slice a1 l1 c1]
  try simp only [World.size_alloc] at bp1
  by_cases e_0 : (l0 : Int) ≤ (1048576 : Int)
  rotate_left
  · skip
    go_enter Try.func9, Try.ntmps9
    have q_bp0_0 := bp0.cell 0
    have q_bp0_1 := bp0.cell 1
    have q_bp0_2 := bp0.cell 2
    have n_bp0 := bp0.lt
    go_wp2_with fail
    clear q_bp0_0 q_bp0_1 q_bp0_2 n_bp0
    refine (K_szPanel (left := 1048576) (by omega) (by omega) (by omega)).mono ?_
    rintro e w1 ⟨rfl, hb⟩
    rw [if_neg (show ¬ ((l0 : Int) ≤ 1048576) by omega)]
    have sz_1 := hb.size
    try simp only [World.size_alloc] at sz_1
    replace bp0 := bp0.below hb
    replace bp1 := bp1.below hb
    replace bl := bnext bl hb
    clear hb
    go_wp2_with fail
    go_ret
    exact ⟨rfl, bl⟩
  by_cases e_1 : (l1 : Int) ≤ (1048576 - l0 : Int)
  rotate_left
  · skip
    go_enter Try.func9, Try.ntmps9
    have q_bp0_0 := bp0.cell 0
    have q_bp0_1 := bp0.cell 1
    have q_bp0_2 := bp0.cell 2
    have n_bp0 := bp0.lt
    go_wp2_with fail
    clear q_bp0_0 q_bp0_1 q_bp0_2 n_bp0
    refine (K_szPanel (left := 1048576) (by omega) (by omega) (by omega)).mono ?_
    rintro e w1 ⟨rfl, hb⟩
    rw [if_pos (show (l0 : Int) ≤ 1048576 by omega)]
    have sz_1 := hb.size
    try simp only [World.size_alloc] at sz_1
    replace bp0 := bp0.below hb
    replace bp1 := bp1.below hb
    replace bl := bnext bl hb
    clear hb
    have q_bp1_0 := bp1.cell 0
    have q_bp1_1 := bp1.cell 1
    have q_bp1_2 := bp1.cell 2
    have n_bp1 := bp1.lt
    go_wp2_with fail
    clear q_bp1_0 q_bp1_1 q_bp1_2 n_bp1
    refine (K_szPanel (left := 1048576 - l0) (by omega) (by omega) (by omega)).mono ?_
    rintro e w2 ⟨rfl, hb⟩
    rw [if_neg (show ¬ ((l1 : Int) ≤ 1048576 - l0) by omega)]
    have sz_2 := hb.size
    try simp only [World.size_alloc] at sz_2
    replace bp0 := bp0.below hb
    replace bp1 := bp1.below hb
    replace bl := bnext bl hb
    clear hb
    go_wp2_with fail
    go_ret
    exact ⟨rfl, bl⟩
  go_enter Try.func9, Try.ntmps9
  have q_bp0_0 := bp0.cell 0
  have q_bp0_1 := bp0.cell 1
  have q_bp0_2 := bp0.cell 2
  have n_bp0 := bp0.lt
  go_wp2_with fail
  clear q_bp0_0 q_bp0_1 q_bp0_2 n_bp0
  refine (K_szPanel (left := 1048576) (by omega) (by omega) (by omega)).mono ?_
  rintro e w1 ⟨rfl, hb⟩
  rw [if_pos (show (l0 : Int) ≤ 1048576 by omega)]
  have sz_1 := hb.size
  try simp only [World.size_alloc] at sz_1
  replace bp0 := bp0.below hb
  replace bp1 := bp1.below hb
  replace bl := bnext bl hb
  clear hb
  have q_bp1_0 := bp1.cell 0
  have q_bp1_1 := bp1.cell 1
  have q_bp1_2 := bp1.cell 2
  have n_bp1 := bp1.lt
  go_wp2_with fail
  clear q_bp1_0 q_bp1_1 q_bp1_2 n_bp1
  refine (K_szPanel (left := 1048576 - l0) (by omega) (by omega) (by omega)).mono ?_
  rintro e w2 ⟨rfl, hb⟩
  rw [if_pos (show (l1 : Int) ≤ 1048576 - l0 by omega)]
  have sz_2 := hb.size
  try simp only [World.size_alloc] at sz_2
  replace bp0 := bp0.below hb
  replace bp1 := bp1.below hb
  replace bl := bnext bl hb
  clear hb
  have q_bp0_0 := bp0.cell 0
  have q_bp0_1 := bp0.cell 1
  have q_bp0_2 := bp0.cell 2
  have n_bp0 := bp0.lt
  have q_bp1_0 := bp1.cell 0
  have q_bp1_1 := bp1.cell 1
  have q_bp1_2 := bp1.cell 2
  have n_bp1 := bp1.lt
  go_wp2_with fail
  clear q_bp0_0 q_bp0_1 q_bp0_2 n_bp0 q_bp1_0 q_bp1_1 q_bp1_2 n_bp1
  have q_bp0_0 := bp0.cell 0
  have q_bp0_1 := bp0.cell 1
  have q_bp0_2 := bp0.cell 2
  have q_bp1_0 := bp1.cell 0
  have q_bp1_1 := bp1.cell 1
  have q_bp1_2 := bp1.cell 2
  simp only [List.getElem?_toArray, List.getElem?_cons_zero, List.getElem?_cons_succ] at q_bp0_0 q_bp0_1 q_bp0_2 q_bp1_0 q_bp1_1 q_bp1_2
  go_region_held3 (fun w' => Below (w2).heap.size (w2) w' ∧ w'.cell? ⟨w.heap.size, 0, none⟩ = some (.int .i64 x0) ∧ w'.cell? ⟨w.heap.size, 1, none⟩ = some (.int .i64 y0) ∧ w'.cell? ⟨w.heap.size, 2, none⟩ = some (.slice a0 l0 c0) ∧ w'.cell? ⟨w.heap.size + 1, 0, none⟩ = some (.int .i64 x1) ∧ w'.cell? ⟨w.heap.size + 1, 1, none⟩ = some (.int .i64 y1) ∧ w'.cell? ⟨w.heap.size + 1, 2, none⟩ = some (.slice a1 l1 c1))
    (first | exact ⟨below_drewN _ _ 1, q_bp0_0, q_bp0_1, q_bp0_2, q_bp1_0, q_bp1_1, q_bp1_2⟩ | (go_split_ands; have hx := bnext (w := w2) (by assumption) (by assumption); exact ⟨hx, (bp0.below hx).cell 0, (bp0.below hx).cell 1, (bp0.below hx).cell 2, (bp1.below hx).cell 0, (bp1.below hx).cell 1, (bp1.below hx).cell 2⟩))
    (first | (go_at_call 19; go_split_ands; with_reducible refine (K_toPanel (r0.below (bnext bl (by assumption))) (by omega)).mono ?_; rintro e w3 ⟨gw0, rfl, cpw0, hbw0⟩) | (go_at_call 19; go_split_ands; with_reducible refine (K_toPanel (r1.below (bnext bl (by assumption))) (by omega)).mono ?_; rintro e w4 ⟨gw1, rfl, cpw1, hbw1⟩) | (go_at_call 37; go_split_ands; refine (K_spec_AlikePanels (cpw0.below hbw1) cpw1 HM.out).mono ?_; rintro e w5 ⟨rfl, hbz⟩))
  clear q_bp0_0 q_bp0_1 q_bp0_2 q_bp1_0 q_bp1_1 q_bp1_2
  go_split_ands
  have hx : Below (w2).heap.size (w2) w5 := by assumption
  have sz_3 := hx.size
  try simp only [World.size_alloc] at sz_3
  replace bp0 := bp0.below hx
  replace bp1 := bp1.below hx
  replace bl := bnext bl hx
  replace cpw0 := cpw0.below hbw1
  replace cpw0 := cpw0.below hbz
  try simp only [World.size_alloc] at cpw0
  replace cpw1 := cpw1.below hbz
  try simp only [World.size_alloc] at cpw1
  have sz_4 := hbw0.size
  try simp only [World.size_alloc] at sz_4
  have sz_5 := hbw1.size
  try simp only [World.size_alloc] at sz_5
  have sz_6 := hbz.size
  try simp only [World.size_alloc] at sz_6
  clear hx hbw0 hbw1 hbz
  have q_bp0_0 := bp0.cell 0
  have q_bp0_1 := bp0.cell 1
  have q_bp0_2 := bp0.cell 2
  have n_bp0 := bp0.lt
  go_wp2_with fail
  clear q_bp0_0 q_bp0_1 q_bp0_2 n_bp0
  refine (K_toPanel (r0.below bl) (by omega)).mono ?_
  rintro e w6 ⟨gx0, rfl, cpx0, hb⟩
  have sz_7 := hb.size
  try simp only [World.size_alloc] at sz_7
  replace bp0 := bp0.below hb
  replace bp1 := bp1.below hb
  replace cpw0 := cpw0.below hb
  replace cpw1 := cpw1.below hb
  replace bl := bnext bl hb
  try simp only [World.size_alloc] at cpx0
  clear hb
  have q_bp1_0 := bp1.cell 0
  have q_bp1_1 := bp1.cell 1
  have q_bp1_2 := bp1.cell 2
  have n_bp1 := bp1.lt
  go_wp2_with fail
  clear q_bp1_0 q_bp1_1 q_bp1_2 n_bp1
  replace bp0 := bp0.alloc (.cells #[.int .i64 x0, .int .i64 y0, .slice (some ⟨gx0, 0, none⟩) l0 l0] 30)
  replace bp1 := bp1.alloc (.cells #[.int .i64 x0, .int .i64 y0, .slice (some ⟨gx0, 0, none⟩) l0 l0] 30)
  replace cpw0 := cpw0.alloc (.cells #[.int .i64 x0, .int .i64 y0, .slice (some ⟨gx0, 0, none⟩) l0 l0] 30)
  replace cpw1 := cpw1.alloc (.cells #[.int .i64 x0, .int .i64 y0, .slice (some ⟨gx0, 0, none⟩) l0 l0] 30)
  replace cpx0 := cpx0.alloc (.cells #[.int .i64 x0, .int .i64 y0, .slice (some ⟨gx0, 0, none⟩) l0 l0] 30)
  replace bl := bnext bl (Joins.below_alloc1 _ (.cells #[.int .i64 x0, .int .i64 y0, .slice (some ⟨gx0, 0, none⟩) l0 l0] 30))
  have bx0 := Box.new (w6) 30 #[.int .i64 x0, .int .i64 y0, .slice (some ⟨gx0, 0, none⟩) l0 l0]
  try simp only [World.size_alloc] at bx0
  refine (K_toPanel (r1.below bl) (by omega)).mono ?_
  rintro e w7 ⟨gx1, rfl, cpx1, hb⟩
  have sz_8 := hb.size
  try simp only [World.size_alloc] at sz_8
  replace bp0 := bp0.below hb
  replace bp1 := bp1.below hb
  replace cpw0 := cpw0.below hb
  replace cpw1 := cpw1.below hb
  replace cpx0 := cpx0.below hb
  replace bx0 := bx0.below hb
  replace bl := bnext bl hb
  try simp only [World.size_alloc] at cpx1
  clear hb
  have q_bx0_0 := bx0.cell 0
  have q_bx0_1 := bx0.cell 1
  have q_bx0_2 := bx0.cell 2
  have n_bx0 := bx0.lt
  go_wp2_with fail
  clear q_bx0_0 q_bx0_1 q_bx0_2 n_bx0
  replace bp0 := bp0.alloc (.cells #[.int .i64 x1, .int .i64 y1, .slice (some ⟨gx1, 0, none⟩) l1 l1] 30)
  replace bp1 := bp1.alloc (.cells #[.int .i64 x1, .int .i64 y1, .slice (some ⟨gx1, 0, none⟩) l1 l1] 30)
  replace cpw0 := cpw0.alloc (.cells #[.int .i64 x1, .int .i64 y1, .slice (some ⟨gx1, 0, none⟩) l1 l1] 30)
  replace cpw1 := cpw1.alloc (.cells #[.int .i64 x1, .int .i64 y1, .slice (some ⟨gx1, 0, none⟩) l1 l1] 30)
  replace cpx0 := cpx0.alloc (.cells #[.int .i64 x1, .int .i64 y1, .slice (some ⟨gx1, 0, none⟩) l1 l1] 30)
  replace bx0 := bx0.alloc (.cells #[.int .i64 x1, .int .i64 y1, .slice (some ⟨gx1, 0, none⟩) l1 l1] 30)
  replace cpx1 := cpx1.alloc (.cells #[.int .i64 x1, .int .i64 y1, .slice (some ⟨gx1, 0, none⟩) l1 l1] 30)
  replace bl := bnext bl (Joins.below_alloc1 _ (.cells #[.int .i64 x1, .int .i64 y1, .slice (some ⟨gx1, 0, none⟩) l1 l1] 30))
  have bx1 := Box.new (w7) 30 #[.int .i64 x1, .int .i64 y1, .slice (some ⟨gx1, 0, none⟩) l1 l1]
  try simp only [World.size_alloc] at bx1
  refine (K_impl_AlikePanels cpx0 cpx1 HM.out).mono ?_
  rintro e w8 ⟨rfl, hb⟩
  have sz_9 := hb.size
  try simp only [World.size_alloc] at sz_9
  replace bp0 := bp0.below hb
  replace bp1 := bp1.below hb
  replace cpw0 := cpw0.below hb
  replace cpw1 := cpw1.below hb
  replace cpx0 := cpx0.below hb
  replace bx0 := bx0.below hb
  replace cpx1 := cpx1.below hb
  replace bx1 := bx1.below hb
  replace bl := bnext bl hb
  clear hb
  have q_bx0_0 := bx0.cell 0
  have q_bx0_1 := bx0.cell 1
  have q_bx0_2 := bx0.cell 2
  have n_bx0 := bx0.lt
  have q_bp0_0 := bp0.cell 0
  have q_bp0_1 := bp0.cell 1
  have q_bp0_2 := bp0.cell 2
  have n_bp0 := bp0.lt
  go_wp2_with fail
  clear q_bx0_0 q_bx0_1 q_bx0_2 n_bx0 q_bp0_0 q_bp0_1 q_bp0_2 n_bp0
  have q_bx0_0 := bx0.cell 0
  have q_bx0_1 := bx0.cell 1
  have q_bx0_2 := bx0.cell 2
  have q_bp0_0 := bp0.cell 0
  have q_bp0_1 := bp0.cell 1
  have q_bp0_2 := bp0.cell 2
  simp only [List.getElem?_toArray, List.getElem?_cons_zero, List.getElem?_cons_succ] at q_bx0_0 q_bx0_1 q_bx0_2 q_bp0_0 q_bp0_1 q_bp0_2
  go_region_held3 (fun w' => Below (w8).heap.size (w8) w' ∧ w'.cell? ⟨w6.heap.size, 0, none⟩ = some (.int .i64 x0) ∧ w'.cell? ⟨w6.heap.size, 1, none⟩ = some (.int .i64 y0) ∧ w'.cell? ⟨w6.heap.size, 2, none⟩ = some (.slice (some ⟨gx0, 0, none⟩) l0 l0) ∧ w'.cell? ⟨w.heap.size, 0, none⟩ = some (.int .i64 x0) ∧ w'.cell? ⟨w.heap.size, 1, none⟩ = some (.int .i64 y0) ∧ w'.cell? ⟨w.heap.size, 2, none⟩ = some (.slice a0 l0 c0))
    (first | exact ⟨below_drewN _ _ 1, q_bx0_0, q_bx0_1, q_bx0_2, q_bp0_0, q_bp0_1, q_bp0_2⟩ | (go_split_ands; have hx := bnext (w := w8) (by assumption) (by assumption); exact ⟨hx, (bx0.below hx).cell 0, (bx0.below hx).cell 1, (bx0.below hx).cell 2, (bp0.below hx).cell 0, (bp0.below hx).cell 1, (bp0.below hx).cell 2⟩))
    (first | (go_at_call 19; go_split_ands; with_reducible refine (K_toPanel (r0.below (bnext bl (by assumption))) (by omega)).mono ?_; rintro e w9 ⟨gy80, rfl, cpy80, hby⟩) | (go_at_call 21; go_split_ands; refine (K_eqPanel (r := true) (cpx0.below (by assumption)) cpy80 (by simp)).mono ?_; rintro e w10 ⟨rfl, hbz⟩))
  clear q_bx0_0 q_bx0_1 q_bx0_2 q_bp0_0 q_bp0_1 q_bp0_2
  go_split_ands
  have hx : Below (w8).heap.size (w8) w10 := by assumption
  have sz_10 := hx.size
  try simp only [World.size_alloc] at sz_10
  replace bp0 := bp0.below hx
  replace bp1 := bp1.below hx
  replace cpw0 := cpw0.below hx
  replace cpw1 := cpw1.below hx
  replace cpx0 := cpx0.below hx
  replace bx0 := bx0.below hx
  replace cpx1 := cpx1.below hx
  replace bx1 := bx1.below hx
  replace bl := bnext bl hx
  clear hx hby hbz cpy80
  have q_bx1_0 := bx1.cell 0
  have q_bx1_1 := bx1.cell 1
  have q_bx1_2 := bx1.cell 2
  have n_bx1 := bx1.lt
  have q_bp1_0 := bp1.cell 0
  have q_bp1_1 := bp1.cell 1
  have q_bp1_2 := bp1.cell 2
  have n_bp1 := bp1.lt
  go_wp2_with fail
  clear q_bx1_0 q_bx1_1 q_bx1_2 n_bx1 q_bp1_0 q_bp1_1 q_bp1_2 n_bp1
  have q_bx1_0 := bx1.cell 0
  have q_bx1_1 := bx1.cell 1
  have q_bx1_2 := bx1.cell 2
  have q_bp1_0 := bp1.cell 0
  have q_bp1_1 := bp1.cell 1
  have q_bp1_2 := bp1.cell 2
  simp only [List.getElem?_toArray, List.getElem?_cons_zero, List.getElem?_cons_succ] at q_bx1_0 q_bx1_1 q_bx1_2 q_bp1_0 q_bp1_1 q_bp1_2
  go_region_held3 (fun w' => Below (w10).heap.size (w10) w' ∧ w'.cell? ⟨w7.heap.size, 0, none⟩ = some (.int .i64 x1) ∧ w'.cell? ⟨w7.heap.size, 1, none⟩ = some (.int .i64 y1) ∧ w'.cell? ⟨w7.heap.size, 2, none⟩ = some (.slice (some ⟨gx1, 0, none⟩) l1 l1) ∧ w'.cell? ⟨w.heap.size + 1, 0, none⟩ = some (.int .i64 x1) ∧ w'.cell? ⟨w.heap.size + 1, 1, none⟩ = some (.int .i64 y1) ∧ w'.cell? ⟨w.heap.size + 1, 2, none⟩ = some (.slice a1 l1 c1))
    (first | exact ⟨below_drewN _ _ 1, q_bx1_0, q_bx1_1, q_bx1_2, q_bp1_0, q_bp1_1, q_bp1_2⟩ | (go_split_ands; have hx := bnext (w := w10) (by assumption) (by assumption); exact ⟨hx, (bx1.below hx).cell 0, (bx1.below hx).cell 1, (bx1.below hx).cell 2, (bp1.below hx).cell 0, (bp1.below hx).cell 1, (bp1.below hx).cell 2⟩))
    (first | (go_at_call 19; go_split_ands; with_reducible refine (K_toPanel (r1.below (bnext bl (by assumption))) (by omega)).mono ?_; rintro e w11 ⟨gy101, rfl, cpy101, hby⟩) | (go_at_call 21; go_split_ands; refine (K_eqPanel (r := true) (cpx1.below (by assumption)) cpy101 (by simp)).mono ?_; rintro e w12 ⟨rfl, hbz⟩))
  clear q_bx1_0 q_bx1_1 q_bx1_2 q_bp1_0 q_bp1_1 q_bp1_2
  go_split_ands
  have hx : Below (w10).heap.size (w10) w12 := by assumption
  have sz_11 := hx.size
  try simp only [World.size_alloc] at sz_11
  replace bp0 := bp0.below hx
  replace bp1 := bp1.below hx
  replace cpw0 := cpw0.below hx
  replace cpw1 := cpw1.below hx
  replace cpx0 := cpx0.below hx
  replace bx0 := bx0.below hx
  replace cpx1 := cpx1.below hx
  replace bx1 := bx1.below hx
  replace bl := bnext bl hx
  clear hx hby hbz cpy101
  go_wp2_with fail
  go_ret
  exact ⟨rfl, bl⟩
end Go.Proofs.Ytihfdgnocdphcaa
