/-
  The law FnExactJoinPanel, walked.
-/
import Derived.Test.YtcfdbjjfdddfeaaJp
import Derived.Test.YtcfdbjjfdddfeaaJpI
import Derived.Test.YtcfdbjjfdddfeaaKPan
import Derived.Test.YtcfdbjjfdddfeaaKJoin
import Derived.Deep.RegionHeld3
namespace Go.Proofs.Ytcfdbjjfdddfeaa
open Go.RowKit Knot

set_option maxHeartbeats 4000000 in
theorem FnExactJoinPanel_walk (x0 : Int) (y0 : Int) (a0 : Option Addr) (l0 : Nat) (c0 : Nat) (z0 : List Int) (w : World) (_wx0 : (Lit.int .i64 x0).wf = true) (_wy0 : (Lit.int .i64 y0).wf = true) (r0 : IsRow .i64 w a0 l0 c0 z0) :
    Calls Try.prog 13 #[.agg #[.int .i64 x0, .int .i64 y0, .slice a0 l0 c0]] w fun e w' => e = .returned (.bool true) ∧ Below w.heap.size w w' := by
  obtain ⟨xs0, ys0, rn1, hm⟩ : ∃ xs0 ys0 rn1, jpanM ⟨x0, y0, z0.take l0⟩ = (xs0, ys0, rn1) := ⟨_, _, _, rfl⟩
  have HM := Lib.hid hm
  clear hm
  have ll_l0 := r0.len_le
  have bl := Below.refl w.heap.size w
  replace bl := bnext bl (Joins.below_alloc1 _ (.cells #[.int .i64 x0, .int .i64 y0, .slice a0 l0 c0] 53))
  have bp0 := Box.new (w) 53 #[.int .i64 x0, .int .i64 y0, .slice a0 l0 c0]
  try simp only [World.size_alloc, World.size_drew] at bp0
  by_cases e_0 : (l0 : Int) ≤ (1048576 : Int)
  rotate_left
  · skip
    go_enter Try.func13, Try.ntmps13
    have q_bp0_0 := bp0.cell 0
    have q_bp0_1 := bp0.cell 1
    have q_bp0_2 := bp0.cell 2
    have n_bp0 := bp0.lt
    go_wp2_with fail
    clear q_bp0_0 q_bp0_1 q_bp0_2 n_bp0
    refine (K_szPanel (left := 1048576) (by omega) (by omega) (by omega)).mono ?_
    rintro e w1 ⟨rfl, hb⟩
    rw [if_neg (show ¬ ((l0 : Int) ≤ 1048576) by omega)]
    have sz_1 := hb.size
    try simp only [World.size_alloc, World.size_drew] at sz_1
    replace bp0 := bp0.below hb
    replace bl := bnext bl hb
    clear hb
    go_wp2_with fail
    go_ret
    exact ⟨rfl, bl⟩
  go_enter Try.func13, Try.ntmps13
  have q_bp0_0 := bp0.cell 0
  have q_bp0_1 := bp0.cell 1
  have q_bp0_2 := bp0.cell 2
  have n_bp0 := bp0.lt
  go_wp2_with fail
  clear q_bp0_0 q_bp0_1 q_bp0_2 n_bp0
  refine (K_szPanel (left := 1048576) (by omega) (by omega) (by omega)).mono ?_
  rintro e w1 ⟨rfl, hb⟩
  rw [if_pos (show (l0 : Int) ≤ 1048576 by omega)]
  have sz_1 := hb.size
  try simp only [World.size_alloc, World.size_drew] at sz_1
  replace bp0 := bp0.below hb
  replace bl := bnext bl hb
  clear hb
  have q_bp0_0 := bp0.cell 0
  have q_bp0_1 := bp0.cell 1
  have q_bp0_2 := bp0.cell 2
  have n_bp0 := bp0.lt
  go_wp2_with fail
  clear q_bp0_0 q_bp0_1 q_bp0_2 n_bp0
  refine (K_toPanel (r0.below bl) (by omega)).mono ?_
  rintro e w2 ⟨gw0, rfl, cpw0, hb⟩
  have sz_2 := hb.size
  try simp only [World.size_alloc, World.size_drew] at sz_2
  replace bp0 := bp0.below hb
  replace bl := bnext bl hb
  try simp only [World.size_alloc, World.size_drew] at cpw0
  clear hb
  go_wp2_with fail
  refine (K_spec_JoinPanel cpw0 HM.out).mono ?_
  rintro e w3 ⟨Aw0, cw0, Dw0, dw0, rfl, rw0, hb⟩
  have sz_3 := hb.size
  try simp only [World.size_alloc, World.size_drew] at sz_3
  replace bp0 := bp0.below hb
  replace cpw0 := cpw0.below hb
  replace bl := bnext bl hb
  clear hb
  try simp only [World.size_alloc, World.size_drew] at rw0
  have q_bp0_0 := bp0.cell 0
  have q_bp0_1 := bp0.cell 1
  have q_bp0_2 := bp0.cell 2
  have n_bp0 := bp0.lt
  go_wp2_with fail
  clear q_bp0_0 q_bp0_1 q_bp0_2 n_bp0
  replace bp0 := bp0.alloc (.cells #[.slice Aw0 xs0.length cw0, .slice Dw0 ys0.length dw0] 27)
  replace cpw0 := cpw0.alloc (.cells #[.slice Aw0 xs0.length cw0, .slice Dw0 ys0.length dw0] 27)
  replace rw0 := rw0.alloc (.cells #[.slice Aw0 xs0.length cw0, .slice Dw0 ys0.length dw0] 27)
  replace bl := bnext bl (Joins.below_alloc1 _ (.cells #[.slice Aw0 xs0.length cw0, .slice Dw0 ys0.length dw0] 27))
  have bw0 := Box.new (w3) 27 #[.slice Aw0 xs0.length cw0, .slice Dw0 ys0.length dw0]
  try simp only [World.size_alloc, World.size_drew] at bw0
  refine (K_toPanel (r0.below bl) (by omega)).mono ?_
  rintro e w4 ⟨gx0, rfl, cpx0, hb⟩
  have sz_4 := hb.size
  try simp only [World.size_alloc, World.size_drew] at sz_4
  replace bp0 := bp0.below hb
  replace cpw0 := cpw0.below hb
  replace rw0 := rw0.below hb
  replace bw0 := bw0.below hb
  replace bl := bnext bl hb
  try simp only [World.size_alloc, World.size_drew] at cpx0
  clear hb
  go_wp2_with fail
  replace bp0 := bp0.alloc (.cells #[.int .i64 x0, .int .i64 y0, .slice (some ⟨gx0, 0, none⟩) l0 l0] 56)
  replace cpw0 := cpw0.alloc (.cells #[.int .i64 x0, .int .i64 y0, .slice (some ⟨gx0, 0, none⟩) l0 l0] 56)
  replace rw0 := rw0.alloc (.cells #[.int .i64 x0, .int .i64 y0, .slice (some ⟨gx0, 0, none⟩) l0 l0] 56)
  replace bw0 := bw0.alloc (.cells #[.int .i64 x0, .int .i64 y0, .slice (some ⟨gx0, 0, none⟩) l0 l0] 56)
  replace cpx0 := cpx0.alloc (.cells #[.int .i64 x0, .int .i64 y0, .slice (some ⟨gx0, 0, none⟩) l0 l0] 56)
  replace bl := bnext bl (Joins.below_alloc1 _ (.cells #[.int .i64 x0, .int .i64 y0, .slice (some ⟨gx0, 0, none⟩) l0 l0] 56))
  have bx0 := Box.new (w4) 56 #[.int .i64 x0, .int .i64 y0, .slice (some ⟨gx0, 0, none⟩) l0 l0]
  try simp only [World.size_alloc, World.size_drew] at bx0
  refine (K_impl_JoinPanel cpx0 HM.out).mono ?_
  rintro e w5 ⟨Ag0, cg0, Dg0, dg0, rfl, rg0, hb⟩
  have sz_5 := hb.size
  try simp only [World.size_alloc, World.size_drew] at sz_5
  replace bp0 := bp0.below hb
  replace cpw0 := cpw0.below hb
  replace rw0 := rw0.below hb
  replace bw0 := bw0.below hb
  replace cpx0 := cpx0.below hb
  replace bx0 := bx0.below hb
  replace bl := bnext bl hb
  clear hb
  try simp only [World.size_alloc, World.size_drew] at rg0
  have q_bw0_0 := bw0.cell 0
  have q_bw0_1 := bw0.cell 1
  have n_bw0 := bw0.lt
  go_wp2_with fail
  clear q_bw0_0 q_bw0_1 n_bw0
  replace bp0 := bp0.alloc (.cells #[.slice Ag0 xs0.length cg0, .slice Dg0 ys0.length dg0] 27)
  replace cpw0 := cpw0.alloc (.cells #[.slice Ag0 xs0.length cg0, .slice Dg0 ys0.length dg0] 27)
  replace rw0 := rw0.alloc (.cells #[.slice Ag0 xs0.length cg0, .slice Dg0 ys0.length dg0] 27)
  replace bw0 := bw0.alloc (.cells #[.slice Ag0 xs0.length cg0, .slice Dg0 ys0.length dg0] 27)
  replace cpx0 := cpx0.alloc (.cells #[.slice Ag0 xs0.length cg0, .slice Dg0 ys0.length dg0] 27)
  replace bx0 := bx0.alloc (.cells #[.slice Ag0 xs0.length cg0, .slice Dg0 ys0.length dg0] 27)
  replace rg0 := rg0.alloc (.cells #[.slice Ag0 xs0.length cg0, .slice Dg0 ys0.length dg0] 27)
  replace bl := bnext bl (Joins.below_alloc1 _ (.cells #[.slice Ag0 xs0.length cg0, .slice Dg0 ys0.length dg0] 27))
  have bg0 := Box.new (w5) 27 #[.slice Ag0 xs0.length cg0, .slice Dg0 ys0.length dg0]
  try simp only [World.size_alloc, World.size_drew] at bg0
  refine (K_eqJoined (r := true) rg0 rw0 (by simp)).mono ?_
  rintro e w6 ⟨rfl, hb⟩
  have sz_6 := hb.size
  try simp only [World.size_alloc, World.size_drew] at sz_6
  replace bp0 := bp0.below hb
  replace cpw0 := cpw0.below hb
  replace rw0 := rw0.below hb
  replace bw0 := bw0.below hb
  replace cpx0 := cpx0.below hb
  replace bx0 := bx0.below hb
  replace rg0 := rg0.below hb
  replace bg0 := bg0.below hb
  replace bl := bnext bl hb
  clear hb
  have q_bx0_0 := bx0.cell 0
  have q_bx0_1 := bx0.cell 1
  have q_bx0_2 := bx0.cell 2
  have n_bx0 := bx0.lt
  have q_bp0_0 := bp0.cell 0
  have q_bp0_1 := bp0.cell 1
  have q_bp0_2 := bp0.cell 2
  have n_bp0 := bp0.lt
  go_wp2_with fail
  clear q_bx0_0 q_bx0_1 q_bx0_2 n_bx0 q_bp0_0 q_bp0_1 q_bp0_2 n_bp0
  have q_bx0_0 := bx0.cell 0
  have q_bx0_1 := bx0.cell 1
  have q_bx0_2 := bx0.cell 2
  have q_bp0_0 := bp0.cell 0
  have q_bp0_1 := bp0.cell 1
  have q_bp0_2 := bp0.cell 2
  simp only [List.getElem?_toArray, List.getElem?_cons_zero, List.getElem?_cons_succ] at q_bx0_0 q_bx0_1 q_bx0_2 q_bp0_0 q_bp0_1 q_bp0_2
  go_region_held3 (fun w' => Below (w6).heap.size (w6) w' ∧ w'.cell? ⟨w4.heap.size, 0, none⟩ = some (.int .i64 x0) ∧ w'.cell? ⟨w4.heap.size, 1, none⟩ = some (.int .i64 y0) ∧ w'.cell? ⟨w4.heap.size, 2, none⟩ = some (.slice (some ⟨gx0, 0, none⟩) l0 l0) ∧ w'.cell? ⟨w.heap.size, 0, none⟩ = some (.int .i64 x0) ∧ w'.cell? ⟨w.heap.size, 1, none⟩ = some (.int .i64 y0) ∧ w'.cell? ⟨w.heap.size, 2, none⟩ = some (.slice a0 l0 c0))
    (first | exact ⟨below_drewN _ _ 1, q_bx0_0, q_bx0_1, q_bx0_2, q_bp0_0, q_bp0_1, q_bp0_2⟩ | (go_split_ands; have hx := bnext (w := w6) (by assumption) (by assumption); exact ⟨hx, (bx0.below hx).cell 0, (bx0.below hx).cell 1, (bx0.below hx).cell 2, (bp0.below hx).cell 0, (bp0.below hx).cell 1, (bp0.below hx).cell 2⟩))
    (first | (go_at_call 44; go_split_ands; with_reducible refine (K_toPanel (r0.below (bnext bl (by assumption))) (by omega)).mono ?_; rintro e w7 ⟨gy60, rfl, cpy60, hby⟩) | (go_at_call 46; go_split_ands; refine (K_eqPanel (r := true) (cpx0.below (by assumption)) cpy60 (by simp)).mono ?_; rintro e w8 ⟨rfl, hbz⟩))
  clear q_bx0_0 q_bx0_1 q_bx0_2 q_bp0_0 q_bp0_1 q_bp0_2
  go_split_ands
  have hx : Below (w6).heap.size (w6) w8 := by assumption
  have sz_7 := hx.size
  try simp only [World.size_alloc, World.size_drew] at sz_7
  replace bp0 := bp0.below hx
  replace cpw0 := cpw0.below hx
  replace rw0 := rw0.below hx
  replace bw0 := bw0.below hx
  replace cpx0 := cpx0.below hx
  replace bx0 := bx0.below hx
  replace rg0 := rg0.below hx
  replace bg0 := bg0.below hx
  replace bl := bnext bl hx
  clear hx hby hbz cpy60
  have q_bx0_0 := bx0.cell 0
  have q_bx0_1 := bx0.cell 1
  have q_bx0_2 := bx0.cell 2
  have n_bx0 := bx0.lt
  go_wp2_with fail
  clear q_bx0_0 q_bx0_1 q_bx0_2 n_bx0
  refine (K_markPanel cpx0 (by omega) (by omega)).mono ?_
  rintro e w9 ⟨rfl, cpx0', hc⟩
  clear cpx0
  have sz_8 := hc.size
  try simp only [World.size_alloc, World.size_drew] at sz_8
  replace bp0 := bp0.chg hc (by omega)
  replace cpw0 := cpw0.chg hc (by omega)
  replace rw0 := rw0.chg hc (by omega)
  replace bw0 := bw0.chg hc (by omega)
  replace bx0 := bx0.chg hc (by omega)
  replace rg0 := rg0.chg hc (by omega)
  replace bg0 := bg0.chg hc (by omega)
  replace bl := bchg bl hc (by omega)
  clear hc
  have q_bg0_0 := bg0.cell 0
  have q_bg0_1 := bg0.cell 1
  have n_bg0 := bg0.lt
  have q_bw0_0 := bw0.cell 0
  have q_bw0_1 := bw0.cell 1
  have n_bw0 := bw0.lt
  go_wp2_with fail
  clear q_bg0_0 q_bg0_1 n_bg0 q_bw0_0 q_bw0_1 n_bw0
  refine (K_eqJoined (r := true) rg0 rw0 (by simp)).mono ?_
  rintro e w10 ⟨rfl, hb⟩
  have sz_9 := hb.size
  try simp only [World.size_alloc, World.size_drew] at sz_9
  replace bp0 := bp0.below hb
  replace cpw0 := cpw0.below hb
  replace rw0 := rw0.below hb
  replace bw0 := bw0.below hb
  replace bx0 := bx0.below hb
  replace rg0 := rg0.below hb
  replace bg0 := bg0.below hb
  replace cpx0' := cpx0'.below hb
  replace bl := bnext bl hb
  clear hb
  have q_bg0_0 := bg0.cell 0
  have q_bg0_1 := bg0.cell 1
  have n_bg0 := bg0.lt
  go_wp2_with fail
  clear q_bg0_0 q_bg0_1 n_bg0
  refine (K_markJoined rg0 (by omega) (by omega)).mono ?_
  rintro e w11 ⟨rfl, rg0', hc⟩
  clear rg0
  have sz_10 := hc.size
  try simp only [World.size_alloc, World.size_drew] at sz_10
  replace bp0 := bp0.chg hc (by omega)
  replace cpw0 := cpw0.chg hc (by omega)
  replace rw0 := rw0.chg hc (by omega)
  replace bw0 := bw0.chg hc (by omega)
  replace bx0 := bx0.chg hc (by omega)
  replace bg0 := bg0.chg hc (by omega)
  replace cpx0' := cpx0'.chg hc (by omega)
  replace bl := bchg bl hc (by omega)
  clear hc
  have q_bg0_0 := bg0.cell 0
  have q_bg0_1 := bg0.cell 1
  have n_bg0 := bg0.lt
  go_wp2_with fail
  clear q_bg0_0 q_bg0_1 n_bg0
  refine (K_heldJoined rg0' (by omega) (by omega)).mono ?_
  rintro e w12 ⟨rfl, hb⟩
  have sz_11 := hb.size
  try simp only [World.size_alloc, World.size_drew] at sz_11
  replace bp0 := bp0.below hb
  replace cpw0 := cpw0.below hb
  replace rw0 := rw0.below hb
  replace bw0 := bw0.below hb
  replace bx0 := bx0.below hb
  replace bg0 := bg0.below hb
  replace cpx0' := cpx0'.below hb
  replace rg0' := rg0'.below hb
  replace bl := bnext bl hb
  clear hb
  have q_bp0_0 := bp0.cell 0
  have q_bp0_1 := bp0.cell 1
  have q_bp0_2 := bp0.cell 2
  have n_bp0 := bp0.lt
  go_wp2_with fail
  clear q_bp0_0 q_bp0_1 q_bp0_2 n_bp0
  refine (K_toPanel (r0.below bl) (by omega)).mono ?_
  rintro e w13 ⟨gh0, rfl, cph0, hb⟩
  have sz_12 := hb.size
  try simp only [World.size_alloc, World.size_drew] at sz_12
  replace bp0 := bp0.below hb
  replace cpw0 := cpw0.below hb
  replace rw0 := rw0.below hb
  replace bw0 := bw0.below hb
  replace bx0 := bx0.below hb
  replace bg0 := bg0.below hb
  replace cpx0' := cpx0'.below hb
  replace rg0' := rg0'.below hb
  replace bl := bnext bl hb
  try simp only [World.size_alloc, World.size_drew] at cph0
  clear hb
  go_wp2_with fail
  refine (K_impl_JoinPanel cph0 HM.out).mono ?_
  rintro e w14 ⟨Ah0, ch0, Dh0, dh0, rfl, rh0, hb⟩
  have sz_13 := hb.size
  try simp only [World.size_alloc, World.size_drew] at sz_13
  replace bp0 := bp0.below hb
  replace cpw0 := cpw0.below hb
  replace rw0 := rw0.below hb
  replace bw0 := bw0.below hb
  replace bx0 := bx0.below hb
  replace bg0 := bg0.below hb
  replace cpx0' := cpx0'.below hb
  replace rg0' := rg0'.below hb
  replace cph0 := cph0.below hb
  replace bl := bnext bl hb
  clear hb
  try simp only [World.size_alloc, World.size_drew] at rh0
  have q_bw0_0 := bw0.cell 0
  have q_bw0_1 := bw0.cell 1
  have n_bw0 := bw0.lt
  go_wp2_with fail
  clear q_bw0_0 q_bw0_1 n_bw0
  replace bp0 := bp0.alloc (.cells #[.slice Ah0 xs0.length ch0, .slice Dh0 ys0.length dh0] 27)
  replace cpw0 := cpw0.alloc (.cells #[.slice Ah0 xs0.length ch0, .slice Dh0 ys0.length dh0] 27)
  replace rw0 := rw0.alloc (.cells #[.slice Ah0 xs0.length ch0, .slice Dh0 ys0.length dh0] 27)
  replace bw0 := bw0.alloc (.cells #[.slice Ah0 xs0.length ch0, .slice Dh0 ys0.length dh0] 27)
  replace bx0 := bx0.alloc (.cells #[.slice Ah0 xs0.length ch0, .slice Dh0 ys0.length dh0] 27)
  replace bg0 := bg0.alloc (.cells #[.slice Ah0 xs0.length ch0, .slice Dh0 ys0.length dh0] 27)
  replace cpx0' := cpx0'.alloc (.cells #[.slice Ah0 xs0.length ch0, .slice Dh0 ys0.length dh0] 27)
  replace rg0' := rg0'.alloc (.cells #[.slice Ah0 xs0.length ch0, .slice Dh0 ys0.length dh0] 27)
  replace cph0 := cph0.alloc (.cells #[.slice Ah0 xs0.length ch0, .slice Dh0 ys0.length dh0] 27)
  replace rh0 := rh0.alloc (.cells #[.slice Ah0 xs0.length ch0, .slice Dh0 ys0.length dh0] 27)
  replace bl := bnext bl (Joins.below_alloc1 _ (.cells #[.slice Ah0 xs0.length ch0, .slice Dh0 ys0.length dh0] 27))
  have bh0 := Box.new (w14) 27 #[.slice Ah0 xs0.length ch0, .slice Dh0 ys0.length dh0]
  try simp only [World.size_alloc, World.size_drew] at bh0
  refine (K_eqJoined (r := true) rh0 rw0 (by simp)).mono ?_
  rintro e w15 ⟨rfl, hb⟩
  have sz_14 := hb.size
  try simp only [World.size_alloc, World.size_drew] at sz_14
  replace bp0 := bp0.below hb
  replace cpw0 := cpw0.below hb
  replace rw0 := rw0.below hb
  replace bw0 := bw0.below hb
  replace bx0 := bx0.below hb
  replace bg0 := bg0.below hb
  replace cpx0' := cpx0'.below hb
  replace rg0' := rg0'.below hb
  replace cph0 := cph0.below hb
  replace rh0 := rh0.below hb
  replace bh0 := bh0.below hb
  replace bl := bnext bl hb
  clear hb
  have q_bg0_0 := bg0.cell 0
  have q_bg0_1 := bg0.cell 1
  have n_bg0 := bg0.lt
  go_wp2_with fail
  clear q_bg0_0 q_bg0_1 n_bg0
  refine (K_heldJoined rg0' (by omega) (by omega)).mono ?_
  rintro e w16 ⟨rfl, hb⟩
  have sz_15 := hb.size
  try simp only [World.size_alloc, World.size_drew] at sz_15
  replace bp0 := bp0.below hb
  replace cpw0 := cpw0.below hb
  replace rw0 := rw0.below hb
  replace bw0 := bw0.below hb
  replace bx0 := bx0.below hb
  replace bg0 := bg0.below hb
  replace cpx0' := cpx0'.below hb
  replace rg0' := rg0'.below hb
  replace cph0 := cph0.below hb
  replace rh0 := rh0.below hb
  replace bh0 := bh0.below hb
  replace bl := bnext bl hb
  clear hb
  go_wp2_with fail
  go_ret
  exact ⟨rfl, bl⟩
end Go.Proofs.Ytcfdbjjfdddfeaa
