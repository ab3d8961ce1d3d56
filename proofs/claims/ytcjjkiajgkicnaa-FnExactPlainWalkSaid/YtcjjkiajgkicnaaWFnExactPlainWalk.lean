/-
  The law FnExactPlainWalk, walked.
-/
import Derived.Test.YtcjjkiajgkicnaaPWalk
import Derived.Test.YtcjjkiajgkicnaaKWalk
import Derived.Deep.RegionHeld3
namespace Go.Proofs.Ytcjjkiajgkicnaa
open Go.RowKit Knot

set_option maxHeartbeats 4000000 in
theorem FnExactPlainWalk_walk (a0 : Int) (a1 : Int) (x2 : Int) (y2 : Int) (dx2 : Int) (dy2 : Int) (a3 : Int) (w : World) (_wa0 : (Lit.int .i64 a0).wf = true) (_wa1 : (Lit.int .i64 a1).wf = true) (_wx2 : (Lit.int .i64 x2).wf = true) (_wy2 : (Lit.int .i64 y2).wf = true) (_wdx2 : (Lit.int .i64 dx2).wf = true) (_wdy2 : (Lit.int .i64 dy2).wf = true) (_wa3 : (Lit.int .i64 a3).wf = true) :
    Calls Try.prog 11 #[.int .i64 a0, .int .i64 a1, .agg #[.int .i64 x2, .int .i64 y2, .int .i64 dx2, .int .i64 dy2], .int .i64 a3] w fun e w' => e = .returned (.bool true) ∧ Below w.heap.size w w' := by
  obtain ⟨px0, py0, pdx0, pdy0, rn1, hm⟩ : ∃ px0 py0 pdx0 pdy0 rn1, pwM a0 a1 ⟨x2, y2, dx2, dy2⟩ a3 = (px0, py0, pdx0, pdy0, rn1) := ⟨_, _, _, _, _, rfl⟩
  have HM := Lib.hid hm
  clear hm
  have bl := Below.refl w.heap.size w
  replace bl := bnext bl (Joins.below_alloc1 _ (.cells #[.int .i64 x2, .int .i64 y2, .int .i64 dx2, .int .i64 dy2] 34))
  have bp2 := Box.new (w) 34 #[.int .i64 x2, .int .i64 y2, .int .i64 dx2, .int .i64 dy2]
  try simp only [World.size_alloc] at bp2
  go_enter Try.func11, Try.ntmps11
  have q_bp2_0 := bp2.cell 0
  have q_bp2_1 := bp2.cell 1
  have q_bp2_2 := bp2.cell 2
  have q_bp2_3 := bp2.cell 3
  have n_bp2 := bp2.lt
  go_wp2_with fail
  clear q_bp2_0 q_bp2_1 q_bp2_2 q_bp2_3 n_bp2
  refine (K_toWalker).mono ?_
  rintro e w1 ⟨rfl, hb⟩
  have sz_1 := hb.size
  try simp only [World.size_alloc] at sz_1
  replace bp2 := bp2.below hb
  replace bl := bnext bl hb
  clear hb
  go_wp2_with fail
  refine (K_spec_PlainWalk  HM.out).mono ?_
  rintro e w2 ⟨rfl, hb⟩
  have sz_2 := hb.size
  try simp only [World.size_alloc] at sz_2
  replace bp2 := bp2.below hb
  replace bl := bnext bl hb
  clear hb
  have q_bp2_0 := bp2.cell 0
  have q_bp2_1 := bp2.cell 1
  have q_bp2_2 := bp2.cell 2
  have q_bp2_3 := bp2.cell 3
  have n_bp2 := bp2.lt
  go_wp2_with fail
  clear q_bp2_0 q_bp2_1 q_bp2_2 q_bp2_3 n_bp2
  replace bp2 := bp2.alloc (.cells #[.int .i64 px0, .int .i64 py0, .int .i64 pdx0, .int .i64 pdy0] 38)
  replace bl := bnext bl (Joins.below_alloc1 _ (.cells #[.int .i64 px0, .int .i64 py0, .int .i64 pdx0, .int .i64 pdy0] 38))
  have bw0 := Box.new (w2) 38 #[.int .i64 px0, .int .i64 py0, .int .i64 pdx0, .int .i64 pdy0]
  try simp only [World.size_alloc] at bw0
  refine (K_toWalker).mono ?_
  rintro e w3 ⟨rfl, hb⟩
  have sz_3 := hb.size
  try simp only [World.size_alloc] at sz_3
  replace bp2 := bp2.below hb
  replace bw0 := bw0.below hb
  replace bl := bnext bl hb
  clear hb
  go_wp2_with fail
  refine (K_impl_PlainWalk  HM.out).mono ?_
  rintro e w4 ⟨rfl, hb⟩
  have sz_4 := hb.size
  try simp only [World.size_alloc] at sz_4
  replace bp2 := bp2.below hb
  replace bw0 := bw0.below hb
  replace bl := bnext bl hb
  clear hb
  have q_bw0_0 := bw0.cell 0
  have q_bw0_1 := bw0.cell 1
  have q_bw0_2 := bw0.cell 2
  have q_bw0_3 := bw0.cell 3
  have n_bw0 := bw0.lt
  go_wp2_with fail
  clear q_bw0_0 q_bw0_1 q_bw0_2 q_bw0_3 n_bw0
  replace bp2 := bp2.alloc (.cells #[.int .i64 px0, .int .i64 py0, .int .i64 pdx0, .int .i64 pdy0] 38)
  replace bw0 := bw0.alloc (.cells #[.int .i64 px0, .int .i64 py0, .int .i64 pdx0, .int .i64 pdy0] 38)
  replace bl := bnext bl (Joins.below_alloc1 _ (.cells #[.int .i64 px0, .int .i64 py0, .int .i64 pdx0, .int .i64 pdy0] 38))
  have bg0 := Box.new (w4) 38 #[.int .i64 px0, .int .i64 py0, .int .i64 pdx0, .int .i64 pdy0]
  try simp only [World.size_alloc] at bg0
  refine (K_eqWalker (r := true)   (by simp)).mono ?_
  rintro e w5 ⟨rfl, hb⟩
  have sz_5 := hb.size
  try simp only [World.size_alloc] at sz_5
  replace bp2 := bp2.below hb
  replace bw0 := bw0.below hb
  replace bg0 := bg0.below hb
  replace bl := bnext bl hb
  clear hb
  go_wp2_with fail
  go_ret
  exact ⟨rfl, bl⟩
end Go.Proofs.Ytcjjkiajgkicnaa
