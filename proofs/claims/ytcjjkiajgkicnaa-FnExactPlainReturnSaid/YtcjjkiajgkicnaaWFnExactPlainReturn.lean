/-
  The law FnExactPlainReturn, walked.
-/
import Derived.Test.YtcjjkiajgkicnaaPWalk
import Derived.Test.YtcjjkiajgkicnaaKWalk
import Derived.Deep.RegionHeld3
namespace Go.Proofs.Ytcjjkiajgkicnaa
open Go.RowKit Knot

set_option maxHeartbeats 4000000 in
theorem FnExactPlainReturn_walk (a0 : Int) (a1 : Int) (x2 : Int) (y2 : Int) (dx2 : Int) (dy2 : Int) (w : World) (_wa0 : (Lit.int .i64 a0).wf = true) (_wa1 : (Lit.int .i64 a1).wf = true) (_wx2 : (Lit.int .i64 x2).wf = true) (_wy2 : (Lit.int .i64 y2).wf = true) (_wdx2 : (Lit.int .i64 dx2).wf = true) (_wdy2 : (Lit.int .i64 dy2).wf = true) :
    Calls Try.prog 9 #[.int .i64 a0, .int .i64 a1, .agg #[.int .i64 x2, .int .i64 y2, .int .i64 dx2, .int .i64 dy2]] w fun e w' => e = .returned (.bool true) ∧ Below w.heap.size w w' := by
  obtain ⟨rn0, rn1, hm⟩ : ∃ rn0 rn1, prM a0 a1 ⟨x2, y2, dx2, dy2⟩ = (rn0, rn1) := ⟨_, _, rfl⟩
  have HM := Lib.hid hm
  clear hm
  have bl := Below.refl w.heap.size w
  replace bl := bnext bl (Joins.below_alloc1 _ (.cells #[.int .i64 x2, .int .i64 y2, .int .i64 dx2, .int .i64 dy2] 34))
  have bp2 := Box.new (w) 34 #[.int .i64 x2, .int .i64 y2, .int .i64 dx2, .int .i64 dy2]
  try simp only [World.size_alloc] at bp2
  go_enter Try.func9, Try.ntmps9
  have q_bp2_0 := bp2.cell 0
  have q_bp2_1 := bp2.cell 1
  have q_bp2_2 := bp2.cell 2
  have q_bp2_3 := bp2.cell 3
  have n_bp2 := bp2.lt
  go_wp2_with fail
  clear q_bp2_0 q_bp2_1 q_bp2_2 q_bp2_3 n_bp2
  refine (K_toWalker).mono ?_
  rintro e w1 ⟨rfl, hb⟩
  have sz_1 := hb.size
  try simp only [World.size_alloc] at sz_1
  replace bp2 := bp2.below hb
  replace bl := bnext bl hb
  clear hb
  go_wp2_with fail
  refine (K_spec_PlainReturn  HM.out).mono ?_
  rintro e w2 ⟨rfl, hb⟩
  have sz_2 := hb.size
  try simp only [World.size_alloc] at sz_2
  replace bp2 := bp2.below hb
  replace bl := bnext bl hb
  clear hb
  have q_bp2_0 := bp2.cell 0
  have q_bp2_1 := bp2.cell 1
  have q_bp2_2 := bp2.cell 2
  have q_bp2_3 := bp2.cell 3
  have n_bp2 := bp2.lt
  go_wp2_with fail
  clear q_bp2_0 q_bp2_1 q_bp2_2 q_bp2_3 n_bp2
  refine (K_toWalker).mono ?_
  rintro e w3 ⟨rfl, hb⟩
  have sz_3 := hb.size
  try simp only [World.size_alloc] at sz_3
  replace bp2 := bp2.below hb
  replace bl := bnext bl hb
  clear hb
  go_wp2_with fail
  refine (K_impl_PlainReturn  HM.out).mono ?_
  rintro e w4 ⟨rfl, hb⟩
  have sz_4 := hb.size
  try simp only [World.size_alloc] at sz_4
  replace bp2 := bp2.below hb
  replace bl := bnext bl hb
  clear hb
  go_wp2_with fail
  go_ret
  exact ⟨rfl, bl⟩
end Go.Proofs.Ytcjjkiajgkicnaa
