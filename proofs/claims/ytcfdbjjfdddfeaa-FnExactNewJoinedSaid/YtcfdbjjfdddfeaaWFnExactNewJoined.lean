/-
  The law FnExactNewJoined, walked.
-/
import Derived.Test.YtcfdbjjfdddfeaaNewJ
import Derived.Deep.RegionHeld3
namespace Go.Proofs.Ytcfdbjjfdddfeaa
open Go.RowKit

set_option maxHeartbeats 4000000 in
theorem FnExactNewJoined_walk (a0 : Int) (w : World) (_wa0 : (Lit.int .i64 a0).wf = true) :
    Calls Try.prog 4 #[.int .i64 a0] w fun e w' => e = .returned (.bool true) ∧ Below w.heap.size w w' := by
  obtain ⟨xs0, ys0, rn1, hm⟩ : ∃ xs0 ys0 rn1, newM a0 = (xs0, ys0, rn1) := ⟨_, _, _, rfl⟩
  have HM := Lib.hid hm
  clear hm
  have bl := Below.refl w.heap.size w
  go_enter Try.func4, Try.ntmps4
  go_wp2_with fail
  refine (K_spec_NewJoined  HM.out).mono ?_
  rintro e w1 ⟨Aw0, cw0, Dw0, dw0, rfl, rw0, hb⟩
  have sz_1 := hb.size
  try simp only [World.size_alloc] at sz_1
  replace bl := bnext bl hb
  clear hb
  try simp only [World.size_alloc] at rw0
  go_wp2_with fail
  replace rw0 := rw0.alloc (.cells #[.slice Aw0 xs0.length cw0, .slice Dw0 ys0.length dw0] 27)
  replace bl := bnext bl (Joins.below_alloc1 _ (.cells #[.slice Aw0 xs0.length cw0, .slice Dw0 ys0.length dw0] 27))
  have bw0 := Box.new (w1) 27 #[.slice Aw0 xs0.length cw0, .slice Dw0 ys0.length dw0]
  try simp only [World.size_alloc] at bw0
  refine (K_impl_NewJoined  HM.out).mono ?_
  rintro e w2 ⟨Ag0, cg0, Dg0, dg0, rfl, rg0, hb⟩
  have sz_2 := hb.size
  try simp only [World.size_alloc] at sz_2
  replace rw0 := rw0.below hb
  replace bw0 := bw0.below hb
  replace bl := bnext bl hb
  clear hb
  try simp only [World.size_alloc] at rg0
  have q_bw0_0 := bw0.cell 0
  have q_bw0_1 := bw0.cell 1
  have n_bw0 := bw0.lt
  go_wp2_with fail
  clear q_bw0_0 q_bw0_1 n_bw0
  replace rw0 := rw0.alloc (.cells #[.slice Ag0 xs0.length cg0, .slice Dg0 ys0.length dg0] 27)
  replace bw0 := bw0.alloc (.cells #[.slice Ag0 xs0.length cg0, .slice Dg0 ys0.length dg0] 27)
  replace rg0 := rg0.alloc (.cells #[.slice Ag0 xs0.length cg0, .slice Dg0 ys0.length dg0] 27)
  replace bl := bnext bl (Joins.below_alloc1 _ (.cells #[.slice Ag0 xs0.length cg0, .slice Dg0 ys0.length dg0] 27))
  have bg0 := Box.new (w2) 27 #[.slice Ag0 xs0.length cg0, .slice Dg0 ys0.length dg0]
  try simp only [World.size_alloc] at bg0
  refine (K_eqJoined (r := true) rg0 rw0 (by simp)).mono ?_
  rintro e w3 ⟨rfl, hb⟩
  have sz_3 := hb.size
  try simp only [World.size_alloc] at sz_3
  replace rw0 := rw0.below hb
  replace bw0 := bw0.below hb
  replace rg0 := rg0.below hb
  replace bg0 := bg0.below hb
  replace bl := bnext bl hb
  clear hb
  have q_bg0_0 := bg0.cell 0
  have q_bg0_1 := bg0.cell 1
  have n_bg0 := bg0.lt
  go_wp2_with fail
  clear q_bg0_0 q_bg0_1 n_bg0
  refine (K_markJoined rg0 (by omega) (by omega)).mono ?_
  rintro e w4 ⟨rfl, rg0', hc⟩
  clear rg0
  have sz_4 := hc.size
  try simp only [World.size_alloc] at sz_4
  replace rw0 := rw0.chg hc (by omega)
  replace bw0 := bw0.chg hc (by omega)
  replace bg0 := bg0.chg hc (by omega)
  replace bl := bchg bl hc (by omega)
  clear hc
  have q_bg0_0 := bg0.cell 0
  have q_bg0_1 := bg0.cell 1
  have n_bg0 := bg0.lt
  go_wp2_with fail
  clear q_bg0_0 q_bg0_1 n_bg0
  refine (K_heldJoined rg0' (by omega) (by omega)).mono ?_
  rintro e w5 ⟨rfl, hb⟩
  have sz_5 := hb.size
  try simp only [World.size_alloc] at sz_5
  replace rw0 := rw0.below hb
  replace bw0 := bw0.below hb
  replace bg0 := bg0.below hb
  replace rg0' := rg0'.below hb
  replace bl := bnext bl hb
  clear hb
  go_wp2_with fail
  refine (K_impl_NewJoined  HM.out).mono ?_
  rintro e w6 ⟨Ah0, ch0, Dh0, dh0, rfl, rh0, hb⟩
  have sz_6 := hb.size
  try simp only [World.size_alloc] at sz_6
  replace rw0 := rw0.below hb
  replace bw0 := bw0.below hb
  replace bg0 := bg0.below hb
  replace rg0' := rg0'.below hb
  replace bl := bnext bl hb
  clear hb
  try simp only [World.size_alloc] at rh0
  have q_bw0_0 := bw0.cell 0
  have q_bw0_1 := bw0.cell 1
  have n_bw0 := bw0.lt
  go_wp2_with fail
  clear q_bw0_0 q_bw0_1 n_bw0
  replace rw0 := rw0.alloc (.cells #[.slice Ah0 xs0.length ch0, .slice Dh0 ys0.length dh0] 27)
  replace bw0 := bw0.alloc (.cells #[.slice Ah0 xs0.length ch0, .slice Dh0 ys0.length dh0] 27)
  replace bg0 := bg0.alloc (.cells #[.slice Ah0 xs0.length ch0, .slice Dh0 ys0.length dh0] 27)
  replace rg0' := rg0'.alloc (.cells #[.slice Ah0 xs0.length ch0, .slice Dh0 ys0.length dh0] 27)
  replace rh0 := rh0.alloc (.cells #[.slice Ah0 xs0.length ch0, .slice Dh0 ys0.length dh0] 27)
  replace bl := bnext bl (Joins.below_alloc1 _ (.cells #[.slice Ah0 xs0.length ch0, .slice Dh0 ys0.length dh0] 27))
  have bh0 := Box.new (w6) 27 #[.slice Ah0 xs0.length ch0, .slice Dh0 ys0.length dh0]
  try simp only [World.size_alloc] at bh0
  refine (K_eqJoined (r := true) rh0 rw0 (by simp)).mono ?_
  rintro e w7 ⟨rfl, hb⟩
  have sz_7 := hb.size
  try simp only [World.size_alloc] at sz_7
  replace rw0 := rw0.below hb
  replace bw0 := bw0.below hb
  replace bg0 := bg0.below hb
  replace rg0' := rg0'.below hb
  replace rh0 := rh0.below hb
  replace bh0 := bh0.below hb
  replace bl := bnext bl hb
  clear hb
  have q_bg0_0 := bg0.cell 0
  have q_bg0_1 := bg0.cell 1
  have n_bg0 := bg0.lt
  go_wp2_with fail
  clear q_bg0_0 q_bg0_1 n_bg0
  refine (K_heldJoined rg0' (by omega) (by omega)).mono ?_
  rintro e w8 ⟨rfl, hb⟩
  have sz_8 := hb.size
  try simp only [World.size_alloc] at sz_8
  replace rw0 := rw0.below hb
  replace bw0 := bw0.below hb
  replace bg0 := bg0.below hb
  replace rg0' := rg0'.below hb
  replace rh0 := rh0.below hb
  replace bh0 := bh0.below hb
  replace bl := bnext bl hb
  clear hb
  go_wp2_with fail
  go_ret
  exact ⟨rfl, bl⟩
end Go.Proofs.Ytcfdbjjfdddfeaa
