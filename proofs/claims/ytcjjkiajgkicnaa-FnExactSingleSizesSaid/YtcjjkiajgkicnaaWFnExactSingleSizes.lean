/-
  The law FnExactSingleSizes, walked.
-/
import Derived.Test.YtcjjkiajgkicnaaSingle
import Derived.Deep.RegionHeld3
namespace Go.Proofs.Ytcjjkiajgkicnaa
open Go.RowKit Knot

set_option maxHeartbeats 4000000 in
theorem FnExactSingleSizes_walk (a0 : Int) (w : World) (_wa0 : (Lit.int .i64 a0).wf = true) :
    Calls Try.prog 8 #[.int .i64 a0] w fun e w' => e = .returned (.bool true) ∧ Below w.heap.size w w' := by
  obtain ⟨xs0, rn1, hm⟩ : ∃ xs0 rn1, singM a0 = (xs0, rn1) := ⟨_, _, rfl⟩
  have HM := Lib.hid hm
  clear hm
  have bl := Below.refl w.heap.size w
  go_enter Try.func8, Try.ntmps8
  go_wp2_with fail
  refine (K_spec_SingleSizes  HM.out).mono ?_
  rintro e w1 ⟨Aw0, cw0, rfl, rw0, hb⟩
  have sz_1 := hb.size
  try simp only [World.size_alloc] at sz_1
  replace bl := bnext bl hb
  clear hb
  try simp only [World.size_alloc] at rw0
  go_wp2_with fail
  refine (K_impl_SingleSizes  HM.out).mono ?_
  rintro e w2 ⟨Ag0, cg0, rfl, rg0, hb⟩
  have sz_2 := hb.size
  try simp only [World.size_alloc] at sz_2
  replace rw0 := rw0.below hb
  replace bl := bnext bl hb
  clear hb
  try simp only [World.size_alloc] at rg0
  go_wp2_with fail
  refine (K_eqInts (r := true) rg0 rw0 (by simp)).mono ?_
  rintro e w3 ⟨rfl, hb⟩
  have sz_3 := hb.size
  try simp only [World.size_alloc] at sz_3
  replace rw0 := rw0.below hb
  replace rg0 := rg0.below hb
  replace bl := bnext bl hb
  clear hb
  go_wp2_with fail
  refine (K_markInts rg0 (by omega) (by omega)).mono ?_
  rintro e w4 ⟨rfl, rg0', hc⟩
  clear rg0
  have sz_4 := hc.size
  try simp only [World.size_alloc] at sz_4
  replace rw0 := rw0.chg hc (by omega)
  replace bl := bchg bl hc (by omega)
  clear hc
  go_wp2_with fail
  refine (K_heldInts rg0' (by omega) (by omega)).mono ?_
  rintro e w5 ⟨rfl, hb⟩
  have sz_5 := hb.size
  try simp only [World.size_alloc] at sz_5
  replace rw0 := rw0.below hb
  replace rg0' := rg0'.below hb
  replace bl := bnext bl hb
  clear hb
  go_wp2_with fail
  refine (K_impl_SingleSizes  HM.out).mono ?_
  rintro e w6 ⟨Ah0, ch0, rfl, rh0, hb⟩
  have sz_6 := hb.size
  try simp only [World.size_alloc] at sz_6
  replace rw0 := rw0.below hb
  replace rg0' := rg0'.below hb
  replace bl := bnext bl hb
  clear hb
  try simp only [World.size_alloc] at rh0
  go_wp2_with fail
  refine (K_eqInts (r := true) rh0 rw0 (by simp)).mono ?_
  rintro e w7 ⟨rfl, hb⟩
  have sz_7 := hb.size
  try simp only [World.size_alloc] at sz_7
  replace rw0 := rw0.below hb
  replace rg0' := rg0'.below hb
  replace rh0 := rh0.below hb
  replace bl := bnext bl hb
  clear hb
  go_wp2_with fail
  refine (K_heldInts rg0' (by omega) (by omega)).mono ?_
  rintro e w8 ⟨rfl, hb⟩
  have sz_8 := hb.size
  try simp only [World.size_alloc] at sz_8
  replace rw0 := rw0.below hb
  replace rg0' := rg0'.below hb
  replace rh0 := rh0.below hb
  replace bl := bnext bl hb
  clear hb
  go_wp2_with fail
  go_ret
  exact ⟨rfl, bl⟩
end Go.Proofs.Ytcjjkiajgkicnaa
