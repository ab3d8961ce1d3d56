/-
  The law FnExactPairingText, walked.
-/
import Derived.Test.YtnldahadldolpaaText2
import Derived.Deep.RegionHeld3
namespace Go.Proofs.Ytnldahadldolpaa
open Go.RowKit Knot

set_option maxHeartbeats 4000000 in
theorem FnExactPairingText_walk (a0 : Option Addr) (l0 : Nat) (c0 : Nat) (z0 : List Int) (w : World) (r0 : IsRow .i64 w a0 l0 c0 z0) :
    Calls Try.prog 6 #[.slice a0 l0 c0] w fun e w' => e = .returned (.bool true) ∧ Below w.heap.size w w' := by
  obtain ⟨rt0, hm⟩ : ∃ rt0, textM (z0.take l0) = rt0 := ⟨_, rfl⟩
  have HM := Lib.hid hm
  clear hm
  have ll_l0 := r0.len_le
  have bl := Below.refl w.heap.size w
  by_cases e_0 : (l0 : Int) ≤ (1048576 : Int)
  rotate_left
  · skip
    go_enter Try.func6, Try.ntmps6
    go_wp2_with fail
    go_ret
    exact ⟨rfl, bl⟩
  go_enter Try.func6, Try.ntmps6
  go_wp2_with fail
  refine (toInts_any a0 l0 c0 z0 _ (r0.below bl) (by omega)).mono ?_
  rintro e w1 ⟨gw0, rfl, cpw0, hb⟩
  have sz_1 := hb.size
  try simp only [World.size_alloc] at sz_1
  replace bl := bnext bl hb
  try simp only [World.size_alloc] at cpw0
  clear hb
  go_wp2_with fail
  refine (K_spec_PairingText cpw0 HM.out).mono ?_
  rintro e w2 ⟨rfl, hb⟩
  have sz_2 := hb.size
  try simp only [World.size_alloc] at sz_2
  replace cpw0 := cpw0.below hb
  replace bl := bnext bl hb
  clear hb
  go_wp2_with fail
  refine (toInts_any a0 l0 c0 z0 _ (r0.below bl) (by omega)).mono ?_
  rintro e w3 ⟨gx0, rfl, cpx0, hb⟩
  have sz_3 := hb.size
  try simp only [World.size_alloc] at sz_3
  replace cpw0 := cpw0.below hb
  replace bl := bnext bl hb
  try simp only [World.size_alloc] at cpx0
  clear hb
  go_wp2_with fail
  refine (K_impl_PairingText cpx0 HM.out).mono ?_
  rintro e w4 ⟨rfl, hb⟩
  have sz_4 := hb.size
  try simp only [World.size_alloc] at sz_4
  replace cpw0 := cpw0.below hb
  replace cpx0 := cpx0.below hb
  replace bl := bnext bl hb
  clear hb
  go_wp2_with fail
  refine (toInts_any a0 l0 c0 z0 _ (r0.below bl) (by omega)).mono ?_
  rintro e w5 ⟨gy40, rfl, cpy40, hb⟩
  have sz_5 := hb.size
  try simp only [World.size_alloc] at sz_5
  replace cpw0 := cpw0.below hb
  replace cpx0 := cpx0.below hb
  replace bl := bnext bl hb
  try simp only [World.size_alloc] at cpy40
  clear hb
  go_wp2_with fail
  refine (K_eqInts (r := true) cpx0 cpy40 (by simp)).mono ?_
  rintro e w6 ⟨rfl, hb⟩
  have sz_6 := hb.size
  try simp only [World.size_alloc] at sz_6
  replace cpw0 := cpw0.below hb
  replace cpx0 := cpx0.below hb
  replace cpy40 := cpy40.below hb
  replace bl := bnext bl hb
  clear hb
  go_wp2_with fail
  go_ret
  exact ⟨rfl, bl⟩
end Go.Proofs.Ytnldahadldolpaa
