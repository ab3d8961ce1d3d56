/-
  The law FnExactLoopsOf, walked.
-/
import Derived.Test.YtnldahadldolpaaLoops
import Derived.Deep.RegionHeld3
namespace Go.Proofs.Ytnldahadldolpaa
open Go.RowKit Knot

set_option maxHeartbeats 4000000 in
theorem FnExactLoopsOf_walk (a0 : Option Addr) (l0 : Nat) (c0 : Nat) (z0 : List Int) (a1 : Option Addr) (l1 : Nat) (c1 : Nat) (z1 : List Int) (w : World) (r0 : IsRow .i64 w a0 l0 c0 z0) (r1 : IsRow .i64 w a1 l1 c1 z1) :
    Calls Try.prog 5 #[.slice a0 l0 c0, .slice a1 l1 c1] w fun e w' => e = .returned (.bool true) ∧ Below w.heap.size w w' := by
  obtain ⟨rn0, rn1, hm⟩ : ∃ rn0 rn1, loopM (z0.take l0) (z1.take l1) = (rn0, rn1) := ⟨_, _, rfl⟩
  have HM := Lib.hid hm
  clear hm
  have ll_l0 := r0.len_le
  have ll_l1 := r1.len_le
  have bl := Below.refl w.heap.size w
  by_cases e_0 : (l0 : Int) ≤ (1048576 : Int)
  rotate_left
  · skip
    go_enter Try.func5, Try.ntmps5
    go_wp2_with fail
    go_ret
    exact ⟨rfl, bl⟩
  by_cases e_1 : (l1 : Int) ≤ (1048576 : Int)
  rotate_left
  · skip
    go_enter Try.func5, Try.ntmps5
    go_wp2_with fail
    go_ret
    exact ⟨rfl, bl⟩
  go_enter Try.func5, Try.ntmps5
  go_wp2_with fail
  refine (toInts_any a0 l0 c0 z0 _ (r0.below bl) (by omega)).mono ?_
  rintro e w1 ⟨gw0, rfl, cpw0, hb⟩
  have sz_1 := hb.size
  try simp only [World.size_alloc] at sz_1
  replace bl := bnext bl hb
  try simp only [World.size_alloc] at cpw0
  clear hb
  go_wp2_with fail
  refine (toInts_any a1 l1 c1 z1 _ (r1.below bl) (by omega)).mono ?_
  rintro e w2 ⟨gw1, rfl, cpw1, hb⟩
  have sz_2 := hb.size
  try simp only [World.size_alloc] at sz_2
  replace cpw0 := cpw0.below hb
  replace bl := bnext bl hb
  try simp only [World.size_alloc] at cpw1
  clear hb
  go_wp2_with fail
  refine (K_spec_LoopsOf cpw0 cpw1 HM.out).mono ?_
  rintro e w3 ⟨rfl, hb⟩
  have sz_3 := hb.size
  try simp only [World.size_alloc] at sz_3
  replace cpw0 := cpw0.below hb
  replace cpw1 := cpw1.below hb
  replace bl := bnext bl hb
  clear hb
  go_wp2_with fail
  refine (toInts_any a0 l0 c0 z0 _ (r0.below bl) (by omega)).mono ?_
  rintro e w4 ⟨gx0, rfl, cpx0, hb⟩
  have sz_4 := hb.size
  try simp only [World.size_alloc] at sz_4
  replace cpw0 := cpw0.below hb
  replace cpw1 := cpw1.below hb
  replace bl := bnext bl hb
  try simp only [World.size_alloc] at cpx0
  clear hb
  go_wp2_with fail
  refine (toInts_any a1 l1 c1 z1 _ (r1.below bl) (by omega)).mono ?_
  rintro e w5 ⟨gx1, rfl, cpx1, hb⟩
  have sz_5 := hb.size
  try simp only [World.size_alloc] at sz_5
  replace cpw0 := cpw0.below hb
  replace cpw1 := cpw1.below hb
  replace cpx0 := cpx0.below hb
  replace bl := bnext bl hb
  try simp only [World.size_alloc] at cpx1
  clear hb
  go_wp2_with fail
  refine (K_impl_LoopsOf cpx0 cpx1 HM.out).mono ?_
  rintro e w6 ⟨rfl, hb⟩
  have sz_6 := hb.size
  try simp only [World.size_alloc] at sz_6
  replace cpw0 := cpw0.below hb
  replace cpw1 := cpw1.below hb
  replace cpx0 := cpx0.below hb
  replace cpx1 := cpx1.below hb
  replace bl := bnext bl hb
  clear hb
  go_wp2_with fail
  refine (toInts_any a0 l0 c0 z0 _ (r0.below bl) (by omega)).mono ?_
  rintro e w7 ⟨gy60, rfl, cpy60, hb⟩
  have sz_7 := hb.size
  try simp only [World.size_alloc] at sz_7
  replace cpw0 := cpw0.below hb
  replace cpw1 := cpw1.below hb
  replace cpx0 := cpx0.below hb
  replace cpx1 := cpx1.below hb
  replace bl := bnext bl hb
  try simp only [World.size_alloc] at cpy60
  clear hb
  go_wp2_with fail
  refine (K_eqInts (r := true) cpx0 cpy60 (by simp)).mono ?_
  rintro e w8 ⟨rfl, hb⟩
  have sz_8 := hb.size
  try simp only [World.size_alloc] at sz_8
  replace cpw0 := cpw0.below hb
  replace cpw1 := cpw1.below hb
  replace cpx0 := cpx0.below hb
  replace cpx1 := cpx1.below hb
  replace cpy60 := cpy60.below hb
  replace bl := bnext bl hb
  clear hb
  go_wp2_with fail
  refine (toInts_any a1 l1 c1 z1 _ (r1.below bl) (by omega)).mono ?_
  rintro e w9 ⟨gy81, rfl, cpy81, hb⟩
  have sz_9 := hb.size
  try simp only [World.size_alloc] at sz_9
  replace cpw0 := cpw0.below hb
  replace cpw1 := cpw1.below hb
  replace cpx0 := cpx0.below hb
  replace cpx1 := cpx1.below hb
  replace cpy60 := cpy60.below hb
  replace bl := bnext bl hb
  try simp only [World.size_alloc] at cpy81
  clear hb
  go_wp2_with fail
  refine (K_eqInts (r := true) cpx1 cpy81 (by simp)).mono ?_
  rintro e w10 ⟨rfl, hb⟩
  have sz_10 := hb.size
  try simp only [World.size_alloc] at sz_10
  replace cpw0 := cpw0.below hb
  replace cpw1 := cpw1.below hb
  replace cpx0 := cpx0.below hb
  replace cpx1 := cpx1.below hb
  replace cpy60 := cpy60.below hb
  replace cpy81 := cpy81.below hb
  replace bl := bnext bl hb
  clear hb
  go_wp2_with fail
  go_ret
  exact ⟨rfl, bl⟩
end Go.Proofs.Ytnldahadldolpaa
