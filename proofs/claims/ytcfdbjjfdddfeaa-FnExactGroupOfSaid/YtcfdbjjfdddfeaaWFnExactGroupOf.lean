/-
  The law FnExactGroupOf, walked.
-/
import Derived.Test.YtcfdbjjfdddfeaaGrp
import Derived.Deep.RegionHeld3
namespace Go.Proofs.Ytcfdbjjfdddfeaa
open Go.RowKit Knot

set_option maxHeartbeats 4000000 in
theorem FnExactGroupOf_walk (a0 : Option Addr) (l0 : Nat) (c0 : Nat) (z0 : List Int) (b0 : Option Addr) (m0 : Nat) (d0 : Nat) (y0 : List Int) (a1 : Int) (w : World) (r0 : IsRow .i64 w a0 l0 c0 z0) (s0 : IsRow .i64 w b0 m0 d0 y0) (_wa1 : (Lit.int .i64 a1).wf = true) :
    Calls Try.prog 7 #[.agg #[.slice a0 l0 c0, .slice b0 m0 d0], .int .i64 a1] w fun e w' => e = .returned (.bool true) ∧ Below w.heap.size w w' := by
  obtain ⟨rn0, rn1, hm⟩ : ∃ rn0 rn1, groupM (z0.take l0) (y0.take m0) a1 = (rn0, rn1) := ⟨_, _, rfl⟩
  have HM := Lib.hid hm
  clear hm
  have ll_l0 := r0.len_le
  have ll_m0 := s0.len_le
  have bl := Below.refl w.heap.size w
  replace bl := bnext bl (Joins.below_alloc1 _ (.cells #[.slice a0 l0 c0, .slice b0 m0 d0] 24))
  have bp0 := Box.new (w) 24 #[.slice a0 l0 c0, .slice b0 m0 d0]
  try simp only [World.size_alloc] at bp0
  by_cases e_0 : (l0 : Int) + (m0 : Int) ≤ (1048576 : Int)
  rotate_left
  · skip
    go_enter Try.func7, Try.ntmps7
    have q_bp0_0 := bp0.cell 0
    have q_bp0_1 := bp0.cell 1
    have n_bp0 := bp0.lt
    go_wp2_with fail
    clear q_bp0_0 q_bp0_1 n_bp0
    refine (K_szJoined (left := 1048576) (by omega) (by omega) (by omega) (by omega)).mono ?_
    rintro e w1 ⟨rfl, hb⟩
    rw [if_neg (show ¬ ((l0 : Int) + (m0 : Int) ≤ 1048576) by omega)]
    have sz_1 := hb.size
    try simp only [World.size_alloc] at sz_1
    replace bp0 := bp0.below hb
    replace bl := bnext bl hb
    clear hb
    go_wp2_with fail
    go_ret
    exact ⟨rfl, bl⟩
  go_enter Try.func7, Try.ntmps7
  have q_bp0_0 := bp0.cell 0
  have q_bp0_1 := bp0.cell 1
  have n_bp0 := bp0.lt
  go_wp2_with fail
  clear q_bp0_0 q_bp0_1 n_bp0
  refine (K_szJoined (left := 1048576) (by omega) (by omega) (by omega) (by omega)).mono ?_
  rintro e w1 ⟨rfl, hb⟩
  rw [if_pos (show (l0 : Int) + (m0 : Int) ≤ 1048576 by omega)]
  have sz_1 := hb.size
  try simp only [World.size_alloc] at sz_1
  replace bp0 := bp0.below hb
  replace bl := bnext bl hb
  clear hb
  have q_bp0_0 := bp0.cell 0
  have q_bp0_1 := bp0.cell 1
  have n_bp0 := bp0.lt
  go_wp2_with fail
  clear q_bp0_0 q_bp0_1 n_bp0
  refine (K_toJoined (r0.below bl) (s0.below bl) (by omega) (by omega)).mono ?_
  rintro e w2 ⟨gw0, hw0, rfl, cw0, hb⟩
  have sz_2 := hb.size
  try simp only [World.size_alloc] at sz_2
  replace bp0 := bp0.below hb
  replace bl := bnext bl hb
  try simp only [World.size_alloc] at cw0
  clear hb
  go_wp2_with fail
  refine (K_spec_GroupOf cw0 HM.out).mono ?_
  rintro e w3 ⟨rfl, hb⟩
  have sz_3 := hb.size
  try simp only [World.size_alloc] at sz_3
  replace bp0 := bp0.below hb
  replace cw0 := cw0.below hb
  replace bl := bnext bl hb
  clear hb
  have q_bp0_0 := bp0.cell 0
  have q_bp0_1 := bp0.cell 1
  have n_bp0 := bp0.lt
  go_wp2_with fail
  clear q_bp0_0 q_bp0_1 n_bp0
  refine (K_toJoined (r0.below bl) (s0.below bl) (by omega) (by omega)).mono ?_
  rintro e w4 ⟨gx0, hx0, rfl, cx0, hb⟩
  have sz_4 := hb.size
  try simp only [World.size_alloc] at sz_4
  replace bp0 := bp0.below hb
  replace cw0 := cw0.below hb
  replace bl := bnext bl hb
  try simp only [World.size_alloc] at cx0
  clear hb
  go_wp2_with fail
  replace bp0 := bp0.alloc (.cells #[.slice (some ⟨gx0, 0, none⟩) l0 l0, .slice (some ⟨hx0, 0, none⟩) m0 m0] 27)
  replace cw0 := cw0.alloc (.cells #[.slice (some ⟨gx0, 0, none⟩) l0 l0, .slice (some ⟨hx0, 0, none⟩) m0 m0] 27)
  replace cx0 := cx0.alloc (.cells #[.slice (some ⟨gx0, 0, none⟩) l0 l0, .slice (some ⟨hx0, 0, none⟩) m0 m0] 27)
  replace bl := bnext bl (Joins.below_alloc1 _ (.cells #[.slice (some ⟨gx0, 0, none⟩) l0 l0, .slice (some ⟨hx0, 0, none⟩) m0 m0] 27))
  have bx0 := Box.new (w4) 27 #[.slice (some ⟨gx0, 0, none⟩) l0 l0, .slice (some ⟨hx0, 0, none⟩) m0 m0]
  try simp only [World.size_alloc] at bx0
  refine (K_impl_GroupOf cx0 HM.out).mono ?_
  rintro e w5 ⟨rfl, hb⟩
  have sz_5 := hb.size
  try simp only [World.size_alloc] at sz_5
  replace bp0 := bp0.below hb
  replace cw0 := cw0.below hb
  replace cx0 := cx0.below hb
  replace bx0 := bx0.below hb
  replace bl := bnext bl hb
  clear hb
  have q_bx0_0 := bx0.cell 0
  have q_bx0_1 := bx0.cell 1
  have n_bx0 := bx0.lt
  have q_bp0_0 := bp0.cell 0
  have q_bp0_1 := bp0.cell 1
  have n_bp0 := bp0.lt
  go_wp2_with fail
  clear q_bx0_0 q_bx0_1 n_bx0 q_bp0_0 q_bp0_1 n_bp0
  have q_bx0_0 := bx0.cell 0
  have q_bx0_1 := bx0.cell 1
  have q_bp0_0 := bp0.cell 0
  have q_bp0_1 := bp0.cell 1
  simp only [List.getElem?_toArray, List.getElem?_cons_zero, List.getElem?_cons_succ] at q_bx0_0 q_bx0_1 q_bp0_0 q_bp0_1
  go_region_held3 (fun w' => Below (w5).heap.size (w5) w' ∧ w'.cell? ⟨w4.heap.size, 0, none⟩ = some (.slice (some ⟨gx0, 0, none⟩) l0 l0) ∧ w'.cell? ⟨w4.heap.size, 1, none⟩ = some (.slice (some ⟨hx0, 0, none⟩) m0 m0) ∧ w'.cell? ⟨w.heap.size, 0, none⟩ = some (.slice a0 l0 c0) ∧ w'.cell? ⟨w.heap.size, 1, none⟩ = some (.slice b0 m0 d0))
    (first | exact ⟨below_drewN _ _ 1, q_bx0_0, q_bx0_1, q_bp0_0, q_bp0_1⟩ | (go_split_ands; have hx := bnext (w := w5) (by assumption) (by assumption); exact ⟨hx, (bx0.below hx).cell 0, (bx0.below hx).cell 1, (bp0.below hx).cell 0, (bp0.below hx).cell 1⟩))
    (first | (go_at_call 17; go_split_ands; with_reducible refine (K_toJoined (r0.below (bnext bl (by assumption))) (s0.below (bnext bl (by assumption))) (by omega) (by omega)).mono ?_; rintro e w6 ⟨gy50, hy50, rfl, cy50, hby⟩) | (go_at_call 19; go_split_ands; refine (K_eqJoined (r := true) (cx0.below (by assumption)) cy50 (by simp)).mono ?_; rintro e w7 ⟨rfl, hbz⟩))
  clear q_bx0_0 q_bx0_1 q_bp0_0 q_bp0_1
  go_split_ands
  have hx : Below (w5).heap.size (w5) w7 := by assumption
  have sz_6 := hx.size
  try simp only [World.size_alloc] at sz_6
  replace bp0 := bp0.below hx
  replace cw0 := cw0.below hx
  replace cx0 := cx0.below hx
  replace bx0 := bx0.below hx
  replace bl := bnext bl hx
  clear hx hby hbz cy50
  go_wp2_with fail
  go_ret
  exact ⟨rfl, bl⟩
end Go.Proofs.Ytcfdbjjfdddfeaa
