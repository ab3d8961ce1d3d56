/-
  The law FnExactMapPoint, walked.
-/
import Derived.Test.YtihfdgnocdphcaaMapPt
import Derived.Test.YtihfdgnocdphcaaKPan
import Derived.Test.YtihfdgnocdphcaaKWalk
import Derived.Test.YtihfdgnocdphcaaCut
import Derived.Deep.RegionHeld3
namespace Go.Proofs.Ytihfdgnocdphcaa
open Go.RowKit Knot

set_option maxHeartbeats 4000000 in
theorem FnExactMapPoint_walk (x0 : Int) (y0 : Int) (a0 : Option Addr) (l0 : Nat) (c0 : Nat) (z0 : List Int) (x1 : Int) (y1 : Int) (a2 : Int) (w : World) (_wx0 : (Lit.int .i64 x0).wf = true) (_wy0 : (Lit.int .i64 y0).wf = true) (r0 : IsRow .i64 w a0 l0 c0 z0) (_wx1 : (Lit.int .i64 x1).wf = true) (_wy1 : (Lit.int .i64 y1).wf = true) (_wa2 : (Lit.int .i64 a2).wf = true) :
    Calls Try.prog 5 #[.agg #[.int .i64 x0, .int .i64 y0, .slice a0 l0 c0], .agg #[.int .i64 x1, .int .i64 y1], .int .i64 a2] w fun e w' => e = .returned (.bool true) ∧ Below w.heap.size w w' := by
  obtain ⟨px0, py0, rn1, hm⟩ : ∃ px0 py0 rn1, mpM ⟨x0, y0, z0.take l0⟩ x1 y1 a2 = (px0, py0, rn1) := ⟨_, _, _, rfl⟩
  have HM := Lib.hid hm
  clear hm
  have ll_l0 := r0.len_le
  have bl := Below.refl w.heap.size w
  replace bl := bnext bl (Joins.below_alloc1 _ (.cells #[.int .i64 x0, .int .i64 y0, .slice a0 l0 c0] 27))
  have bp0 := Box.new (w) 27 #[.int .i64 x0, .int .i64 y0, .slice a0 l0 c0]
  try simp only [World.size_alloc] at bp0
  replace bl := bnext bl (Joins.below_alloc1 _ (.cells #[.int .i64 x1, .int .i64 y1] 35))
  replace bp0 := bp0.alloc (.cells #[.int .i64 x1, .int .i64 y1] 35)
  have bp1 := Box.new (w.alloc (.cells #[.int .i64 x0, .int .i64 y0, .slice a0 l0 c0] 27)) 35 #[.int .i64 x1, .int .i64 y1]
  try simp only [World.size_alloc] at bp1
  by_cases e_0 : (l0 : Int) ≤ (1048576 : Int)
  rotate_left
  · skip
    go_enter Try.func5, Try.ntmps5
    have q_bp0_0 := bp0.cell 0
    have q_bp0_1 := bp0.cell 1
    have q_bp0_2 := bp0.cell 2
    have n_bp0 := bp0.lt
    go_wp2_with fail
    clear q_bp0_0 q_bp0_1 q_bp0_2 n_bp0
    refine (K_szPanel (left := 1048576) (by omega) (by omega) (by omega)).mono ?_
    rintro e w1 ⟨rfl, hb⟩
    rw [if_neg (show ¬ ((l0 : Int) ≤ 1048576) by omega)]
    have sz_1 := hb.size
    try simp only [World.size_alloc] at sz_1
    replace bp0 := bp0.below hb
    replace bp1 := bp1.below hb
    replace bl := bnext bl hb
    clear hb
    go_wp2_with fail
    go_ret
    exact ⟨rfl, bl⟩
  go_enter Try.func5, Try.ntmps5
  have q_bp0_0 := bp0.cell 0
  have q_bp0_1 := bp0.cell 1
  have q_bp0_2 := bp0.cell 2
  have n_bp0 := bp0.lt
  go_wp2_with fail
  clear q_bp0_0 q_bp0_1 q_bp0_2 n_bp0
  refine (K_szPanel (left := 1048576) (by omega) (by omega) (by omega)).mono ?_
  rintro e w1 ⟨rfl, hb⟩
  rw [if_pos (show (l0 : Int) ≤ 1048576 by omega)]
  have sz_1 := hb.size
  try simp only [World.size_alloc] at sz_1
  replace bp0 := bp0.below hb
  replace bp1 := bp1.below hb
  replace bl := bnext bl hb
  clear hb
  have q_bp0_0 := bp0.cell 0
  have q_bp0_1 := bp0.cell 1
  have q_bp0_2 := bp0.cell 2
  have n_bp0 := bp0.lt
  have q_bp1_0 := bp1.cell 0
  have q_bp1_1 := bp1.cell 1
  have n_bp1 := bp1.lt
  go_wp2_with fail
  clear q_bp0_0 q_bp0_1 q_bp0_2 n_bp0 q_bp1_0 q_bp1_1 n_bp1
  have q_bp0_0 := bp0.cell 0
  have q_bp0_1 := bp0.cell 1
  have q_bp0_2 := bp0.cell 2
  have q_bp1_0 := bp1.cell 0
  have q_bp1_1 := bp1.cell 1
  simp only [List.getElem?_toArray, List.getElem?_cons_zero, List.getElem?_cons_succ] at q_bp0_0 q_bp0_1 q_bp0_2 q_bp1_0 q_bp1_1
  have n_bp0 := bp0.lt
  have n_bp1 := bp1.lt
  have KS : Hid (∀ w', Below w1.heap.size w1 w' → (Below w1.heap.size w1 w' ∧ w'.cell? ⟨w.heap.size, 0, none⟩ = some (.int .i64 x0) ∧ w'.cell? ⟨w.heap.size, 1, none⟩ = some (.int .i64 y0) ∧ w'.cell? ⟨w.heap.size, 2, none⟩ = some (.slice a0 l0 c0) ∧ w'.cell? ⟨w.heap.size + 1, 0, none⟩ = some (.int .i64 x1) ∧ w'.cell? ⟨w.heap.size + 1, 1, none⟩ = some (.int .i64 y1))) := Lib.hid (fun x hx => ⟨hx, (bp0.below hx).cell 0, (bp0.below hx).cell 1, (bp0.below hx).cell 2, (bp1.below hx).cell 0, (bp1.below hx).cell 1⟩)
  have y_r0 := r0.below bl
  go_cut [8, 9] (fun s8 s9 wc => ∃ (pbw0 : Nat), s8 = .pointer (some ⟨pbw0, 0, none⟩) ∧ s9 = .int .i64 rn1 ∧ Box wc pbw0 36 #[.int .i64 px0, .int .i64 py0] ∧ w1.heap.size ≤ pbw0 ∧ Below w1.heap.size w1 wc)
  case first =>
    go_region_held3 (fun w' => Below w1.heap.size w1 w' ∧ w'.cell? ⟨w.heap.size, 0, none⟩ = some (.int .i64 x0) ∧ w'.cell? ⟨w.heap.size, 1, none⟩ = some (.int .i64 y0) ∧ w'.cell? ⟨w.heap.size, 2, none⟩ = some (.slice a0 l0 c0) ∧ w'.cell? ⟨w.heap.size + 1, 0, none⟩ = some (.int .i64 x1) ∧ w'.cell? ⟨w.heap.size + 1, 1, none⟩ = some (.int .i64 y1))
      ((refine KS.out _ ?_; first | exact cut_drew | exact hB0 | exact hB1 | exact hBz | exact cut_alloc (by assumption) _ | exact cut_alloc cut_drew _ | (refine cut_set (cut_set (by assumption) ?_ _) ?_ _ <;> (first | exact Nat.le_refl _ | exact cut_le (V := w1) (by assumption))) | assumption))
      (first | (go_at_call 19; go_split_ands; (with_reducible refine (K_toPanel (y_r0.below (by assumption)) (by omega)).mono ?_); rintro e w2 ⟨gw0, rfl, cpw0, hbw0⟩; have hB0 := bnext (w := w1) (by assumption) hbw0; (first | (replace hz := hz.below hbw0) | (have hz := (Box.new _ 36 #[.int .i64 0, .int .i64 0]).below hbw0) | (have hz := (cut_drewbox (Box.new _ 36 #[.int .i64 0, .int .i64 0])).below hbw0) | skip)) | (go_at_call 23; go_split_ands; (with_reducible refine (K_toPoint).mono ?_); rintro e w3 ⟨rfl, hbw1⟩; have hB1 := bnext (w := w1) (by assumption) hbw1; (first | (replace cpw0 := cpw0.below hbw1) | (replace cpw0 := (cpw0.alloc _).below hbw1) | skip); (first | (replace hz := hz.below hbw1) | (have hz := (Box.new _ 36 #[.int .i64 0, .int .i64 0]).below hbw1) | (have hz := (cut_drewbox (Box.new _ 36 #[.int .i64 0, .int .i64 0])).below hbw1) | skip)) | (go_at_call 22; go_split_ands; have hBp := cut_le (V := w1) (by assumption); (first | refine (K_spec_MapPoint cpw0 HM.out).mono ?_ | refine (K_spec_MapPoint (cpw0.alloc _) HM.out).mono ?_); rintro e w4 ⟨rfl, hbz⟩; have hBz := bnext (w := w1) (by assumption) hbz; (first | (replace cpw0 := cpw0.below hbz) | (replace cpw0 := (cpw0.alloc _).below hbz) | skip); (first | (replace hz := hz.below hbz) | (have hz := (Box.new _ 36 #[.int .i64 0, .int .i64 0]).below hbz) | (have hz := (cut_drewbox (Box.new _ 36 #[.int .i64 0, .int .i64 0])).below hbz) | skip); try (skip; have z0 := hz.cell 0; have y0 := hz.free 0; have z1 := hz.cell 1; have y1 := hz.free 1; have zn := hz.lt)))
    all_goals go_wp2_with fail
    all_goals go_meet
    all_goals exact ⟨_, rfl, rfl, by first | exact Box.new _ _ _ | exact cut_box2 hz _ _, by first | exact Nat.le_refl _ | exact cut_le (V := w1) (by assumption), by first | exact cut_alloc (by assumption) _ | exact cut_set (cut_set (by assumption) (by first | exact Nat.le_refl _ | exact cut_le (V := w1) (by assumption)) _) (by first | exact Nat.le_refl _ | exact cut_le (V := w1) (by assumption)) _⟩
  case rest =>
    obtain ⟨pbw0, rfl, rfl, bw0, hle, hx⟩ := hcut
    obtain ⟨w5, hW4⟩ : ∃ x, x = wc := ⟨wc, rfl⟩
    subst hW4
    replace bp0 := bp0.below hx
    replace bp1 := bp1.below hx
    replace bl := bnext bl hx
    have sz_2 := hx.size
    have sz_3 := hle
    clear hx hle KS y_r0 q_bp0_0 q_bp0_1 q_bp0_2 q_bp1_0 q_bp1_1 n_bp0 n_bp1
    have q_bp0_0 := bp0.cell 0
    have q_bp0_1 := bp0.cell 1
    have q_bp0_2 := bp0.cell 2
    have n_bp0 := bp0.lt
    go_wp2_with fail
    clear q_bp0_0 q_bp0_1 q_bp0_2 n_bp0
    refine (K_toPanel (r0.below bl) (by omega)).mono ?_
    rintro e w6 ⟨gx0, rfl, cpx0, hb⟩
    have sz_4 := hb.size
    try simp only [World.size_alloc] at sz_4
    replace bp0 := bp0.below hb
    replace bp1 := bp1.below hb
    replace bw0 := bw0.below hb
    replace bl := bnext bl hb
    try simp only [World.size_alloc] at cpx0
    clear hb
    have q_bp1_0 := bp1.cell 0
    have q_bp1_1 := bp1.cell 1
    have n_bp1 := bp1.lt
    go_wp2_with fail
    clear q_bp1_0 q_bp1_1 n_bp1
    replace bp0 := bp0.alloc (.cells #[.int .i64 x0, .int .i64 y0, .slice (some ⟨gx0, 0, none⟩) l0 l0] 30)
    replace bp1 := bp1.alloc (.cells #[.int .i64 x0, .int .i64 y0, .slice (some ⟨gx0, 0, none⟩) l0 l0] 30)
    replace bw0 := bw0.alloc (.cells #[.int .i64 x0, .int .i64 y0, .slice (some ⟨gx0, 0, none⟩) l0 l0] 30)
    replace cpx0 := cpx0.alloc (.cells #[.int .i64 x0, .int .i64 y0, .slice (some ⟨gx0, 0, none⟩) l0 l0] 30)
    replace bl := bnext bl (Joins.below_alloc1 _ (.cells #[.int .i64 x0, .int .i64 y0, .slice (some ⟨gx0, 0, none⟩) l0 l0] 30))
    have bx0 := Box.new (w6) 30 #[.int .i64 x0, .int .i64 y0, .slice (some ⟨gx0, 0, none⟩) l0 l0]
    try simp only [World.size_alloc] at bx0
    obtain ⟨w7, hV⟩ : ∃ x, x = w6.alloc (.cells #[.int .i64 x0, .int .i64 y0, .slice (some ⟨gx0, 0, none⟩) l0 l0] 30) := ⟨_, rfl⟩
    rw [← hV]
    rw [← hV] at bl bp0 bp1 bw0 cpx0 bx0
    have szV := congrArg (fun x : World => x.heap.size) hV
    try simp only [World.size_alloc] at szV
    clear hV
    have sz_5 := Nat.le_of_eq szV.symm
    clear szV
    have q_bp1_0 := bp1.cell 0
    have q_bp1_1 := bp1.cell 1
    have q_bx0_0 := bx0.cell 0
    have q_bx0_1 := bx0.cell 1
    have q_bx0_2 := bx0.cell 2
    simp only [List.getElem?_toArray, List.getElem?_cons_zero, List.getElem?_cons_succ] at q_bp1_0 q_bp1_1 q_bx0_0 q_bx0_1 q_bx0_2
    have n_bp1 := bp1.lt
    have n_bx0 := bx0.lt
    have KS : Hid (∀ w', Below w7.heap.size w7 w' → (Below w7.heap.size w7 w' ∧ w'.cell? ⟨w.heap.size + 1, 0, none⟩ = some (.int .i64 x1) ∧ w'.cell? ⟨w.heap.size + 1, 1, none⟩ = some (.int .i64 y1) ∧ w'.cell? ⟨w6.heap.size, 0, none⟩ = some (.int .i64 x0) ∧ w'.cell? ⟨w6.heap.size, 1, none⟩ = some (.int .i64 y0) ∧ w'.cell? ⟨w6.heap.size, 2, none⟩ = some (.slice (some ⟨gx0, 0, none⟩) l0 l0))) := Lib.hid (fun x hx => ⟨hx, (bp1.below hx).cell 0, (bp1.below hx).cell 1, (bx0.below hx).cell 0, (bx0.below hx).cell 1, (bx0.below hx).cell 2⟩)
    go_cut [11, 12] (fun s11 s12 wc => ∃ (pbg0 : Nat), s11 = .pointer (some ⟨pbg0, 0, none⟩) ∧ s12 = .int .i64 rn1 ∧ Box wc pbg0 36 #[.int .i64 px0, .int .i64 py0] ∧ w7.heap.size ≤ pbg0 ∧ Below w7.heap.size w7 wc)
    case first =>
      go_region_held3 (fun w' => Below w7.heap.size w7 w' ∧ w'.cell? ⟨w.heap.size + 1, 0, none⟩ = some (.int .i64 x1) ∧ w'.cell? ⟨w.heap.size + 1, 1, none⟩ = some (.int .i64 y1) ∧ w'.cell? ⟨w6.heap.size, 0, none⟩ = some (.int .i64 x0) ∧ w'.cell? ⟨w6.heap.size, 1, none⟩ = some (.int .i64 y0) ∧ w'.cell? ⟨w6.heap.size, 2, none⟩ = some (.slice (some ⟨gx0, 0, none⟩) l0 l0))
        ((refine KS.out _ ?_; first | exact cut_drew | exact hB1 | exact hBz | exact cut_alloc (by assumption) _ | exact cut_alloc cut_drew _ | (refine cut_set (cut_set (by assumption) ?_ _) ?_ _ <;> (first | exact Nat.le_refl _ | exact cut_le (V := w7) (by assumption))) | assumption))
        (first | (go_at_call 23; go_split_ands; (with_reducible refine (K_toPoint).mono ?_); rintro e w8 ⟨rfl, hbg1⟩; have hB1 := bnext (w := w7) (by assumption) hbg1; (first | (replace hz := hz.below hbg1) | (have hz := (Box.new _ 36 #[.int .i64 0, .int .i64 0]).below hbg1) | (have hz := (cut_drewbox (Box.new _ 36 #[.int .i64 0, .int .i64 0])).below hbg1) | skip)) | (go_at_call 24; go_split_ands; have hBp := cut_le (V := w7) (by assumption); (first | refine (K_impl_MapPoint (cpx0.below (by assumption)) HM.out).mono ?_ | refine (K_impl_MapPoint (cpx0.below (by assumption)) HM.out).mono ?_); rintro e w9 ⟨rfl, hbz⟩; have hBz := bnext (w := w7) (by assumption) hbz; (first | (replace hz := hz.below hbz) | (have hz := (Box.new _ 36 #[.int .i64 0, .int .i64 0]).below hbz) | (have hz := (cut_drewbox (Box.new _ 36 #[.int .i64 0, .int .i64 0])).below hbz) | skip); try (skip; have z0 := hz.cell 0; have y0 := hz.free 0; have z1 := hz.cell 1; have y1 := hz.free 1; have zn := hz.lt)))
      all_goals go_wp2_with fail
      all_goals go_meet
      all_goals exact ⟨_, rfl, rfl, by first | exact Box.new _ _ _ | exact cut_box2 hz _ _, by first | exact Nat.le_refl _ | exact cut_le (V := w7) (by assumption), by first | exact cut_alloc (by assumption) _ | exact cut_set (cut_set (by assumption) (by first | exact Nat.le_refl _ | exact cut_le (V := w7) (by assumption)) _) (by first | exact Nat.le_refl _ | exact cut_le (V := w7) (by assumption)) _⟩
    case rest =>
      obtain ⟨pbg0, rfl, rfl, bg0, hle, hx⟩ := hcut
      obtain ⟨w10, hW4⟩ : ∃ x, x = wc := ⟨wc, rfl⟩
      subst hW4
      replace bp0 := bp0.below hx
      replace bp1 := bp1.below hx
      replace bw0 := bw0.below hx
      replace cpx0 := cpx0.below hx
      replace bx0 := bx0.below hx
      replace bl := bnext bl hx
      have sz_6 := hx.size
      have sz_7 := hle
      clear hx hle KS q_bp1_0 q_bp1_1 q_bx0_0 q_bx0_1 q_bx0_2 n_bp1 n_bx0
      have q_bg0_0 := bg0.cell 0
      have q_bg0_1 := bg0.cell 1
      have n_bg0 := bg0.lt
      have q_bw0_0 := bw0.cell 0
      have q_bw0_1 := bw0.cell 1
      have n_bw0 := bw0.lt
      go_wp2_with fail
      clear q_bg0_0 q_bg0_1 n_bg0 q_bw0_0 q_bw0_1 n_bw0
      refine (K_eqPoint (r := true)   (by simp)).mono ?_
      rintro e w11 ⟨rfl, hb⟩
      have sz_8 := hb.size
      try simp only [World.size_alloc] at sz_8
      replace bp0 := bp0.below hb
      replace bp1 := bp1.below hb
      replace bw0 := bw0.below hb
      replace cpx0 := cpx0.below hb
      replace bx0 := bx0.below hb
      replace bg0 := bg0.below hb
      replace bl := bnext bl hb
      clear hb
      have q_bx0_0 := bx0.cell 0
      have q_bx0_1 := bx0.cell 1
      have q_bx0_2 := bx0.cell 2
      have n_bx0 := bx0.lt
      have q_bp0_0 := bp0.cell 0
      have q_bp0_1 := bp0.cell 1
      have q_bp0_2 := bp0.cell 2
      have n_bp0 := bp0.lt
      go_wp2_with fail
      clear q_bx0_0 q_bx0_1 q_bx0_2 n_bx0 q_bp0_0 q_bp0_1 q_bp0_2 n_bp0
      have q_bx0_0 := bx0.cell 0
      have q_bx0_1 := bx0.cell 1
      have q_bx0_2 := bx0.cell 2
      have q_bp0_0 := bp0.cell 0
      have q_bp0_1 := bp0.cell 1
      have q_bp0_2 := bp0.cell 2
      simp only [List.getElem?_toArray, List.getElem?_cons_zero, List.getElem?_cons_succ] at q_bx0_0 q_bx0_1 q_bx0_2 q_bp0_0 q_bp0_1 q_bp0_2
      go_region_held3 (fun w' => Below (w11).heap.size (w11) w' ∧ w'.cell? ⟨w6.heap.size, 0, none⟩ = some (.int .i64 x0) ∧ w'.cell? ⟨w6.heap.size, 1, none⟩ = some (.int .i64 y0) ∧ w'.cell? ⟨w6.heap.size, 2, none⟩ = some (.slice (some ⟨gx0, 0, none⟩) l0 l0) ∧ w'.cell? ⟨w.heap.size, 0, none⟩ = some (.int .i64 x0) ∧ w'.cell? ⟨w.heap.size, 1, none⟩ = some (.int .i64 y0) ∧ w'.cell? ⟨w.heap.size, 2, none⟩ = some (.slice a0 l0 c0))
        (first | exact ⟨below_drewN _ _ 1, q_bx0_0, q_bx0_1, q_bx0_2, q_bp0_0, q_bp0_1, q_bp0_2⟩ | (go_split_ands; have hx := bnext (w := w11) (by assumption) (by assumption); exact ⟨hx, (bx0.below hx).cell 0, (bx0.below hx).cell 1, (bx0.below hx).cell 2, (bp0.below hx).cell 0, (bp0.below hx).cell 1, (bp0.below hx).cell 2⟩))
        (first | (go_at_call 19; go_split_ands; with_reducible refine (K_toPanel (r0.below (bnext bl (by assumption))) (by omega)).mono ?_; rintro e w12 ⟨gy110, rfl, cpy110, hby⟩) | (go_at_call 21; go_split_ands; refine (K_eqPanel (r := true) (cpx0.below (by assumption)) cpy110 (by simp)).mono ?_; rintro e w13 ⟨rfl, hbz⟩))
      clear q_bx0_0 q_bx0_1 q_bx0_2 q_bp0_0 q_bp0_1 q_bp0_2
      go_split_ands
      have hx : Below (w11).heap.size (w11) w13 := by assumption
      have sz_9 := hx.size
      try simp only [World.size_alloc] at sz_9
      replace bp0 := bp0.below hx
      replace bp1 := bp1.below hx
      replace bw0 := bw0.below hx
      replace cpx0 := cpx0.below hx
      replace bx0 := bx0.below hx
      replace bg0 := bg0.below hx
      replace bl := bnext bl hx
      clear hx hby hbz cpy110
      go_wp2_with fail
      go_ret
      exact ⟨rfl, bl⟩
end Go.Proofs.Ytihfdgnocdphcaa
