/-
  The law FnExactNextColumn, walked.
-/
import Derived.Test.YtnldahadldolpaaColB
import Derived.Test.YtnldahadldolpaaKPan
import Derived.Test.YtnldahadldolpaaKCol
import Derived.Test.YtnldahadldolpaaCut
import Derived.Deep.RegionHeld3
namespace Go.Proofs.Ytnldahadldolpaa
open Go.RowKit Knot

theorem IntsIn.cut_set {w : World} {lo hi : Nat} {v : Value} {xs : List Int} (h : IntsIn w lo hi v xs) {p : Addr} (hne : ∀ k, v.ownBlock = some k → k ≠ p.block) (u : Value) : IntsIn (w.setCell p u) lo hi v xs :=
  ⟨Row.setCell h.1 hne u, h.2.1, by rw [World.size_setCell]; exact h.2.2.1, h.2.2.2⟩
set_option maxRecDepth 100000 in
set_option maxHeartbeats 4000000 in
theorem FnExactNextColumn_walk (x0 : Int) (y0 : Int) (a0 : Option Addr) (l0 : Nat) (c0 : Nat) (z0 : List Int) (a1 : Int) (a2 : Option Addr) (l2 : Nat) (c2 : Nat) (z2 : List Int) (x2 : Int) (w : World) (_wx0 : (Lit.int .i64 x0).wf = true) (_wy0 : (Lit.int .i64 y0).wf = true) (r0 : IsRow .i64 w a0 l0 c0 z0) (_wa1 : (Lit.int .i64 a1).wf = true) (r2 : IsRow .i64 w a2 l2 c2 z2) (_wx2 : (Lit.int .i64 x2).wf = true) :
    Calls Try.prog 12 #[.agg #[.int .i64 x0, .int .i64 y0, .slice a0 l0 c0], .int .i64 a1, .agg #[.slice a2 l2 c2, .int .i64 x2]] w fun e w' => e = .returned (.bool true) ∧ Below w.heap.size w w' := by
  obtain ⟨xs0, cl0, rn1, hm⟩ : ∃ xs0 cl0 rn1, nextM ⟨x0, y0, z0.take l0⟩ a1 (z2.take l2) x2 = (xs0, cl0, rn1) := ⟨_, _, _, rfl⟩
  have HM := Lib.hid hm
  clear hm
  have ll_l0 := r0.len_le
  have ll_l2 := r2.len_le
  have bl := Below.refl w.heap.size w
  replace bl := bnext bl (Joins.below_alloc1 _ (.cells #[.int .i64 x0, .int .i64 y0, .slice a0 l0 c0] 35))
  have bp0 := Box.new (w) 35 #[.int .i64 x0, .int .i64 y0, .slice a0 l0 c0]
  try simp only [World.size_alloc, World.size_drew] at bp0
  replace bl := bnext bl (Joins.below_alloc1 _ (.cells #[.slice a2 l2 c2, .int .i64 x2] 56))
  replace bp0 := bp0.alloc (.cells #[.slice a2 l2 c2, .int .i64 x2] 56)
  have bp2 := Box.new (w.alloc (.cells #[.int .i64 x0, .int .i64 y0, .slice a0 l0 c0] 35)) 56 #[.slice a2 l2 c2, .int .i64 x2]
  try simp only [World.size_alloc, World.size_drew] at bp2
  by_cases e_0 : (l0 : Int) ≤ (1048576 : Int)
  rotate_left
  · skip
    go_enter Try.func12, Try.ntmps12
    have q_bp0_0 := bp0.cell 0
    have q_bp0_1 := bp0.cell 1
    have q_bp0_2 := bp0.cell 2
    have n_bp0 := bp0.lt
    go_wp2_with fail
    clear q_bp0_0 q_bp0_1 q_bp0_2 n_bp0
    refine (K_szPanel (left := 1048576) (by omega) (by omega) (by omega)).mono ?_
    rintro e w1 ⟨rfl, hb⟩
    rw [if_neg (show ¬ ((l0 : Int) ≤ 1048576) by omega)]
    have sz_1 := hb.size
    try simp only [World.size_alloc, World.size_drew] at sz_1
    replace bp0 := bp0.below hb
    replace bp2 := bp2.below hb
    replace bl := bnext bl hb
    clear hb
    go_wp2_with fail
    go_ret
    exact ⟨rfl, bl⟩
  by_cases e_1 : (l2 : Int) ≤ (1048576 - l0 : Int)
  rotate_left
  · skip
    go_enter Try.func12, Try.ntmps12
    have q_bp0_0 := bp0.cell 0
    have q_bp0_1 := bp0.cell 1
    have q_bp0_2 := bp0.cell 2
    have n_bp0 := bp0.lt
    go_wp2_with fail
    clear q_bp0_0 q_bp0_1 q_bp0_2 n_bp0
    refine (K_szPanel (left := 1048576) (by omega) (by omega) (by omega)).mono ?_
    rintro e w1 ⟨rfl, hb⟩
    rw [if_pos (show (l0 : Int) ≤ 1048576 by omega)]
    have sz_1 := hb.size
    try simp only [World.size_alloc, World.size_drew] at sz_1
    replace bp0 := bp0.below hb
    replace bp2 := bp2.below hb
    replace bl := bnext bl hb
    clear hb
    have q_bp2_0 := bp2.cell 0
    have q_bp2_1 := bp2.cell 1
    have n_bp2 := bp2.lt
    go_wp2_with fail
    clear q_bp2_0 q_bp2_1 n_bp2
    refine (K_szColumn (left := 1048576 - l0) (by omega) (by omega) (by omega)).mono ?_
    rintro e w2 ⟨rfl, hb⟩
    rw [if_neg (show ¬ ((l2 : Int) ≤ 1048576 - l0) by omega)]
    have sz_2 := hb.size
    try simp only [World.size_alloc, World.size_drew] at sz_2
    replace bp0 := bp0.below hb
    replace bp2 := bp2.below hb
    replace bl := bnext bl hb
    clear hb
    go_wp2_with fail
    go_ret
    exact ⟨rfl, bl⟩
  go_enter Try.func12, Try.ntmps12
  have q_bp0_0 := bp0.cell 0
  have q_bp0_1 := bp0.cell 1
  have q_bp0_2 := bp0.cell 2
  have n_bp0 := bp0.lt
  go_wp2_with fail
  clear q_bp0_0 q_bp0_1 q_bp0_2 n_bp0
  refine (K_szPanel (left := 1048576) (by omega) (by omega) (by omega)).mono ?_
  rintro e w1 ⟨rfl, hb⟩
  rw [if_pos (show (l0 : Int) ≤ 1048576 by omega)]
  have sz_1 := hb.size
  try simp only [World.size_alloc, World.size_drew] at sz_1
  replace bp0 := bp0.below hb
  replace bp2 := bp2.below hb
  replace bl := bnext bl hb
  clear hb
  have q_bp2_0 := bp2.cell 0
  have q_bp2_1 := bp2.cell 1
  have n_bp2 := bp2.lt
  go_wp2_with fail
  clear q_bp2_0 q_bp2_1 n_bp2
  refine (K_szColumn (left := 1048576 - l0) (by omega) (by omega) (by omega)).mono ?_
  rintro e w2 ⟨rfl, hb⟩
  rw [if_pos (show (l2 : Int) ≤ 1048576 - l0 by omega)]
  have sz_2 := hb.size
  try simp only [World.size_alloc, World.size_drew] at sz_2
  replace bp0 := bp0.below hb
  replace bp2 := bp2.below hb
  replace bl := bnext bl hb
  clear hb
  have q_bp0_0 := bp0.cell 0
  have q_bp0_1 := bp0.cell 1
  have q_bp0_2 := bp0.cell 2
  have n_bp0 := bp0.lt
  have q_bp2_0 := bp2.cell 0
  have q_bp2_1 := bp2.cell 1
  have n_bp2 := bp2.lt
  go_wp2_with fail
  clear q_bp0_0 q_bp0_1 q_bp0_2 n_bp0 q_bp2_0 q_bp2_1 n_bp2
  have q_bp0_0 := bp0.cell 0
  have q_bp0_1 := bp0.cell 1
  have q_bp0_2 := bp0.cell 2
  have q_bp2_0 := bp2.cell 0
  have q_bp2_1 := bp2.cell 1
  simp only [List.getElem?_toArray, List.getElem?_cons_zero, List.getElem?_cons_succ] at q_bp0_0 q_bp0_1 q_bp0_2 q_bp2_0 q_bp2_1
  have n_bp0 := bp0.lt
  have n_bp2 := bp2.lt
  have KS : Hid (∀ w', Below w2.heap.size w2 w' → (Below w2.heap.size w2 w' ∧ w'.cell? ⟨w.heap.size, 0, none⟩ = some (.int .i64 x0) ∧ w'.cell? ⟨w.heap.size, 1, none⟩ = some (.int .i64 y0) ∧ w'.cell? ⟨w.heap.size, 2, none⟩ = some (.slice a0 l0 c0) ∧ w'.cell? ⟨w.heap.size + 1, 0, none⟩ = some (.slice a2 l2 c2) ∧ w'.cell? ⟨w.heap.size + 1, 1, none⟩ = some (.int .i64 x2))) := Lib.hid (fun x hx => ⟨hx, (bp0.below hx).cell 0, (bp0.below hx).cell 1, (bp0.below hx).cell 2, (bp2.below hx).cell 0, (bp2.below hx).cell 1⟩)
  have y_r0 := r0.below bl
  have y_r2 := r2.below bl
  go_cut [8, 9] (fun s8 s9 wc => ∃ (pbw0 : Nat) (Aw0 : Option Addr) (cw0 : Nat), s8 = .pointer (some ⟨pbw0, 0, none⟩) ∧ s9 = .int .i64 rn1 ∧ Box wc pbw0 38 #[.slice Aw0 xs0.length cw0, .int .i64 cl0] ∧ IntsIn wc w2.heap.size wc.heap.size (.slice Aw0 xs0.length cw0) xs0 ∧ (∀ k, Value.ownBlock (.slice Aw0 xs0.length cw0) = some k → k ≠ pbw0) ∧ w2.heap.size ≤ pbw0 ∧ Below w2.heap.size w2 wc)
  case first =>
    go_region_held3 (fun w' => Below w2.heap.size w2 w' ∧ w'.cell? ⟨w.heap.size, 0, none⟩ = some (.int .i64 x0) ∧ w'.cell? ⟨w.heap.size, 1, none⟩ = some (.int .i64 y0) ∧ w'.cell? ⟨w.heap.size, 2, none⟩ = some (.slice a0 l0 c0) ∧ w'.cell? ⟨w.heap.size + 1, 0, none⟩ = some (.slice a2 l2 c2) ∧ w'.cell? ⟨w.heap.size + 1, 1, none⟩ = some (.int .i64 x2))
      ((refine KS.out _ ?_; first | exact cut_drew | exact hB0 | exact hB2 | exact hBz | exact cut_alloc (by assumption) _ | exact cut_alloc cut_drew _ | (refine cut_set (cut_set (by assumption) ?_ _) ?_ _ <;> (first | exact Nat.le_refl _ | exact cut_le (V := w2) (by assumption))) | assumption))
      (first | (go_at_call 29; go_split_ands; (with_reducible refine (K_toPanel (y_r0.below (by assumption)) (by omega)).mono ?_); rintro e w3 ⟨gw0, rfl, cpw0, hbw0⟩; have hB0 := bnext (w := w2) (by assumption) hbw0; (first | (replace cpw2 := cpw2.below hbw0) | (replace cpw2 := (cpw2.alloc _).below hbw0) | skip); (first | (replace hz := hz.below hbw0) | (have hz := (Box.new _ 38 #[.slice none 0 0, .int .i64 0]).below hbw0) | (have hz := (cut_drewbox (Box.new _ 38 #[.slice none 0 0, .int .i64 0])).below hbw0) | skip)) | (go_at_call 47; go_split_ands; (with_reducible refine (K_toColumn (y_r2.below (by assumption)) (by omega)).mono ?_); rintro e w4 ⟨gw2, rfl, cpw2, hbw2⟩; have hB2 := bnext (w := w2) (by assumption) hbw2; (first | (replace cpw0 := cpw0.below hbw2) | (replace cpw0 := (cpw0.alloc _).below hbw2) | skip); (first | (replace hz := hz.below hbw2) | (have hz := (Box.new _ 38 #[.slice none 0 0, .int .i64 0]).below hbw2) | (have hz := (cut_drewbox (Box.new _ 38 #[.slice none 0 0, .int .i64 0])).below hbw2) | skip)) | (go_at_call 46; go_split_ands; have hBp := cut_le (V := w2) (by assumption); (first | have hzl := hz.lt | skip); (first | refine (K_spec_NextColumn cpw0 cpw2 HM.out).mono ?_ | refine (K_spec_NextColumn (cpw0.alloc _) (cpw2.alloc _) HM.out).mono ?_); rintro e w5 ⟨Aw0, cw0, rfl, rw0, hbz⟩; have hBz := bnext (w := w2) (by assumption) hbz; (first | (replace cpw0 := cpw0.below hbz) | (replace cpw0 := (cpw0.alloc _).below hbz) | skip); (first | (replace cpw2 := cpw2.below hbz) | (replace cpw2 := (cpw2.alloc _).below hbz) | skip); (first | (replace hz := hz.below hbz) | (have hz := (Box.new _ 38 #[.slice none 0 0, .int .i64 0]).below hbz) | (have hz := (cut_drewbox (Box.new _ 38 #[.slice none 0 0, .int .i64 0])).below hbz) | skip); try (skip; have z0 := hz.cell 0; have y0 := hz.free 0; have z1 := hz.cell 1; have y1 := hz.free 1; have zn := hz.lt)))
    all_goals go_wp2_with fail
    all_goals go_meet
    all_goals exact ⟨_, _, _, rfl, rfl, by first | exact Box.new _ _ _ | exact cut_box2 hz _ _, by first | exact (rw0.alloc _).wider (by omega) (by simp) (Nat.le_refl _) | exact rw0.wider (by omega) (by simp) (Nat.le_refl _) | (refine IntsIn.wider (IntsIn.cut_set (IntsIn.cut_set rw0 ?_ _) ?_ _) ?_ (by simp) (Nat.le_refl _) <;> first | omega | (intro k hk; have h1 := (Row.lt rw0.1 hk).1; (try simp only [World.size_alloc, World.size_drew, World.size_setCell] at h1 ⊢); (try dsimp only); (first | omega | (have := hzl; omega)))), (by intro k hk; have h1 := (Row.lt rw0.1 hk).1; have h2 := rw0.2.1 k hk; (try simp only [World.size_alloc, World.size_drew, World.size_setCell] at h1 h2 ⊢); (first | omega | (have := hzl; omega))), by first | exact Nat.le_refl _ | exact cut_le (V := w2) (by assumption), by first | exact cut_alloc (by assumption) _ | exact cut_set (cut_set (by assumption) (by first | exact Nat.le_refl _ | exact cut_le (V := w2) (by assumption)) _) (by first | exact Nat.le_refl _ | exact cut_le (V := w2) (by assumption)) _⟩
  case rest =>
    obtain ⟨pbw0, Aw0, cw0, rfl, rfl, bw0, rw0, rw0n, hle, hx⟩ := hcut
    obtain ⟨w6, hW4⟩ : ∃ x, x = wc := ⟨wc, rfl⟩
    subst hW4
    have lt_bw0 := bw0.lt
    replace bp0 := bp0.below hx
    replace bp2 := bp2.below hx
    replace bl := bnext bl hx
    have sz_3 := hx.size
    have sz_4 := hle
    clear hx hle KS y_r0 y_r2 q_bp0_0 q_bp0_1 q_bp0_2 q_bp2_0 q_bp2_1 n_bp0 n_bp2
    have q_bp0_0 := bp0.cell 0
    have q_bp0_1 := bp0.cell 1
    have q_bp0_2 := bp0.cell 2
    have n_bp0 := bp0.lt
    go_wp2_with fail
    clear q_bp0_0 q_bp0_1 q_bp0_2 n_bp0
    refine (K_toPanel (r0.below bl) (by omega)).mono ?_
    rintro e w7 ⟨gx0, rfl, cpx0, hb⟩
    have sz_5 := hb.size
    try simp only [World.size_alloc, World.size_drew] at sz_5
    replace bp0 := bp0.below hb
    replace bp2 := bp2.below hb
    replace bw0 := bw0.below hb
    replace rw0 := rw0.below hb
    replace bl := bnext bl hb
    try simp only [World.size_alloc, World.size_drew] at cpx0
    clear hb
    have q_bp2_0 := bp2.cell 0
    have q_bp2_1 := bp2.cell 1
    have n_bp2 := bp2.lt
    go_wp2_with fail
    clear q_bp2_0 q_bp2_1 n_bp2
    replace bp0 := bp0.alloc (.cells #[.int .i64 x0, .int .i64 y0, .slice (some ⟨gx0, 0, none⟩) l0 l0] 41)
    replace bp2 := bp2.alloc (.cells #[.int .i64 x0, .int .i64 y0, .slice (some ⟨gx0, 0, none⟩) l0 l0] 41)
    replace bw0 := bw0.alloc (.cells #[.int .i64 x0, .int .i64 y0, .slice (some ⟨gx0, 0, none⟩) l0 l0] 41)
    replace rw0 := rw0.alloc (.cells #[.int .i64 x0, .int .i64 y0, .slice (some ⟨gx0, 0, none⟩) l0 l0] 41)
    replace cpx0 := cpx0.alloc (.cells #[.int .i64 x0, .int .i64 y0, .slice (some ⟨gx0, 0, none⟩) l0 l0] 41)
    replace bl := bnext bl (Joins.below_alloc1 _ (.cells #[.int .i64 x0, .int .i64 y0, .slice (some ⟨gx0, 0, none⟩) l0 l0] 41))
    have bx0 := Box.new (w7) 41 #[.int .i64 x0, .int .i64 y0, .slice (some ⟨gx0, 0, none⟩) l0 l0]
    try simp only [World.size_alloc, World.size_drew] at bx0
    refine (K_toColumn (r2.below bl) (by omega)).mono ?_
    rintro e w8 ⟨gx2, rfl, cpx2, hb⟩
    have sz_6 := hb.size
    try simp only [World.size_alloc, World.size_drew] at sz_6
    replace bp0 := bp0.below hb
    replace bp2 := bp2.below hb
    replace bw0 := bw0.below hb
    replace rw0 := rw0.below hb
    replace cpx0 := cpx0.below hb
    replace bx0 := bx0.below hb
    replace bl := bnext bl hb
    try simp only [World.size_alloc, World.size_drew] at cpx2
    clear hb
    have q_bx0_0 := bx0.cell 0
    have q_bx0_1 := bx0.cell 1
    have q_bx0_2 := bx0.cell 2
    have n_bx0 := bx0.lt
    go_wp2_with fail
    clear q_bx0_0 q_bx0_1 q_bx0_2 n_bx0
    replace bp0 := bp0.alloc (.cells #[.slice (some ⟨gx2, 0, none⟩) l2 l2, .int .i64 x2] 38)
    replace bp2 := bp2.alloc (.cells #[.slice (some ⟨gx2, 0, none⟩) l2 l2, .int .i64 x2] 38)
    replace bw0 := bw0.alloc (.cells #[.slice (some ⟨gx2, 0, none⟩) l2 l2, .int .i64 x2] 38)
    replace rw0 := rw0.alloc (.cells #[.slice (some ⟨gx2, 0, none⟩) l2 l2, .int .i64 x2] 38)
    replace cpx0 := cpx0.alloc (.cells #[.slice (some ⟨gx2, 0, none⟩) l2 l2, .int .i64 x2] 38)
    replace bx0 := bx0.alloc (.cells #[.slice (some ⟨gx2, 0, none⟩) l2 l2, .int .i64 x2] 38)
    replace cpx2 := cpx2.alloc (.cells #[.slice (some ⟨gx2, 0, none⟩) l2 l2, .int .i64 x2] 38)
    replace bl := bnext bl (Joins.below_alloc1 _ (.cells #[.slice (some ⟨gx2, 0, none⟩) l2 l2, .int .i64 x2] 38))
    have bx2 := Box.new (w8) 38 #[.slice (some ⟨gx2, 0, none⟩) l2 l2, .int .i64 x2]
    try simp only [World.size_alloc, World.size_drew] at bx2
    refine (K_impl_NextColumn cpx0 cpx2 HM.out).mono ?_
    rintro e w9 ⟨Ag0, cg0, rfl, rg0, hb⟩
    have sz_7 := hb.size
    try simp only [World.size_alloc, World.size_drew] at sz_7
    replace bp0 := bp0.below hb
    replace bp2 := bp2.below hb
    replace bw0 := bw0.below hb
    replace rw0 := rw0.below hb
    replace cpx0 := cpx0.below hb
    replace bx0 := bx0.below hb
    replace cpx2 := cpx2.below hb
    replace bx2 := bx2.below hb
    replace bl := bnext bl hb
    clear hb
    try simp only [World.size_alloc, World.size_drew] at rg0
    have q_bw0_0 := bw0.cell 0
    have q_bw0_1 := bw0.cell 1
    have n_bw0 := bw0.lt
    go_wp2_with fail
    clear q_bw0_0 q_bw0_1 n_bw0
    replace bp0 := bp0.alloc (.cells #[.slice Ag0 xs0.length cg0, .int .i64 cl0] 38)
    replace bp2 := bp2.alloc (.cells #[.slice Ag0 xs0.length cg0, .int .i64 cl0] 38)
    replace bw0 := bw0.alloc (.cells #[.slice Ag0 xs0.length cg0, .int .i64 cl0] 38)
    replace rw0 := rw0.alloc (.cells #[.slice Ag0 xs0.length cg0, .int .i64 cl0] 38)
    replace cpx0 := cpx0.alloc (.cells #[.slice Ag0 xs0.length cg0, .int .i64 cl0] 38)
    replace bx0 := bx0.alloc (.cells #[.slice Ag0 xs0.length cg0, .int .i64 cl0] 38)
    replace cpx2 := cpx2.alloc (.cells #[.slice Ag0 xs0.length cg0, .int .i64 cl0] 38)
    replace bx2 := bx2.alloc (.cells #[.slice Ag0 xs0.length cg0, .int .i64 cl0] 38)
    replace rg0 := rg0.alloc (.cells #[.slice Ag0 xs0.length cg0, .int .i64 cl0] 38)
    replace bl := bnext bl (Joins.below_alloc1 _ (.cells #[.slice Ag0 xs0.length cg0, .int .i64 cl0] 38))
    have bg0 := Box.new (w9) 38 #[.slice Ag0 xs0.length cg0, .int .i64 cl0]
    try simp only [World.size_alloc, World.size_drew] at bg0
    refine (K_eqColumn (r := true) rg0 rw0 (by simp)).mono ?_
    rintro e w10 ⟨rfl, hb⟩
    have sz_8 := hb.size
    try simp only [World.size_alloc, World.size_drew] at sz_8
    replace bp0 := bp0.below hb
    replace bp2 := bp2.below hb
    replace bw0 := bw0.below hb
    replace rw0 := rw0.below hb
    replace cpx0 := cpx0.below hb
    replace bx0 := bx0.below hb
    replace cpx2 := cpx2.below hb
    replace bx2 := bx2.below hb
    replace rg0 := rg0.below hb
    replace bg0 := bg0.below hb
    replace bl := bnext bl hb
    clear hb
    have q_bx0_0 := bx0.cell 0
    have q_bx0_1 := bx0.cell 1
    have q_bx0_2 := bx0.cell 2
    have n_bx0 := bx0.lt
    have q_bp0_0 := bp0.cell 0
    have q_bp0_1 := bp0.cell 1
    have q_bp0_2 := bp0.cell 2
    have n_bp0 := bp0.lt
    go_wp2_with fail
    clear q_bx0_0 q_bx0_1 q_bx0_2 n_bx0 q_bp0_0 q_bp0_1 q_bp0_2 n_bp0
    have q_bx0_0 := bx0.cell 0
    have q_bx0_1 := bx0.cell 1
    have q_bx0_2 := bx0.cell 2
    have q_bp0_0 := bp0.cell 0
    have q_bp0_1 := bp0.cell 1
    have q_bp0_2 := bp0.cell 2
    simp only [List.getElem?_toArray, List.getElem?_cons_zero, List.getElem?_cons_succ] at q_bx0_0 q_bx0_1 q_bx0_2 q_bp0_0 q_bp0_1 q_bp0_2
    go_region_held3 (fun w' => Below (w10).heap.size (w10) w' ∧ w'.cell? ⟨w7.heap.size, 0, none⟩ = some (.int .i64 x0) ∧ w'.cell? ⟨w7.heap.size, 1, none⟩ = some (.int .i64 y0) ∧ w'.cell? ⟨w7.heap.size, 2, none⟩ = some (.slice (some ⟨gx0, 0, none⟩) l0 l0) ∧ w'.cell? ⟨w.heap.size, 0, none⟩ = some (.int .i64 x0) ∧ w'.cell? ⟨w.heap.size, 1, none⟩ = some (.int .i64 y0) ∧ w'.cell? ⟨w.heap.size, 2, none⟩ = some (.slice a0 l0 c0))
      (first | exact ⟨below_drewN _ _ 1, q_bx0_0, q_bx0_1, q_bx0_2, q_bp0_0, q_bp0_1, q_bp0_2⟩ | (go_split_ands; have hx := bnext (w := w10) (by assumption) (by assumption); exact ⟨hx, (bx0.below hx).cell 0, (bx0.below hx).cell 1, (bx0.below hx).cell 2, (bp0.below hx).cell 0, (bp0.below hx).cell 1, (bp0.below hx).cell 2⟩))
      (first | (go_at_call 29; go_split_ands; with_reducible refine (K_toPanel (r0.below (bnext bl (by assumption))) (by omega)).mono ?_; rintro e w11 ⟨gy100, rfl, cpy100, hby⟩) | (go_at_call 32; go_split_ands; refine (K_eqPanel (r := true) (cpx0.below (by assumption)) cpy100 (by simp)).mono ?_; rintro e w12 ⟨rfl, hbz⟩))
    clear q_bx0_0 q_bx0_1 q_bx0_2 q_bp0_0 q_bp0_1 q_bp0_2
    go_split_ands
    have hx : Below (w10).heap.size (w10) w12 := by assumption
    have sz_9 := hx.size
    try simp only [World.size_alloc, World.size_drew] at sz_9
    replace bp0 := bp0.below hx
    replace bp2 := bp2.below hx
    replace bw0 := bw0.below hx
    replace rw0 := rw0.below hx
    replace cpx0 := cpx0.below hx
    replace bx0 := bx0.below hx
    replace cpx2 := cpx2.below hx
    replace bx2 := bx2.below hx
    replace rg0 := rg0.below hx
    replace bg0 := bg0.below hx
    replace bl := bnext bl hx
    clear hx hby hbz cpy100
    have q_bx2_0 := bx2.cell 0
    have q_bx2_1 := bx2.cell 1
    have n_bx2 := bx2.lt
    have q_bp2_0 := bp2.cell 0
    have q_bp2_1 := bp2.cell 1
    have n_bp2 := bp2.lt
    go_wp2_with fail
    clear q_bx2_0 q_bx2_1 n_bx2 q_bp2_0 q_bp2_1 n_bp2
    have q_bx2_0 := bx2.cell 0
    have q_bx2_1 := bx2.cell 1
    have q_bp2_0 := bp2.cell 0
    have q_bp2_1 := bp2.cell 1
    simp only [List.getElem?_toArray, List.getElem?_cons_zero, List.getElem?_cons_succ] at q_bx2_0 q_bx2_1 q_bp2_0 q_bp2_1
    go_region_held3 (fun w' => Below (w12).heap.size (w12) w' ∧ w'.cell? ⟨w8.heap.size, 0, none⟩ = some (.slice (some ⟨gx2, 0, none⟩) l2 l2) ∧ w'.cell? ⟨w8.heap.size, 1, none⟩ = some (.int .i64 x2) ∧ w'.cell? ⟨w.heap.size + 1, 0, none⟩ = some (.slice a2 l2 c2) ∧ w'.cell? ⟨w.heap.size + 1, 1, none⟩ = some (.int .i64 x2))
      (first | exact ⟨below_drewN _ _ 1, q_bx2_0, q_bx2_1, q_bp2_0, q_bp2_1⟩ | (go_split_ands; have hx := bnext (w := w12) (by assumption) (by assumption); exact ⟨hx, (bx2.below hx).cell 0, (bx2.below hx).cell 1, (bp2.below hx).cell 0, (bp2.below hx).cell 1⟩))
      (first | (go_at_call 47; go_split_ands; with_reducible refine (K_toColumn (r2.below (bnext bl (by assumption))) (by omega)).mono ?_; rintro e w13 ⟨gy122, rfl, cpy122, hby⟩) | (go_at_call 31; go_split_ands; refine (K_eqColumn (r := true) (cpx2.below (by assumption)) cpy122 (by simp)).mono ?_; rintro e w14 ⟨rfl, hbz⟩))
    clear q_bx2_0 q_bx2_1 q_bp2_0 q_bp2_1
    go_split_ands
    have hx : Below (w12).heap.size (w12) w14 := by assumption
    have sz_10 := hx.size
    try simp only [World.size_alloc, World.size_drew] at sz_10
    replace bp0 := bp0.below hx
    replace bp2 := bp2.below hx
    replace bw0 := bw0.below hx
    replace rw0 := rw0.below hx
    replace cpx0 := cpx0.below hx
    replace bx0 := bx0.below hx
    replace cpx2 := cpx2.below hx
    replace bx2 := bx2.below hx
    replace rg0 := rg0.below hx
    replace bg0 := bg0.below hx
    replace bl := bnext bl hx
    clear hx hby hbz cpy122
    have q_bx0_0 := bx0.cell 0
    have q_bx0_1 := bx0.cell 1
    have q_bx0_2 := bx0.cell 2
    have n_bx0 := bx0.lt
    go_wp2_with fail
    clear q_bx0_0 q_bx0_1 q_bx0_2 n_bx0
    refine (K_markPanel cpx0 (by omega) (by omega)).mono ?_
    rintro e w15 ⟨rfl, cpx0', hc⟩
    clear cpx0
    have sz_11 := hc.size
    try simp only [World.size_alloc, World.size_drew] at sz_11
    replace bp0 := bp0.chg hc (by omega)
    replace bp2 := bp2.chg hc (by omega)
    replace bw0 := bw0.chg hc (by omega)
    replace rw0 := rw0.chg hc (by omega)
    replace bx0 := bx0.chg hc (by omega)
    replace cpx2 := cpx2.chg hc (by omega)
    replace bx2 := bx2.chg hc (by omega)
    replace rg0 := rg0.chg hc (by omega)
    replace bg0 := bg0.chg hc (by omega)
    replace bl := bchg bl hc (by omega)
    clear hc
    have q_bx2_0 := bx2.cell 0
    have q_bx2_1 := bx2.cell 1
    have n_bx2 := bx2.lt
    go_wp2_with fail
    clear q_bx2_0 q_bx2_1 n_bx2
    refine (K_markColumn cpx2 (by omega) (by omega)).mono ?_
    rintro e w16 ⟨rfl, cpx2', hc⟩
    clear cpx2
    have sz_12 := hc.size
    try simp only [World.size_alloc, World.size_drew] at sz_12
    replace bp0 := bp0.chg hc (by omega)
    replace bp2 := bp2.chg hc (by omega)
    replace bw0 := bw0.chg hc (by omega)
    replace rw0 := rw0.chg hc (by omega)
    replace bx0 := bx0.chg hc (by omega)
    replace bx2 := bx2.chg hc (by omega)
    replace rg0 := rg0.chg hc (by omega)
    replace bg0 := bg0.chg hc (by omega)
    replace cpx0' := cpx0'.chg hc (by omega)
    replace bl := bchg bl hc (by omega)
    clear hc
    have q_bg0_0 := bg0.cell 0
    have q_bg0_1 := bg0.cell 1
    have n_bg0 := bg0.lt
    have q_bw0_0 := bw0.cell 0
    have q_bw0_1 := bw0.cell 1
    have n_bw0 := bw0.lt
    go_wp2_with fail
    clear q_bg0_0 q_bg0_1 n_bg0 q_bw0_0 q_bw0_1 n_bw0
    refine (K_eqColumn (r := true) rg0 rw0 (by simp)).mono ?_
    rintro e w17 ⟨rfl, hb⟩
    have sz_13 := hb.size
    try simp only [World.size_alloc, World.size_drew] at sz_13
    replace bp0 := bp0.below hb
    replace bp2 := bp2.below hb
    replace bw0 := bw0.below hb
    replace rw0 := rw0.below hb
    replace bx0 := bx0.below hb
    replace bx2 := bx2.below hb
    replace rg0 := rg0.below hb
    replace bg0 := bg0.below hb
    replace cpx0' := cpx0'.below hb
    replace cpx2' := cpx2'.below hb
    replace bl := bnext bl hb
    clear hb
    have q_bg0_0 := bg0.cell 0
    have q_bg0_1 := bg0.cell 1
    have n_bg0 := bg0.lt
    go_wp2_with fail
    clear q_bg0_0 q_bg0_1 n_bg0
    refine (K_markColumn rg0 (by omega) (by omega)).mono ?_
    rintro e w18 ⟨rfl, rg0', hc⟩
    clear rg0
    have sz_14 := hc.size
    try simp only [World.size_alloc, World.size_drew] at sz_14
    replace bp0 := bp0.chg hc (by omega)
    replace bp2 := bp2.chg hc (by omega)
    replace bw0 := bw0.chg hc (by omega)
    replace rw0 := rw0.chg hc (by omega)
    replace bx0 := bx0.chg hc (by omega)
    replace bx2 := bx2.chg hc (by omega)
    replace bg0 := bg0.chg hc (by omega)
    replace cpx0' := cpx0'.chg hc (by omega)
    replace cpx2' := cpx2'.chg hc (by omega)
    replace bl := bchg bl hc (by omega)
    clear hc
    have q_bg0_0 := bg0.cell 0
    have q_bg0_1 := bg0.cell 1
    have n_bg0 := bg0.lt
    go_wp2_with fail
    clear q_bg0_0 q_bg0_1 n_bg0
    refine (K_heldColumn rg0' (by omega) (by omega)).mono ?_
    rintro e w19 ⟨rfl, hb⟩
    have sz_15 := hb.size
    try simp only [World.size_alloc, World.size_drew] at sz_15
    replace bp0 := bp0.below hb
    replace bp2 := bp2.below hb
    replace bw0 := bw0.below hb
    replace rw0 := rw0.below hb
    replace bx0 := bx0.below hb
    replace bx2 := bx2.below hb
    replace bg0 := bg0.below hb
    replace cpx0' := cpx0'.below hb
    replace cpx2' := cpx2'.below hb
    replace rg0' := rg0'.below hb
    replace bl := bnext bl hb
    clear hb
    have q_bp0_0 := bp0.cell 0
    have q_bp0_1 := bp0.cell 1
    have q_bp0_2 := bp0.cell 2
    have n_bp0 := bp0.lt
    have q_bp2_0 := bp2.cell 0
    have q_bp2_1 := bp2.cell 1
    have n_bp2 := bp2.lt
    go_wp2_with fail
    clear q_bp0_0 q_bp0_1 q_bp0_2 n_bp0 q_bp2_0 q_bp2_1 n_bp2
    have q_bp0_0 := bp0.cell 0
    have q_bp0_1 := bp0.cell 1
    have q_bp0_2 := bp0.cell 2
    have q_bp2_0 := bp2.cell 0
    have q_bp2_1 := bp2.cell 1
    simp only [List.getElem?_toArray, List.getElem?_cons_zero, List.getElem?_cons_succ] at q_bp0_0 q_bp0_1 q_bp0_2 q_bp2_0 q_bp2_1
    have n_bp0 := bp0.lt
    have n_bp2 := bp2.lt
    have KS : Hid (∀ w', Below w19.heap.size w19 w' → (Below w19.heap.size w19 w' ∧ w'.cell? ⟨w.heap.size, 0, none⟩ = some (.int .i64 x0) ∧ w'.cell? ⟨w.heap.size, 1, none⟩ = some (.int .i64 y0) ∧ w'.cell? ⟨w.heap.size, 2, none⟩ = some (.slice a0 l0 c0) ∧ w'.cell? ⟨w.heap.size + 1, 0, none⟩ = some (.slice a2 l2 c2) ∧ w'.cell? ⟨w.heap.size + 1, 1, none⟩ = some (.int .i64 x2))) := Lib.hid (fun x hx => ⟨hx, (bp0.below hx).cell 0, (bp0.below hx).cell 1, (bp0.below hx).cell 2, (bp2.below hx).cell 0, (bp2.below hx).cell 1⟩)
    have y_r0 := r0.below bl
    have y_r2 := r2.below bl
    go_cut [17, 18] (fun s17 s18 wc => ∃ (pbh0 : Nat) (Ah0 : Option Addr) (ch0 : Nat), s17 = .pointer (some ⟨pbh0, 0, none⟩) ∧ s18 = .int .i64 rn1 ∧ Box wc pbh0 38 #[.slice Ah0 xs0.length ch0, .int .i64 cl0] ∧ IntsIn wc w19.heap.size wc.heap.size (.slice Ah0 xs0.length ch0) xs0 ∧ (∀ k, Value.ownBlock (.slice Ah0 xs0.length ch0) = some k → k ≠ pbh0) ∧ w19.heap.size ≤ pbh0 ∧ Below w19.heap.size w19 wc)
    case first =>
      go_region_held3 (fun w' => Below w19.heap.size w19 w' ∧ w'.cell? ⟨w.heap.size, 0, none⟩ = some (.int .i64 x0) ∧ w'.cell? ⟨w.heap.size, 1, none⟩ = some (.int .i64 y0) ∧ w'.cell? ⟨w.heap.size, 2, none⟩ = some (.slice a0 l0 c0) ∧ w'.cell? ⟨w.heap.size + 1, 0, none⟩ = some (.slice a2 l2 c2) ∧ w'.cell? ⟨w.heap.size + 1, 1, none⟩ = some (.int .i64 x2))
        ((refine KS.out _ ?_; first | exact cut_drew | exact hB0 | exact hB2 | exact hBz | exact cut_alloc (by assumption) _ | exact cut_alloc cut_drew _ | (refine cut_set (cut_set (by assumption) ?_ _) ?_ _ <;> (first | exact Nat.le_refl _ | exact cut_le (V := w19) (by assumption))) | assumption))
        (first | (go_at_call 29; go_split_ands; (with_reducible refine (K_toPanel (y_r0.below (by assumption)) (by omega)).mono ?_); rintro e w20 ⟨gh0, rfl, cph0, hbh0⟩; have hB0 := bnext (w := w19) (by assumption) hbh0; (first | (replace cph2 := cph2.below hbh0) | (replace cph2 := (cph2.alloc _).below hbh0) | skip); (first | (replace hz := hz.below hbh0) | (have hz := (Box.new _ 38 #[.slice none 0 0, .int .i64 0]).below hbh0) | (have hz := (cut_drewbox (Box.new _ 38 #[.slice none 0 0, .int .i64 0])).below hbh0) | skip)) | (go_at_call 47; go_split_ands; (with_reducible refine (K_toColumn (y_r2.below (by assumption)) (by omega)).mono ?_); rintro e w21 ⟨gh2, rfl, cph2, hbh2⟩; have hB2 := bnext (w := w19) (by assumption) hbh2; (first | (replace cph0 := cph0.below hbh2) | (replace cph0 := (cph0.alloc _).below hbh2) | skip); (first | (replace hz := hz.below hbh2) | (have hz := (Box.new _ 38 #[.slice none 0 0, .int .i64 0]).below hbh2) | (have hz := (cut_drewbox (Box.new _ 38 #[.slice none 0 0, .int .i64 0])).below hbh2) | skip)) | (go_at_call 48; go_split_ands; have hBp := cut_le (V := w19) (by assumption); (first | have hzl := hz.lt | skip); (first | refine (K_impl_NextColumn cph0 cph2 HM.out).mono ?_ | refine (K_impl_NextColumn (cph0.alloc _) (cph2.alloc _) HM.out).mono ?_); rintro e w22 ⟨Ah0, ch0, rfl, rh0, hbz⟩; have hBz := bnext (w := w19) (by assumption) hbz; (first | (replace cph0 := cph0.below hbz) | (replace cph0 := (cph0.alloc _).below hbz) | skip); (first | (replace cph2 := cph2.below hbz) | (replace cph2 := (cph2.alloc _).below hbz) | skip); (first | (replace hz := hz.below hbz) | (have hz := (Box.new _ 38 #[.slice none 0 0, .int .i64 0]).below hbz) | (have hz := (cut_drewbox (Box.new _ 38 #[.slice none 0 0, .int .i64 0])).below hbz) | skip); try (skip; have z0 := hz.cell 0; have y0 := hz.free 0; have z1 := hz.cell 1; have y1 := hz.free 1; have zn := hz.lt)))
      all_goals go_wp2_with fail
      all_goals go_meet
      all_goals exact ⟨_, _, _, rfl, rfl, by first | exact Box.new _ _ _ | exact cut_box2 hz _ _, by first | exact (rh0.alloc _).wider (by omega) (by simp) (Nat.le_refl _) | exact rh0.wider (by omega) (by simp) (Nat.le_refl _) | (refine IntsIn.wider (IntsIn.cut_set (IntsIn.cut_set rh0 ?_ _) ?_ _) ?_ (by simp) (Nat.le_refl _) <;> first | omega | (intro k hk; have h1 := (Row.lt rh0.1 hk).1; (try simp only [World.size_alloc, World.size_drew, World.size_setCell] at h1 ⊢); (try dsimp only); (first | omega | (have := hzl; omega)))), (by intro k hk; have h1 := (Row.lt rh0.1 hk).1; have h2 := rh0.2.1 k hk; (try simp only [World.size_alloc, World.size_drew, World.size_setCell] at h1 h2 ⊢); (first | omega | (have := hzl; omega))), by first | exact Nat.le_refl _ | exact cut_le (V := w19) (by assumption), by first | exact cut_alloc (by assumption) _ | exact cut_set (cut_set (by assumption) (by first | exact Nat.le_refl _ | exact cut_le (V := w19) (by assumption)) _) (by first | exact Nat.le_refl _ | exact cut_le (V := w19) (by assumption)) _⟩
    case rest =>
      obtain ⟨pbh0, Ah0, ch0, rfl, rfl, bh0, rh0, rh0n, hle, hx⟩ := hcut
      obtain ⟨w23, hW4⟩ : ∃ x, x = wc := ⟨wc, rfl⟩
      subst hW4
      have lt_bh0 := bh0.lt
      replace bp0 := bp0.below hx
      replace bp2 := bp2.below hx
      replace bw0 := bw0.below hx
      replace rw0 := rw0.below hx
      replace bx0 := bx0.below hx
      replace bx2 := bx2.below hx
      replace bg0 := bg0.below hx
      replace cpx0' := cpx0'.below hx
      replace cpx2' := cpx2'.below hx
      replace rg0' := rg0'.below hx
      replace bl := bnext bl hx
      have sz_16 := hx.size
      have sz_17 := hle
      clear hx hle KS y_r0 y_r2 q_bp0_0 q_bp0_1 q_bp0_2 q_bp2_0 q_bp2_1 n_bp0 n_bp2
      have q_bh0_0 := bh0.cell 0
      have q_bh0_1 := bh0.cell 1
      have n_bh0 := bh0.lt
      have q_bw0_0 := bw0.cell 0
      have q_bw0_1 := bw0.cell 1
      have n_bw0 := bw0.lt
      go_wp2_with fail
      clear q_bh0_0 q_bh0_1 n_bh0 q_bw0_0 q_bw0_1 n_bw0
      refine (K_eqColumn (r := true) rh0 rw0 (by simp)).mono ?_
      rintro e w24 ⟨rfl, hb⟩
      have sz_18 := hb.size
      try simp only [World.size_alloc, World.size_drew] at sz_18
      replace bp0 := bp0.below hb
      replace bp2 := bp2.below hb
      replace bw0 := bw0.below hb
      replace rw0 := rw0.below hb
      replace bx0 := bx0.below hb
      replace bx2 := bx2.below hb
      replace bg0 := bg0.below hb
      replace cpx0' := cpx0'.below hb
      replace cpx2' := cpx2'.below hb
      replace rg0' := rg0'.below hb
      replace bh0 := bh0.below hb
      replace rh0 := rh0.below hb
      replace bl := bnext bl hb
      clear hb
      have q_bg0_0 := bg0.cell 0
      have q_bg0_1 := bg0.cell 1
      have n_bg0 := bg0.lt
      go_wp2_with fail
      clear q_bg0_0 q_bg0_1 n_bg0
      refine (K_heldColumn rg0' (by omega) (by omega)).mono ?_
      rintro e w25 ⟨rfl, hb⟩
      have sz_19 := hb.size
      try simp only [World.size_alloc, World.size_drew] at sz_19
      replace bp0 := bp0.below hb
      replace bp2 := bp2.below hb
      replace bw0 := bw0.below hb
      replace rw0 := rw0.below hb
      replace bx0 := bx0.below hb
      replace bx2 := bx2.below hb
      replace bg0 := bg0.below hb
      replace cpx0' := cpx0'.below hb
      replace cpx2' := cpx2'.below hb
      replace rg0' := rg0'.below hb
      replace bh0 := bh0.below hb
      replace rh0 := rh0.below hb
      replace bl := bnext bl hb
      clear hb
      go_wp2_with fail
      go_ret
      exact ⟨rfl, bl⟩
end Go.Proofs.Ytnldahadldolpaa
