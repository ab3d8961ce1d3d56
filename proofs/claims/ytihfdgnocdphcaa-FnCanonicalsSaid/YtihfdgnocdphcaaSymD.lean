/-
  Panels alike up to a symmetry (AlikePanels), by the reference.
-/
import Derived.Test.YtihfdgnocdphcaaSymC
import Derived.Test.YtihfdgnocdphcaaSamP
namespace Go.Proofs.Ytihfdgnocdphcaa
open Go.RowKit Knot

open Classical in
/-- What AlikePanels answers. -/
noncomputable def alikeM (p q : Pan) : Bool := decide (Ok p ∧ Ok q ∧ (leastTo p 7).W = (leastTo q 7).W ∧ (leastTo p 7).H = (leastTo q 7).H ∧ (leastTo p 7).B = (leastTo q 7).B)
set_option maxHeartbeats 4000000 in
theorem K_spec_AlikePanels {w : World} {lo hi lo' hi' : Nat} {x y x' y' : Int} {v u : Value} {xs ys : List Int} {r : Bool} (hp : IntsIn w lo hi v xs) (hq : IntsIn w lo' hi' u ys) (hm : alikeM ⟨x, y, xs⟩ ⟨x', y', ys⟩ = r) :
    Calls Try.prog 37 #[.agg #[.int .i64 x, .int .i64 y, v], .agg #[.int .i64 x', .int .i64 y', u]] w fun e w' => e = .returned (.bool r) ∧ Below w.heap.size w w' := by
  obtain ⟨A, cA, rfl, _, _⟩ := hp.1.open_
  obtain ⟨D, cD, rfl, _, _⟩ := hq.1.open_
  have bl := Joins.below_alloc2 w (.cells #[.int .i64 x, .int .i64 y, .slice A xs.length cA] 30) (.cells #[.int .i64 x', .int .i64 y', .slice D ys.length cD] 30)
  have ba := (Box.new w 30 #[.int .i64 x, .int .i64 y, .slice A xs.length cA]).alloc (.cells #[.int .i64 x', .int .i64 y', .slice D ys.length cD] 30)
  have bb := Box.new (w.alloc (.cells #[.int .i64 x, .int .i64 y, .slice A xs.length cA] 30)) 30 #[.int .i64 x', .int .i64 y', .slice D ys.length cD]
  rw [World.size_alloc] at bb
  have hp1 := hp.below bl
  have hq1 := hq.below bl
  clear hp hq
  by_cases ho : Ok ⟨x, y, xs⟩
  rotate_left
  · obtain rfl : false = r := by simpa [alikeM, ho] using hm
    have HO := Lib.hid ho
    clear hm ho
    go_enter Try.func37, Try.ntmps37
    go_wp2_with fail
    refine (l02Ok_any _ x y _ xs false (no_iff HO.out) _ ⟨ba, hp1.ints⟩).mono ?_
    rintro e w2 ⟨rfl, hd⟩
    have hb := bdrawn hd
    clear hd
    replace bl := bnext bl hb
    clear ba bb hb
    go_wp2
    go_ret
    exact ⟨rfl, bl⟩
  by_cases hk : Ok ⟨x', y', ys⟩
  rotate_left
  · obtain rfl : false = r := by simpa [alikeM, ho, hk] using hm
    have HO := Lib.hid ho
    have HK := Lib.hid hk
    clear hm ho hk
    go_enter Try.func37, Try.ntmps37
    go_wp2_with fail
    refine (l02Ok_any _ x y _ xs true (yes_iff HO.out) _ ⟨ba, hp1.ints⟩).mono ?_
    rintro e w2 ⟨rfl, hd⟩
    have hb := bdrawn hd
    clear hd
    replace bl := bnext bl hb
    replace bb := bb.below hb
    replace hq1 := hq1.below hb
    clear ba hb
    go_wp2_with fail
    refine (l02Ok_any _ x' y' _ ys false (no_iff HK.out) _ ⟨bb, hq1.ints⟩).mono ?_
    rintro e w3 ⟨rfl, hd⟩
    have hb := bdrawn hd
    clear hd
    replace bl := bnext bl hb
    clear bb hb
    go_wp2
    go_ret
    exact ⟨rfl, bl⟩
  have HM : Hid (r = true ↔ ((leastTo ⟨x, y, xs⟩ 7).W = (leastTo ⟨x', y', ys⟩ 7).W ∧ (leastTo ⟨x, y, xs⟩ 7).H = (leastTo ⟨x', y', ys⟩ 7).H ∧ (leastTo ⟨x, y, xs⟩ 7).B = (leastTo ⟨x', y', ys⟩ 7).B)) := Lib.hid (by subst hm; simp [alikeM, ho, hk])
  have HO := Lib.hid ho
  have HK := Lib.hid hk
  clear hm ho hk
  go_enter Try.func37, Try.ntmps37
  go_wp2_with fail
  refine (l02Ok_any _ x y _ xs true (yes_iff HO.out) _ ⟨ba, hp1.ints⟩).mono ?_
  rintro e w2 ⟨rfl, hd⟩
  have hb := bdrawn hd
  clear hd
  replace bl := bnext bl hb
  replace ba := ba.below hb
  replace bb := bb.below hb
  replace hp1 := hp1.below hb
  replace hq1 := hq1.below hb
  clear hb
  go_wp2_with fail
  refine (l02Ok_any _ x' y' _ ys true (yes_iff HK.out) _ ⟨bb, hq1.ints⟩).mono ?_
  rintro e w3 ⟨rfl, hd⟩
  have hb := bdrawn hd
  clear hd
  replace bl := bnext bl hb
  replace ba := ba.below hb
  replace bb := bb.below hb
  replace hp1 := hp1.below hb
  replace hq1 := hq1.below hb
  clear hb
  go_wp2_with fail
  refine (l06Least_any ba hp1 HO.out).mono ?_
  rintro e w4 ⟨E, c, rfl, i4, hb⟩
  replace bl := bnext bl hb
  replace bb := bb.below hb
  replace hq1 := hq1.below hb
  clear hb ba hp1
  replace bl := bnext bl (Joins.below_alloc1 _ (.cells #[.int .i64 (leastTo ⟨x, y, xs⟩ 7).W, .int .i64 (leastTo ⟨x, y, xs⟩ 7).H, .slice E xs.length c] 30))
  have bx := Box.new w4 30 #[.int .i64 (leastTo ⟨x, y, xs⟩ 7).W, .int .i64 (leastTo ⟨x, y, xs⟩ 7).H, .slice E xs.length c]
  replace bb := bb.alloc (.cells #[.int .i64 (leastTo ⟨x, y, xs⟩ 7).W, .int .i64 (leastTo ⟨x, y, xs⟩ 7).H, .slice E xs.length c] 30)
  replace hq1 := hq1.alloc (.cells #[.int .i64 (leastTo ⟨x, y, xs⟩ 7).W, .int .i64 (leastTo ⟨x, y, xs⟩ 7).H, .slice E xs.length c] 30)
  replace i4 := i4.alloc (.cells #[.int .i64 (leastTo ⟨x, y, xs⟩ 7).W, .int .i64 (leastTo ⟨x, y, xs⟩ 7).H, .slice E xs.length c] 30)
  go_wp2_with fail
  refine (l06Least_any bb hq1 HK.out).mono ?_
  rintro e w5 ⟨F, d, rfl, i5, hb⟩
  replace bl := bnext bl hb
  replace bx := bx.below hb
  replace i4 := i4.below hb
  clear hb bb hq1
  have by_ := Box.new w5 30 #[.int .i64 (leastTo ⟨x', y', ys⟩ 7).W, .int .i64 (leastTo ⟨x', y', ys⟩ 7).H, .slice F ys.length d]
  replace bl := bnext bl (Joins.below_alloc1 _ (.cells #[.int .i64 (leastTo ⟨x', y', ys⟩ 7).W, .int .i64 (leastTo ⟨x', y', ys⟩ 7).H, .slice F ys.length d] 30))
  replace bx := bx.alloc (.cells #[.int .i64 (leastTo ⟨x', y', ys⟩ 7).W, .int .i64 (leastTo ⟨x', y', ys⟩ 7).H, .slice F ys.length d] 30)
  replace i4 := i4.alloc (.cells #[.int .i64 (leastTo ⟨x', y', ys⟩ 7).W, .int .i64 (leastTo ⟨x', y', ys⟩ 7).H, .slice F ys.length d] 30)
  replace i5 := i5.alloc (.cells #[.int .i64 (leastTo ⟨x', y', ys⟩ 7).W, .int .i64 (leastTo ⟨x', y', ys⟩ 7).H, .slice F ys.length d] 30)
  go_wp2_with fail
  refine (l02Same_any bx by_ i4.1 i5.1 HM.out).mono ?_
  rintro e w6 ⟨rfl, hd⟩
  have hb := bdrawn hd
  clear hd
  replace bl := bnext bl hb
  clear bx by_ i4 i5 hb
  go_wp2
  go_ret
  exact ⟨rfl, bl⟩
end Go.Proofs.Ytihfdgnocdphcaa
