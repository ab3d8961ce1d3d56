/-
  The law FnCanonicals, walked.
-/
import Derived.Test.YtihfdgnocdphcaaTopS
import Derived.Test.YtihfdgnocdphcaaTopC
import Derived.Test.YtihfdgnocdphcaaSymI
import Derived.Deep.DeepCutAuto
import Derived.Deep.RegionHeld3
namespace Go.Proofs.Ytihfdgnocdphcaa
open Go.RowKit Knot

theorem yes3 {x y : Int} {xs : List Int} : true = true ↔ (x = x ∧ y = y ∧ xs = xs) := by simp
set_option maxRecDepth 100000 in
set_option maxHeartbeats 16000000 in
theorem FnCanonicals_walk (a0 : Option Addr) (l0 : Nat) (c0 : Nat) (z0 : List Int) (w : World) (r0 : IsRow .u8 w a0 l0 c0 z0) :
    Calls Try.prog 11 #[.slice a0 l0 c0] w fun e w' => e = .returned (.bool true) ∧ Below w.heap.size w w' := by
  obtain ⟨big, hbig⟩ : ∃ big, decide ((4096 : Int) < l0) = big := ⟨_, rfl⟩
  have HBIG := Lib.hid hbig
  clear hbig
  go_enter Try.func11, Try.ntmps11
  go_wp2_with fail
  refine (f6big_any a0 l0 c0 w).mono ?_
  rintro e w' ⟨rfl, rfl⟩
  rw [HBIG.out]
  cases big
  rotate_left
  · go_wp2_with fail
    go_ret
    exact ⟨rfl, Below.refl _ _⟩
  have bl := Below.refl w.heap.size w
  go_wp2_with fail
  refine (DrawCanonicalPanel_any r0).mono ?_
  rintro e w2 ⟨X, Y, A, cp, B, rfl, hI, hb⟩
  replace r0 := r0.below hb
  replace bl := bnext bl hb
  clear hb
  obtain ⟨⟨X1, Y1, zs, bad⟩, hm⟩ : ∃ q, canM ⟨X, Y, B⟩ = q := ⟨_, rfl⟩
  have HC := Lib.hid hm
  clear hm
  have O := Joins.below_alloc1 w2 (.cells #[.int .i64 X, .int .i64 Y, .slice A B.length cp] 30)
  have bp := (Box.new w2 30 #[.int .i64 X, .int .i64 Y, .slice A B.length cp])
  replace r0 := r0.below O
  replace hI := hI.below O
  replace bl := bnext bl O
  clear O
  obtain ⟨pp, hpp⟩ : ∃ x, w2.heap.size = x := ⟨_, rfl⟩
  rw [hpp] at bp
  have p0 := bp.cell 0
  have p1 := bp.cell 1
  have p2 := bp.cell 2
  have pn := bp.lt
  simp only [List.getElem?_toArray, List.getElem?_cons_zero, List.getElem?_cons_succ] at p0 p1 p2
  go_wp2_with fail
  try rw [hpp]
  generalize hV : w2.alloc (.cells #[.int .i64 X, .int .i64 Y, .slice A B.length cp] 30) = V3 at *
  clear hV hpp
  refine (K_impl_CanonicalPanel hI HC.out).mono ?_
  rintro e w3 ⟨A1, c1, rfl, hX, hb⟩
  clear p0 p1 p2 pn
  replace r0 := r0.below hb
  replace hI := hI.below hb
  replace bp := bp.below hb
  replace bl := bnext bl hb
  clear hb
  have O := Joins.below_alloc1 w3 (.cells #[.int .i64 X1, .int .i64 Y1, .slice A1 zs.length c1] 30)
  have bx := (Box.new w3 30 #[.int .i64 X1, .int .i64 Y1, .slice A1 zs.length c1])
  replace r0 := r0.below O
  replace hI := hI.below O
  replace hX := hX.below O
  replace bp := bp.below O
  replace bl := bnext bl O
  clear O
  obtain ⟨px, hpx⟩ : ∃ x, w3.heap.size = x := ⟨_, rfl⟩
  rw [hpx] at bx
  have p0 := bp.cell 0
  have p1 := bp.cell 1
  have p2 := bp.cell 2
  have pn := bp.lt
  simp only [List.getElem?_toArray, List.getElem?_cons_zero, List.getElem?_cons_succ] at p0 p1 p2
  have x0 := bx.cell 0
  have x1 := bx.cell 1
  have x2 := bx.cell 2
  have xn := bx.lt
  simp only [List.getElem?_toArray, List.getElem?_cons_zero, List.getElem?_cons_succ] at x0 x1 x2
  go_wp2_with fail
  try rw [hpx]
  generalize hV : w3.alloc (.cells #[.int .i64 X1, .int .i64 Y1, .slice A1 zs.length c1] 30) = V4 at *
  clear hV hpx
  refine (K_spec_CanonicalPanel hI HC.out).mono ?_
  rintro e w4 ⟨A2, c2, rfl, hY, hb⟩
  clear p0 p1 p2 pn x0 x1 x2 xn
  replace r0 := r0.below hb
  replace hI := hI.below hb
  replace hX := hX.below hb
  replace bp := bp.below hb
  replace bx := bx.below hb
  replace bl := bnext bl hb
  clear hb
  have O := Joins.below_alloc1 w4 (.cells #[.int .i64 X1, .int .i64 Y1, .slice A2 zs.length c2] 30)
  have by_ := (Box.new w4 30 #[.int .i64 X1, .int .i64 Y1, .slice A2 zs.length c2])
  replace r0 := r0.below O
  replace hI := hI.below O
  replace hX := hX.below O
  replace hY := hY.below O
  replace bp := bp.below O
  replace bx := bx.below O
  replace bl := bnext bl O
  clear O
  obtain ⟨py, hpy⟩ : ∃ x, w4.heap.size = x := ⟨_, rfl⟩
  rw [hpy] at by_
  have p0 := bp.cell 0
  have p1 := bp.cell 1
  have p2 := bp.cell 2
  have pn := bp.lt
  simp only [List.getElem?_toArray, List.getElem?_cons_zero, List.getElem?_cons_succ] at p0 p1 p2
  have x0 := bx.cell 0
  have x1 := bx.cell 1
  have x2 := bx.cell 2
  have xn := bx.lt
  simp only [List.getElem?_toArray, List.getElem?_cons_zero, List.getElem?_cons_succ] at x0 x1 x2
  have y0 := by_.cell 0
  have y1 := by_.cell 1
  have y2 := by_.cell 2
  have yn := by_.lt
  simp only [List.getElem?_toArray, List.getElem?_cons_zero, List.getElem?_cons_succ] at y0 y1 y2
  go_wp2_with fail
  try rw [hpy]
  generalize hV : w4.alloc (.cells #[.int .i64 X1, .int .i64 Y1, .slice A2 zs.length c2] 30) = V5 at *
  clear hV hpy
  refine (DrawAlikePanels_any r0).mono ?_
  rintro e w5 ⟨Xa, Ya, Xb, Yb, Aa, Ab, ca, cb, Ba, Bb, rfl, hA, hB, hb⟩
  clear p0 p1 p2 pn x0 x1 x2 xn y0 y1 y2 yn
  replace r0 := r0.below hb
  replace hI := hI.below hb
  replace hX := hX.below hb
  replace hY := hY.below hb
  replace bp := bp.below hb
  replace bx := bx.below hb
  replace by_ := by_.below hb
  replace bl := bnext bl hb
  clear hb
  have O := Joins.below_alloc2 w5 (.cells #[.int .i64 Xa, .int .i64 Ya, .slice Aa Ba.length ca] 30) (.cells #[.int .i64 Xb, .int .i64 Yb, .slice Ab Bb.length cb] 30)
  have ba := ((Box.new w5 30 #[.int .i64 Xa, .int .i64 Ya, .slice Aa Ba.length ca]).alloc (.cells #[.int .i64 Xb, .int .i64 Yb, .slice Ab Bb.length cb] 30))
  have bb := (Box.new (w5.alloc (.cells #[.int .i64 Xa, .int .i64 Ya, .slice Aa Ba.length ca] 30)) 30 #[.int .i64 Xb, .int .i64 Yb, .slice Ab Bb.length cb])
  rw [World.size_alloc] at bb
  replace r0 := r0.below O
  replace hI := hI.below O
  replace hX := hX.below O
  replace hY := hY.below O
  replace hA := hA.below O
  replace hB := hB.below O
  replace bp := bp.below O
  replace bx := bx.below O
  replace by_ := by_.below O
  replace bl := bnext bl O
  clear O
  obtain ⟨pa, hpa⟩ : ∃ x, w5.heap.size = x := ⟨_, rfl⟩
  rw [hpa] at ba bb
  have p0 := bp.cell 0
  have p1 := bp.cell 1
  have p2 := bp.cell 2
  have pn := bp.lt
  simp only [List.getElem?_toArray, List.getElem?_cons_zero, List.getElem?_cons_succ] at p0 p1 p2
  have x0 := bx.cell 0
  have x1 := bx.cell 1
  have x2 := bx.cell 2
  have xn := bx.lt
  simp only [List.getElem?_toArray, List.getElem?_cons_zero, List.getElem?_cons_succ] at x0 x1 x2
  have y0 := by_.cell 0
  have y1 := by_.cell 1
  have y2 := by_.cell 2
  have yn := by_.lt
  simp only [List.getElem?_toArray, List.getElem?_cons_zero, List.getElem?_cons_succ] at y0 y1 y2
  have a_0 := ba.cell 0
  have a_1 := ba.cell 1
  have a_2 := ba.cell 2
  have a_n := ba.lt
  simp only [List.getElem?_toArray, List.getElem?_cons_zero, List.getElem?_cons_succ] at a_0 a_1 a_2
  have b_0 := bb.cell 0
  have b_1 := bb.cell 1
  have b_2 := bb.cell 2
  have b_n := bb.lt
  simp only [List.getElem?_toArray, List.getElem?_cons_zero, List.getElem?_cons_succ] at b_0 b_1 b_2
  go_wp2_with fail
  try rw [hpa]
  generalize hV : (w5.alloc (.cells #[.int .i64 Xa, .int .i64 Ya, .slice Aa Ba.length ca] 30)).alloc (.cells #[.int .i64 Xb, .int .i64 Yb, .slice Ab Bb.length cb] 30) = V6 at *
  clear hV hpa
  refine (DrawComparePanels_any r0).mono ?_
  rintro e w6 ⟨Xc, Yc, Xd, Yd, Ac, Ad, cc, cd, Bc, Bd, rfl, hC, hD, hb⟩
  clear p0 p1 p2 pn x0 x1 x2 xn y0 y1 y2 yn a_0 a_1 a_2 a_n b_0 b_1 b_2 b_n
  replace r0 := r0.below hb
  replace hI := hI.below hb
  replace hX := hX.below hb
  replace hY := hY.below hb
  replace hA := hA.below hb
  replace hB := hB.below hb
  replace bp := bp.below hb
  replace bx := bx.below hb
  replace by_ := by_.below hb
  replace ba := ba.below hb
  replace bb := bb.below hb
  replace bl := bnext bl hb
  clear hb
  have O := Joins.below_alloc2 w6 (.cells #[.int .i64 Xc, .int .i64 Yc, .slice Ac Bc.length cc] 30) (.cells #[.int .i64 Xd, .int .i64 Yd, .slice Ad Bd.length cd] 30)
  have bc := ((Box.new w6 30 #[.int .i64 Xc, .int .i64 Yc, .slice Ac Bc.length cc]).alloc (.cells #[.int .i64 Xd, .int .i64 Yd, .slice Ad Bd.length cd] 30))
  have bd := (Box.new (w6.alloc (.cells #[.int .i64 Xc, .int .i64 Yc, .slice Ac Bc.length cc] 30)) 30 #[.int .i64 Xd, .int .i64 Yd, .slice Ad Bd.length cd])
  rw [World.size_alloc] at bd
  replace r0 := r0.below O
  replace hI := hI.below O
  replace hX := hX.below O
  replace hY := hY.below O
  replace hA := hA.below O
  replace hB := hB.below O
  replace hC := hC.below O
  replace hD := hD.below O
  replace bp := bp.below O
  replace bx := bx.below O
  replace by_ := by_.below O
  replace ba := ba.below O
  replace bb := bb.below O
  replace bl := bnext bl O
  clear O
  obtain ⟨pc, hpc⟩ : ∃ x, w6.heap.size = x := ⟨_, rfl⟩
  rw [hpc] at bc bd
  have p0 := bp.cell 0
  have p1 := bp.cell 1
  have p2 := bp.cell 2
  have pn := bp.lt
  simp only [List.getElem?_toArray, List.getElem?_cons_zero, List.getElem?_cons_succ] at p0 p1 p2
  have x0 := bx.cell 0
  have x1 := bx.cell 1
  have x2 := bx.cell 2
  have xn := bx.lt
  simp only [List.getElem?_toArray, List.getElem?_cons_zero, List.getElem?_cons_succ] at x0 x1 x2
  have y0 := by_.cell 0
  have y1 := by_.cell 1
  have y2 := by_.cell 2
  have yn := by_.lt
  simp only [List.getElem?_toArray, List.getElem?_cons_zero, List.getElem?_cons_succ] at y0 y1 y2
  have a_0 := ba.cell 0
  have a_1 := ba.cell 1
  have a_2 := ba.cell 2
  have a_n := ba.lt
  simp only [List.getElem?_toArray, List.getElem?_cons_zero, List.getElem?_cons_succ] at a_0 a_1 a_2
  have b_0 := bb.cell 0
  have b_1 := bb.cell 1
  have b_2 := bb.cell 2
  have b_n := bb.lt
  simp only [List.getElem?_toArray, List.getElem?_cons_zero, List.getElem?_cons_succ] at b_0 b_1 b_2
  have c_0 := bc.cell 0
  have c_1 := bc.cell 1
  have c_2 := bc.cell 2
  have c_n := bc.lt
  simp only [List.getElem?_toArray, List.getElem?_cons_zero, List.getElem?_cons_succ] at c_0 c_1 c_2
  have d_0 := bd.cell 0
  have d_1 := bd.cell 1
  have d_2 := bd.cell 2
  have d_n := bd.lt
  simp only [List.getElem?_toArray, List.getElem?_cons_zero, List.getElem?_cons_succ] at d_0 d_1 d_2
  go_wp2_with fail
  try rw [hpc]
  generalize hV : (w6.alloc (.cells #[.int .i64 Xc, .int .i64 Yc, .slice Ac Bc.length cc] 30)).alloc (.cells #[.int .i64 Xd, .int .i64 Yd, .slice Ad Bd.length cd] 30) = V7 at *
  clear hV hpc
  refine (DrawSymmetricPanel_any r0).mono ?_
  rintro e w7 ⟨Xs, Ys, As, cs, Bs, sym, rfl, hS, hb⟩
  clear p0 p1 p2 pn x0 x1 x2 xn y0 y1 y2 yn a_0 a_1 a_2 a_n b_0 b_1 b_2 b_n c_0 c_1 c_2 c_n d_0 d_1 d_2 d_n
  replace r0 := r0.below hb
  replace hI := hI.below hb
  replace hX := hX.below hb
  replace hY := hY.below hb
  replace hA := hA.below hb
  replace hB := hB.below hb
  replace hC := hC.below hb
  replace hD := hD.below hb
  replace bp := bp.below hb
  replace bx := bx.below hb
  replace by_ := by_.below hb
  replace ba := ba.below hb
  replace bb := bb.below hb
  replace bc := bc.below hb
  replace bd := bd.below hb
  replace bl := bnext bl hb
  clear hb
  clear r0
  obtain ⟨⟨X3, Y3, us, one⟩, hm⟩ : ∃ q, symM ⟨Xs, Ys, Bs⟩ sym = q := ⟨_, rfl⟩
  have HS := Lib.hid hm
  clear hm
  have O := Joins.below_alloc1 w7 (.cells #[.int .i64 Xs, .int .i64 Ys, .slice As Bs.length cs] 30)
  have bs := (Box.new w7 30 #[.int .i64 Xs, .int .i64 Ys, .slice As Bs.length cs])
  replace hI := hI.below O
  replace hX := hX.below O
  replace hY := hY.below O
  replace hA := hA.below O
  replace hB := hB.below O
  replace hC := hC.below O
  replace hD := hD.below O
  replace hS := hS.below O
  replace bp := bp.below O
  replace bx := bx.below O
  replace by_ := by_.below O
  replace ba := ba.below O
  replace bb := bb.below O
  replace bc := bc.below O
  replace bd := bd.below O
  replace bl := bnext bl O
  clear O
  obtain ⟨ps, hps⟩ : ∃ x, w7.heap.size = x := ⟨_, rfl⟩
  rw [hps] at bs
  have p0 := bp.cell 0
  have p1 := bp.cell 1
  have p2 := bp.cell 2
  have pn := bp.lt
  simp only [List.getElem?_toArray, List.getElem?_cons_zero, List.getElem?_cons_succ] at p0 p1 p2
  have x0 := bx.cell 0
  have x1 := bx.cell 1
  have x2 := bx.cell 2
  have xn := bx.lt
  simp only [List.getElem?_toArray, List.getElem?_cons_zero, List.getElem?_cons_succ] at x0 x1 x2
  have y0 := by_.cell 0
  have y1 := by_.cell 1
  have y2 := by_.cell 2
  have yn := by_.lt
  simp only [List.getElem?_toArray, List.getElem?_cons_zero, List.getElem?_cons_succ] at y0 y1 y2
  have a_0 := ba.cell 0
  have a_1 := ba.cell 1
  have a_2 := ba.cell 2
  have a_n := ba.lt
  simp only [List.getElem?_toArray, List.getElem?_cons_zero, List.getElem?_cons_succ] at a_0 a_1 a_2
  have b_0 := bb.cell 0
  have b_1 := bb.cell 1
  have b_2 := bb.cell 2
  have b_n := bb.lt
  simp only [List.getElem?_toArray, List.getElem?_cons_zero, List.getElem?_cons_succ] at b_0 b_1 b_2
  have c_0 := bc.cell 0
  have c_1 := bc.cell 1
  have c_2 := bc.cell 2
  have c_n := bc.lt
  simp only [List.getElem?_toArray, List.getElem?_cons_zero, List.getElem?_cons_succ] at c_0 c_1 c_2
  have d_0 := bd.cell 0
  have d_1 := bd.cell 1
  have d_2 := bd.cell 2
  have d_n := bd.lt
  simp only [List.getElem?_toArray, List.getElem?_cons_zero, List.getElem?_cons_succ] at d_0 d_1 d_2
  have s_0 := bs.cell 0
  have s_1 := bs.cell 1
  have s_2 := bs.cell 2
  have s_n := bs.lt
  simp only [List.getElem?_toArray, List.getElem?_cons_zero, List.getElem?_cons_succ] at s_0 s_1 s_2
  go_wp2_with fail
  try rw [hps]
  generalize hV : w7.alloc (.cells #[.int .i64 Xs, .int .i64 Ys, .slice As Bs.length cs] 30) = V8 at *
  clear hV hps
  refine (K_impl_SymmetricPanel hS HS.out).mono ?_
  rintro e w8 ⟨A4, c4, rfl, hU, hb⟩
  clear p0 p1 p2 pn x0 x1 x2 xn y0 y1 y2 yn a_0 a_1 a_2 a_n b_0 b_1 b_2 b_n c_0 c_1 c_2 c_n d_0 d_1 d_2 d_n s_0 s_1 s_2 s_n
  replace hI := hI.below hb
  replace hX := hX.below hb
  replace hY := hY.below hb
  replace hA := hA.below hb
  replace hB := hB.below hb
  replace hC := hC.below hb
  replace hD := hD.below hb
  replace hS := hS.below hb
  replace bp := bp.below hb
  replace bx := bx.below hb
  replace by_ := by_.below hb
  replace ba := ba.below hb
  replace bb := bb.below hb
  replace bc := bc.below hb
  replace bd := bd.below hb
  replace bs := bs.below hb
  replace bl := bnext bl hb
  clear hb
  have O := Joins.below_alloc1 w8 (.cells #[.int .i64 X3, .int .i64 Y3, .slice A4 us.length c4] 30)
  have bu := (Box.new w8 30 #[.int .i64 X3, .int .i64 Y3, .slice A4 us.length c4])
  replace hI := hI.below O
  replace hX := hX.below O
  replace hY := hY.below O
  replace hA := hA.below O
  replace hB := hB.below O
  replace hC := hC.below O
  replace hD := hD.below O
  replace hS := hS.below O
  replace hU := hU.below O
  replace bp := bp.below O
  replace bx := bx.below O
  replace by_ := by_.below O
  replace ba := ba.below O
  replace bb := bb.below O
  replace bc := bc.below O
  replace bd := bd.below O
  replace bs := bs.below O
  replace bl := bnext bl O
  clear O
  obtain ⟨pu, hpu⟩ : ∃ x, w8.heap.size = x := ⟨_, rfl⟩
  rw [hpu] at bu
  have p0 := bp.cell 0
  have p1 := bp.cell 1
  have p2 := bp.cell 2
  have pn := bp.lt
  simp only [List.getElem?_toArray, List.getElem?_cons_zero, List.getElem?_cons_succ] at p0 p1 p2
  have x0 := bx.cell 0
  have x1 := bx.cell 1
  have x2 := bx.cell 2
  have xn := bx.lt
  simp only [List.getElem?_toArray, List.getElem?_cons_zero, List.getElem?_cons_succ] at x0 x1 x2
  have y0 := by_.cell 0
  have y1 := by_.cell 1
  have y2 := by_.cell 2
  have yn := by_.lt
  simp only [List.getElem?_toArray, List.getElem?_cons_zero, List.getElem?_cons_succ] at y0 y1 y2
  have a_0 := ba.cell 0
  have a_1 := ba.cell 1
  have a_2 := ba.cell 2
  have a_n := ba.lt
  simp only [List.getElem?_toArray, List.getElem?_cons_zero, List.getElem?_cons_succ] at a_0 a_1 a_2
  have b_0 := bb.cell 0
  have b_1 := bb.cell 1
  have b_2 := bb.cell 2
  have b_n := bb.lt
  simp only [List.getElem?_toArray, List.getElem?_cons_zero, List.getElem?_cons_succ] at b_0 b_1 b_2
  have c_0 := bc.cell 0
  have c_1 := bc.cell 1
  have c_2 := bc.cell 2
  have c_n := bc.lt
  simp only [List.getElem?_toArray, List.getElem?_cons_zero, List.getElem?_cons_succ] at c_0 c_1 c_2
  have d_0 := bd.cell 0
  have d_1 := bd.cell 1
  have d_2 := bd.cell 2
  have d_n := bd.lt
  simp only [List.getElem?_toArray, List.getElem?_cons_zero, List.getElem?_cons_succ] at d_0 d_1 d_2
  have s_0 := bs.cell 0
  have s_1 := bs.cell 1
  have s_2 := bs.cell 2
  have s_n := bs.lt
  simp only [List.getElem?_toArray, List.getElem?_cons_zero, List.getElem?_cons_succ] at s_0 s_1 s_2
  have u_0 := bu.cell 0
  have u_1 := bu.cell 1
  have u_2 := bu.cell 2
  have u_n := bu.lt
  simp only [List.getElem?_toArray, List.getElem?_cons_zero, List.getElem?_cons_succ] at u_0 u_1 u_2
  go_wp2_with fail
  try rw [hpu]
  generalize hV : w8.alloc (.cells #[.int .i64 X3, .int .i64 Y3, .slice A4 us.length c4] 30) = V9 at *
  clear hV hpu
  refine (K_spec_SymmetricPanel hS HS.out).mono ?_
  rintro e w9 ⟨A5, c5, rfl, hZ, hb⟩
  clear p0 p1 p2 pn x0 x1 x2 xn y0 y1 y2 yn a_0 a_1 a_2 a_n b_0 b_1 b_2 b_n c_0 c_1 c_2 c_n d_0 d_1 d_2 d_n s_0 s_1 s_2 s_n u_0 u_1 u_2 u_n
  replace hI := hI.below hb
  replace hX := hX.below hb
  replace hY := hY.below hb
  replace hA := hA.below hb
  replace hB := hB.below hb
  replace hC := hC.below hb
  replace hD := hD.below hb
  replace hS := hS.below hb
  replace hU := hU.below hb
  replace bp := bp.below hb
  replace bx := bx.below hb
  replace by_ := by_.below hb
  replace ba := ba.below hb
  replace bb := bb.below hb
  replace bc := bc.below hb
  replace bd := bd.below hb
  replace bs := bs.below hb
  replace bu := bu.below hb
  replace bl := bnext bl hb
  clear hb
  clear hS bs
  have O := Joins.below_alloc1 w9 (.cells #[.int .i64 X3, .int .i64 Y3, .slice A5 us.length c5] 30)
  have bv := (Box.new w9 30 #[.int .i64 X3, .int .i64 Y3, .slice A5 us.length c5])
  replace hI := hI.below O
  replace hX := hX.below O
  replace hY := hY.below O
  replace hA := hA.below O
  replace hB := hB.below O
  replace hC := hC.below O
  replace hD := hD.below O
  replace hU := hU.below O
  replace hZ := hZ.below O
  replace bp := bp.below O
  replace bx := bx.below O
  replace by_ := by_.below O
  replace ba := ba.below O
  replace bb := bb.below O
  replace bc := bc.below O
  replace bd := bd.below O
  replace bu := bu.below O
  replace bl := bnext bl O
  clear O
  obtain ⟨pv, hpv⟩ : ∃ x, w9.heap.size = x := ⟨_, rfl⟩
  rw [hpv] at bv
  have p0 := bp.cell 0
  have p1 := bp.cell 1
  have p2 := bp.cell 2
  have pn := bp.lt
  simp only [List.getElem?_toArray, List.getElem?_cons_zero, List.getElem?_cons_succ] at p0 p1 p2
  have x0 := bx.cell 0
  have x1 := bx.cell 1
  have x2 := bx.cell 2
  have xn := bx.lt
  simp only [List.getElem?_toArray, List.getElem?_cons_zero, List.getElem?_cons_succ] at x0 x1 x2
  have y0 := by_.cell 0
  have y1 := by_.cell 1
  have y2 := by_.cell 2
  have yn := by_.lt
  simp only [List.getElem?_toArray, List.getElem?_cons_zero, List.getElem?_cons_succ] at y0 y1 y2
  have a_0 := ba.cell 0
  have a_1 := ba.cell 1
  have a_2 := ba.cell 2
  have a_n := ba.lt
  simp only [List.getElem?_toArray, List.getElem?_cons_zero, List.getElem?_cons_succ] at a_0 a_1 a_2
  have b_0 := bb.cell 0
  have b_1 := bb.cell 1
  have b_2 := bb.cell 2
  have b_n := bb.lt
  simp only [List.getElem?_toArray, List.getElem?_cons_zero, List.getElem?_cons_succ] at b_0 b_1 b_2
  have c_0 := bc.cell 0
  have c_1 := bc.cell 1
  have c_2 := bc.cell 2
  have c_n := bc.lt
  simp only [List.getElem?_toArray, List.getElem?_cons_zero, List.getElem?_cons_succ] at c_0 c_1 c_2
  have d_0 := bd.cell 0
  have d_1 := bd.cell 1
  have d_2 := bd.cell 2
  have d_n := bd.lt
  simp only [List.getElem?_toArray, List.getElem?_cons_zero, List.getElem?_cons_succ] at d_0 d_1 d_2
  have u_0 := bu.cell 0
  have u_1 := bu.cell 1
  have u_2 := bu.cell 2
  have u_n := bu.lt
  simp only [List.getElem?_toArray, List.getElem?_cons_zero, List.getElem?_cons_succ] at u_0 u_1 u_2
  have v_0 := bv.cell 0
  have v_1 := bv.cell 1
  have v_2 := bv.cell 2
  have v_n := bv.lt
  simp only [List.getElem?_toArray, List.getElem?_cons_zero, List.getElem?_cons_succ] at v_0 v_1 v_2
  obtain ⟨ra, hra⟩ : ∃ r, alikeM ⟨Xa, Ya, Ba⟩ ⟨Xb, Yb, Bb⟩ = r := ⟨_, rfl⟩
  obtain ⟨rc, hrc⟩ : ∃ r, cmpP ⟨Xc, Yc, Bc⟩ ⟨Xd, Yd, Bd⟩ = r := ⟨_, rfl⟩
  obtain ⟨rd, hrd⟩ : ∃ r, cmpP ⟨Xd, Yd, Bd⟩ ⟨Xc, Yc, Bc⟩ = r := ⟨_, rfl⟩
  have hwr : IntKind.i64.wrap (-rc) = rd := by
    have h1 := cmpP_neg ⟨Xc, Yc, Bc⟩ ⟨Xd, Yd, Bd⟩
    have h2 := cmpP_bd ⟨Xc, Yc, Bc⟩ ⟨Xd, Yd, Bd⟩
    rw [hrc] at h1 h2
    rw [hrd] at h1
    rw [IntKind.wrap_i64]
    omega
  have HRA := Lib.hid hra
  have HRC := Lib.hid hrc
  have HRD := Lib.hid hrd
  have n_bad : (bad != bad) = false := by simp
  have n_ra : (ra != ra) = false := by simp
  have n_rc : (rc != rc) = false := by simp
  have n_rd : (rd != rd) = false := by simp
  have n_one : (one != one) = false := by simp
  clear p0 p1 p2 pn x0 x1 x2 xn y0 y1 y2 yn a_0 a_1 a_2 a_n b_0 b_1 b_2 b_n c_0 c_1 c_2 c_n d_0 d_1 d_2 d_n u_0 u_1 u_2 u_n v_0 v_1 v_2 v_n
  clear hra hrc hrd
  go_upto_region 11 with (fail)
  try rw [hpv]
  generalize hV : w9.alloc (.cells #[.int .i64 X3, .int .i64 Y3, .slice A5 us.length c5] 30) = V at *
  clear hV hpv
  have KS : Hid (∀ w', Below V.heap.size V w' → (Below V.heap.size V w' ∧ w'.cell? ⟨px, 0, none⟩ = some (.int .i64 X1) ∧ w'.cell? ⟨px, 1, none⟩ = some (.int .i64 Y1) ∧ w'.cell? ⟨px, 2, none⟩ = some (.slice A1 zs.length c1) ∧ w'.cell? ⟨py, 0, none⟩ = some (.int .i64 X1) ∧ w'.cell? ⟨py, 1, none⟩ = some (.int .i64 Y1) ∧ w'.cell? ⟨py, 2, none⟩ = some (.slice A2 zs.length c2) ∧ w'.cell? ⟨pa, 0, none⟩ = some (.int .i64 Xa) ∧ w'.cell? ⟨pa, 1, none⟩ = some (.int .i64 Ya) ∧ w'.cell? ⟨pa, 2, none⟩ = some (.slice Aa Ba.length ca) ∧ w'.cell? ⟨pa + 1, 0, none⟩ = some (.int .i64 Xb) ∧ w'.cell? ⟨pa + 1, 1, none⟩ = some (.int .i64 Yb) ∧ w'.cell? ⟨pa + 1, 2, none⟩ = some (.slice Ab Bb.length cb) ∧ w'.cell? ⟨pc, 0, none⟩ = some (.int .i64 Xc) ∧ w'.cell? ⟨pc, 1, none⟩ = some (.int .i64 Yc) ∧ w'.cell? ⟨pc, 2, none⟩ = some (.slice Ac Bc.length cc) ∧ w'.cell? ⟨pc + 1, 0, none⟩ = some (.int .i64 Xd) ∧ w'.cell? ⟨pc + 1, 1, none⟩ = some (.int .i64 Yd) ∧ w'.cell? ⟨pc + 1, 2, none⟩ = some (.slice Ad Bd.length cd) ∧ w'.cell? ⟨pu, 0, none⟩ = some (.int .i64 X3) ∧ w'.cell? ⟨pu, 1, none⟩ = some (.int .i64 Y3) ∧ w'.cell? ⟨pu, 2, none⟩ = some (.slice A4 us.length c4) ∧ w'.cell? ⟨pv, 0, none⟩ = some (.int .i64 X3) ∧ w'.cell? ⟨pv, 1, none⟩ = some (.int .i64 Y3) ∧ w'.cell? ⟨pv, 2, none⟩ = some (.slice A5 us.length c5))) := Lib.hid (fun w' hb => ⟨hb, (bx.below hb).cell 0, (bx.below hb).cell 1, (bx.below hb).cell 2, (by_.below hb).cell 0, (by_.below hb).cell 1, (by_.below hb).cell 2, (ba.below hb).cell 0, (ba.below hb).cell 1, (ba.below hb).cell 2, (bb.below hb).cell 0, (bb.below hb).cell 1, (bb.below hb).cell 2, (bc.below hb).cell 0, (bc.below hb).cell 1, (bc.below hb).cell 2, (bd.below hb).cell 0, (bd.below hb).cell 1, (bd.below hb).cell 2, (bu.below hb).cell 0, (bu.below hb).cell 1, (bu.below hb).cell 2, (bv.below hb).cell 0, (bv.below hb).cell 1, (bv.below hb).cell 2⟩)
  have HhI := Lib.hid hI
  have HhX := Lib.hid hX
  have HhY := Lib.hid hY
  have HhA := Lib.hid hA
  have HhB := Lib.hid hB
  have HhC := Lib.hid hC
  have HhD := Lib.hid hD
  have HhU := Lib.hid hU
  have HhZ := Lib.hid hZ
  have Hbp := Lib.hid bp
  have Hbx := Lib.hid bx
  have Hby_ := Lib.hid by_
  have Hba := Lib.hid ba
  have Hbb := Lib.hid bb
  have Hbc := Lib.hid bc
  have Hbd := Lib.hid bd
  have Hbu := Lib.hid bu
  have Hbv := Lib.hid bv
  have HBL := Lib.hid bl
  clear bl hI hX hY hA hB hC hD hU hZ bp bx by_ ba bb bc bd bu bv
  go_cut [113] (fun s113 wc => s113 = .bool false ∧ Below V.heap.size V wc)
  case first =>
    first
      | go_region_held3 (fun w' => Below V.heap.size V w' ∧ w'.cell? ⟨px, 0, none⟩ = some (.int .i64 X1) ∧ w'.cell? ⟨px, 1, none⟩ = some (.int .i64 Y1) ∧ w'.cell? ⟨px, 2, none⟩ = some (.slice A1 zs.length c1) ∧ w'.cell? ⟨py, 0, none⟩ = some (.int .i64 X1) ∧ w'.cell? ⟨py, 1, none⟩ = some (.int .i64 Y1) ∧ w'.cell? ⟨py, 2, none⟩ = some (.slice A2 zs.length c2) ∧ w'.cell? ⟨pa, 0, none⟩ = some (.int .i64 Xa) ∧ w'.cell? ⟨pa, 1, none⟩ = some (.int .i64 Ya) ∧ w'.cell? ⟨pa, 2, none⟩ = some (.slice Aa Ba.length ca) ∧ w'.cell? ⟨pa + 1, 0, none⟩ = some (.int .i64 Xb) ∧ w'.cell? ⟨pa + 1, 1, none⟩ = some (.int .i64 Yb) ∧ w'.cell? ⟨pa + 1, 2, none⟩ = some (.slice Ab Bb.length cb) ∧ w'.cell? ⟨pc, 0, none⟩ = some (.int .i64 Xc) ∧ w'.cell? ⟨pc, 1, none⟩ = some (.int .i64 Yc) ∧ w'.cell? ⟨pc, 2, none⟩ = some (.slice Ac Bc.length cc) ∧ w'.cell? ⟨pc + 1, 0, none⟩ = some (.int .i64 Xd) ∧ w'.cell? ⟨pc + 1, 1, none⟩ = some (.int .i64 Yd) ∧ w'.cell? ⟨pc + 1, 2, none⟩ = some (.slice Ad Bd.length cd) ∧ w'.cell? ⟨pu, 0, none⟩ = some (.int .i64 X3) ∧ w'.cell? ⟨pu, 1, none⟩ = some (.int .i64 Y3) ∧ w'.cell? ⟨pu, 2, none⟩ = some (.slice A4 us.length c4) ∧ w'.cell? ⟨pv, 0, none⟩ = some (.int .i64 X3) ∧ w'.cell? ⟨pv, 1, none⟩ = some (.int .i64 Y3) ∧ w'.cell? ⟨pv, 2, none⟩ = some (.slice A5 us.length c5))
        ((refine KS.out _ ?_; first | (with_reducible assumption) | exact cut_drew))
        ((first
          | (go_at_call 46; go_split_ands; first
              | ((with_reducible refine (sSamePanel_any (r := true) (HhX.out.below (by assumption)).ints (HhY.out.below (by assumption)).ints yes3).mono ?_); rintro e w2 ⟨rfl, hb⟩; have hBn := bnext (w := V) (by assumption) hb)
              | ((with_reducible refine (sSamePanel_any (r := true) (HhU.out.below (by assumption)).ints (HhZ.out.below (by assumption)).ints yes3).mono ?_); rintro e w2 ⟨rfl, hb⟩; have hBn := bnext (w := V) (by assumption) hb))
          | (go_at_call 38; go_split_ands; (with_reducible refine (K_impl_AlikePanels (HhA.out.below (by assumption)) (HhB.out.below (by assumption)) HRA.out).mono ?_); rintro e w2 ⟨rfl, hb⟩; have hBn := bnext (w := V) (by assumption) hb)
          | (go_at_call 37; go_split_ands; (with_reducible refine (K_spec_AlikePanels (HhA.out.below (by assumption)) (HhB.out.below (by assumption)) HRA.out).mono ?_); rintro e w2 ⟨rfl, hb⟩; have hBn := bnext (w := V) (by assumption) hb)
          | (go_at_call 20; go_split_ands; first
              | ((with_reducible refine (K_impl_ComparePanels (HhC.out.below (by assumption)) (HhD.out.below (by assumption)) HRC.out).mono ?_); rintro e w2 ⟨rfl, hb⟩; have hBn := bnext (w := V) (by assumption) hb)
              | ((with_reducible refine (K_impl_ComparePanels (HhD.out.below (by assumption)) (HhC.out.below (by assumption)) HRD.out).mono ?_); rintro e w2 ⟨rfl, hb⟩; have hBn := bnext (w := V) (by assumption) hb))
          | (go_at_call 18; go_split_ands; (with_reducible refine (K_spec_ComparePanels (HhC.out.below (by assumption)) (HhD.out.below (by assumption)) HRC.out).mono ?_); rintro e w2 ⟨rfl, hb⟩; have hBn := bnext (w := V) (by assumption) hb)))
      | fail
    all_goals
      have HBN := Lib.hid hBn
      clear hBn KS
      go_wp2_with fail
      go_meet
      exact ⟨rfl, HBN.out⟩
  case rest =>
    obtain ⟨rfl, hcb⟩ := hcut
    have hI := HhI.out.below hcb
    have hX := HhX.out.below hcb
    have hU := HhU.out.below hcb
    have bp := Hbp.out.below hcb
    have bx := Hbx.out.below hcb
    have bu := Hbu.out.below hcb
    have bl := bnext HBL.out hcb
    clear hcb KS HhI HhX HhY HhA HhB HhC HhD HhU HhZ Hbp Hbx Hby_ Hba Hbb Hbc Hbd Hbu Hbv HBL HRA HRC HRD hwr n_bad n_ra n_rc n_rd n_one
    obtain ⟨V, hV⟩ : ∃ z, z = wc := ⟨_, rfl⟩
    subst hV
    have f_0 := bu.cell 0
    have f_1 := bu.cell 1
    have f_2 := bu.cell 2
    have f_n := bu.lt
    simp only [List.getElem?_toArray, List.getElem?_cons_zero, List.getElem?_cons_succ] at f_0 f_1 f_2
    go_upto_if 115 with (fail)
    go_cut [] (fun wc => Below V.heap.size V wc)
    case first =>
      by_cases h1 : one = 0
      · subst h1
        have HM := Lib.hid (sym_law HS.out)
        have hBV := Below.refl V.heap.size V
        have bl0 := Lib.hid bl
        clear bl
        have bl := hBV
        clear hBV f_0 f_1 f_2 f_n hI hX bp bx
        have f_0 := bu.cell 0
        have f_1 := bu.cell 1
        have f_2 := bu.cell 2
        have f_n := bu.lt
        simp only [List.getElem?_toArray, List.getElem?_cons_zero, List.getElem?_cons_succ] at f_0 f_1 f_2
        go_wp2_with fail
        refine (K_impl_MapPanel hU HM.out).mono ?_
        rintro e w31 ⟨A6, c6, rfl, hN, hb⟩
        clear f_0 f_1 f_2 f_n
        replace hU := hU.below hb
        replace bu := bu.below hb
        replace bl := bnext bl hb
        clear hb
        have O := Joins.below_alloc1 w31 (.cells #[.int .i64 X3, .int .i64 Y3, .slice A6 us.length c6] 30)
        have bn := (Box.new w31 30 #[.int .i64 X3, .int .i64 Y3, .slice A6 us.length c6])
        replace hU := hU.below O
        replace hN := hN.below O
        replace bu := bu.below O
        replace bl := bnext bl O
        clear O
        obtain ⟨pn, hpn⟩ : ∃ x, w31.heap.size = x := ⟨_, rfl⟩
        rw [hpn] at bn
        have f_0 := bu.cell 0
        have f_1 := bu.cell 1
        have f_2 := bu.cell 2
        have f_n := bu.lt
        simp only [List.getElem?_toArray, List.getElem?_cons_zero, List.getElem?_cons_succ] at f_0 f_1 f_2
        have n_0 := bn.cell 0
        have n_1 := bn.cell 1
        have n_2 := bn.cell 2
        have n_n := bn.lt
        simp only [List.getElem?_toArray, List.getElem?_cons_zero, List.getElem?_cons_succ] at n_0 n_1 n_2
        go_wp2_with fail
        try rw [hpn]
        generalize hV : w31.alloc (.cells #[.int .i64 X3, .int .i64 Y3, .slice A6 us.length c6] 30) = V32 at *
        clear hV hpn
        refine (sSamePanel_any (r := true) hN.ints hU.ints yes3).mono ?_
        rintro e w32 ⟨rfl, hb⟩
        clear f_0 f_1 f_2 f_n n_0 n_1 n_2 n_n
        replace hU := hU.below hb
        replace hN := hN.below hb
        replace bu := bu.below hb
        replace bn := bn.below hb
        replace bl := bnext bl hb
        clear hb
        have HBN := Lib.hid bl
        clear bl hN hU bn bu
        go_wp2_with fail
        go_meet
        case rel => exact HBN.out
      · have b1 : (one == 0) = false := beq_eq_false_iff_ne.2 h1
        clear h1
        go_wp2_with fail
        go_meet
        case rel => exact Below.refl _ _
    case rest =>
      replace hI := hI.below hcut
      replace hX := hX.below hcut
      replace bp := bp.below hcut
      replace bx := bx.below hcut
      replace bl := bnext bl hcut
      clear hcut f_0 f_1 f_2 f_n hU bu HS
      have HBL := Lib.hid bl
      have HhI := Lib.hid hI
      have HhX := Lib.hid hX
      have Hbp := Lib.hid bp
      have Hbx := Lib.hid bx
      clear bl hI hX bp bx
      by_cases hbad : bad = 0
      rotate_left
      · have b1 : (bad != 0) = true := by simp [hbad]
        clear hbad
        go_wp2_with fail
        go_ret
        exact ⟨rfl, HBL.out⟩
      subst hbad
      go_wp2
      obtain ⟨W8, hW8⟩ : ∃ z, z = wc := ⟨_, rfl⟩
      subst hW8
      go_loopw [20] (fun s wr => ∃ k : Nat, k ≤ 8 ∧ s = .int .i64 k ∧ Below W8.heap.size W8 wr) (fun s _ => 8 - (intOf s).toNat)
      case atStart => exact ⟨0, by omega, rfl, Below.refl _ _⟩
      case round =>
        obtain ⟨k, hk, rfl, hb⟩ := hrel
        by_cases hlt : k < 8
        · have k1 : (k : Int) < 8 := by omega
          obtain ⟨⟨Xq, Yq, Bq⟩, hq, m1, m2, m3, m4⟩ := can_law HC.out (show (0 : Int) ≤ (k : Int) by omega) (show (k : Int) ≤ 7 by omega)
          simp only [] at m1 m2
          have M1 := Lib.hid m1
          have M2 := Lib.hid m2
          have M4 := Lib.hid m4
          obtain ⟨rc, hrc⟩ : ∃ r, cmpP ⟨X1, Y1, zs⟩ ⟨Xq, Yq, Bq⟩ = r := ⟨_, rfl⟩
          rw [hrc] at m3
          have M3 := Lib.hid hrc
          have g1 : decide (rc > 0) = false := decide_eq_false (by omega)
          have g2 : ¬ (0 < rc) := by omega
          have bl := Below.refl wr.heap.size wr
          have hI := HhI.out.below hb
          have hX := HhX.out.below hb
          have bp := Hbp.out.below hb
          have bx := Hbx.out.below hb
          have HB := Lib.hid hb
          clear hb hq m1 m2 m3 m4 hrc
          have p0 := bp.cell 0
          have p1 := bp.cell 1
          have p2 := bp.cell 2
          have pn := bp.lt
          simp only [List.getElem?_toArray, List.getElem?_cons_zero, List.getElem?_cons_succ] at p0 p1 p2
          have x0 := bx.cell 0
          have x1 := bx.cell 1
          have x2 := bx.cell 2
          have xn := bx.lt
          simp only [List.getElem?_toArray, List.getElem?_cons_zero, List.getElem?_cons_succ] at x0 x1 x2
          obtain ⟨w0, hw0⟩ : ∃ z, z = wr := ⟨_, rfl⟩
          subst hw0
          go_wp2_with fail
          refine (K_impl_MapPanel hI M1.out).mono ?_
          rintro e w41 ⟨Aq, cq, rfl, hJ, hb⟩
          clear p0 p1 p2 pn x0 x1 x2 xn
          replace hI := hI.below hb
          replace hX := hX.below hb
          replace bp := bp.below hb
          replace bx := bx.below hb
          replace bl := bnext bl hb
          clear hb
          have O := Joins.below_alloc1 w41 (.cells #[.int .i64 Xq, .int .i64 Yq, .slice Aq Bq.length cq] 30)
          have bq := (Box.new w41 30 #[.int .i64 Xq, .int .i64 Yq, .slice Aq Bq.length cq])
          replace hI := hI.below O
          replace hX := hX.below O
          replace hJ := hJ.below O
          replace bp := bp.below O
          replace bx := bx.below O
          replace bl := bnext bl O
          clear O
          obtain ⟨pq, hpq⟩ : ∃ x, w41.heap.size = x := ⟨_, rfl⟩
          rw [hpq] at bq
          have p0 := bp.cell 0
          have p1 := bp.cell 1
          have p2 := bp.cell 2
          have pn := bp.lt
          simp only [List.getElem?_toArray, List.getElem?_cons_zero, List.getElem?_cons_succ] at p0 p1 p2
          have x0 := bx.cell 0
          have x1 := bx.cell 1
          have x2 := bx.cell 2
          have xn := bx.lt
          simp only [List.getElem?_toArray, List.getElem?_cons_zero, List.getElem?_cons_succ] at x0 x1 x2
          have q0 := bq.cell 0
          have q1 := bq.cell 1
          have q2 := bq.cell 2
          have qn := bq.lt
          simp only [List.getElem?_toArray, List.getElem?_cons_zero, List.getElem?_cons_succ] at q0 q1 q2
          go_wp2_with fail
          try rw [hpq]
          generalize hV : w41.alloc (.cells #[.int .i64 Xq, .int .i64 Yq, .slice Aq Bq.length cq] 30) = V42 at *
          clear hV hpq
          refine (K_impl_CanonicalPanel hJ M2.out).mono ?_
          rintro e w42 ⟨Al, cl, rfl, hL, hb⟩
          clear p0 p1 p2 pn x0 x1 x2 xn q0 q1 q2 qn
          replace hI := hI.below hb
          replace hX := hX.below hb
          replace hJ := hJ.below hb
          replace bp := bp.below hb
          replace bx := bx.below hb
          replace bq := bq.below hb
          replace bl := bnext bl hb
          clear hb
          have O := Joins.below_alloc1 w42 (.cells #[.int .i64 X1, .int .i64 Y1, .slice Al zs.length cl] 30)
          have bL := (Box.new w42 30 #[.int .i64 X1, .int .i64 Y1, .slice Al zs.length cl])
          replace hI := hI.below O
          replace hX := hX.below O
          replace hJ := hJ.below O
          replace hL := hL.below O
          replace bp := bp.below O
          replace bx := bx.below O
          replace bq := bq.below O
          replace bl := bnext bl O
          clear O
          obtain ⟨pl, hpl⟩ : ∃ x, w42.heap.size = x := ⟨_, rfl⟩
          rw [hpl] at bL
          have p0 := bp.cell 0
          have p1 := bp.cell 1
          have p2 := bp.cell 2
          have pn := bp.lt
          simp only [List.getElem?_toArray, List.getElem?_cons_zero, List.getElem?_cons_succ] at p0 p1 p2
          have x0 := bx.cell 0
          have x1 := bx.cell 1
          have x2 := bx.cell 2
          have xn := bx.lt
          simp only [List.getElem?_toArray, List.getElem?_cons_zero, List.getElem?_cons_succ] at x0 x1 x2
          have q0 := bq.cell 0
          have q1 := bq.cell 1
          have q2 := bq.cell 2
          have qn := bq.lt
          simp only [List.getElem?_toArray, List.getElem?_cons_zero, List.getElem?_cons_succ] at q0 q1 q2
          have l_0 := bL.cell 0
          have l_1 := bL.cell 1
          have l_2 := bL.cell 2
          have l_n := bL.lt
          simp only [List.getElem?_toArray, List.getElem?_cons_zero, List.getElem?_cons_succ] at l_0 l_1 l_2
          go_wp2_with fail
          try rw [hpl]
          generalize hV : w42.alloc (.cells #[.int .i64 X1, .int .i64 Y1, .slice Al zs.length cl] 30) = V43 at *
          clear hV hpl
          refine (sSamePanel_any (r := true) hL.ints hX.ints yes3).mono ?_
          rintro e w43 ⟨rfl, hb⟩
          clear p0 p1 p2 pn x0 x1 x2 xn q0 q1 q2 qn l_0 l_1 l_2 l_n
          replace hI := hI.below hb
          replace hX := hX.below hb
          replace hJ := hJ.below hb
          replace hL := hL.below hb
          replace bp := bp.below hb
          replace bx := bx.below hb
          replace bq := bq.below hb
          replace bL := bL.below hb
          replace bl := bnext bl hb
          clear hb
          clear hL bL
          have p0 := bp.cell 0
          have p1 := bp.cell 1
          have p2 := bp.cell 2
          have pn := bp.lt
          simp only [List.getElem?_toArray, List.getElem?_cons_zero, List.getElem?_cons_succ] at p0 p1 p2
          have x0 := bx.cell 0
          have x1 := bx.cell 1
          have x2 := bx.cell 2
          have xn := bx.lt
          simp only [List.getElem?_toArray, List.getElem?_cons_zero, List.getElem?_cons_succ] at x0 x1 x2
          have q0 := bq.cell 0
          have q1 := bq.cell 1
          have q2 := bq.cell 2
          have qn := bq.lt
          simp only [List.getElem?_toArray, List.getElem?_cons_zero, List.getElem?_cons_succ] at q0 q1 q2
          go_wp2_with fail
          refine (K_impl_ComparePanels hX hJ M3.out).mono ?_
          rintro e w44 ⟨rfl, hb⟩
          clear p0 p1 p2 pn x0 x1 x2 xn q0 q1 q2 qn
          replace hI := hI.below hb
          replace hX := hX.below hb
          replace hJ := hJ.below hb
          replace bp := bp.below hb
          replace bx := bx.below hb
          replace bq := bq.below hb
          replace bl := bnext bl hb
          clear hb
          have p0 := bp.cell 0
          have p1 := bp.cell 1
          have p2 := bp.cell 2
          have pn := bp.lt
          simp only [List.getElem?_toArray, List.getElem?_cons_zero, List.getElem?_cons_succ] at p0 p1 p2
          have x0 := bx.cell 0
          have x1 := bx.cell 1
          have x2 := bx.cell 2
          have xn := bx.lt
          simp only [List.getElem?_toArray, List.getElem?_cons_zero, List.getElem?_cons_succ] at x0 x1 x2
          have q0 := bq.cell 0
          have q1 := bq.cell 1
          have q2 := bq.cell 2
          have qn := bq.lt
          simp only [List.getElem?_toArray, List.getElem?_cons_zero, List.getElem?_cons_succ] at q0 q1 q2
          go_wp2_with fail
          refine (K_impl_AlikePanels hI hJ M4.out).mono ?_
          rintro e w45 ⟨rfl, hb⟩
          clear p0 p1 p2 pn x0 x1 x2 xn q0 q1 q2 qn
          replace hI := hI.below hb
          replace hX := hX.below hb
          replace hJ := hJ.below hb
          replace bp := bp.below hb
          replace bx := bx.below hb
          replace bq := bq.below hb
          replace bl := bnext bl hb
          clear hb
          have HBN := Lib.hid (bnext HB.out bl)
          clear bl hI hX hJ bp bx bq
          go_wp2
          go_roundw
          case rel => exact ⟨k + 1, by omega, by go_num, HBN.out⟩
          case measure => simp [intOf]; omega
        · have e : k = 8 := by omega
          subst e
          have HBE := Lib.hid (bnext HBL.out hb)
          clear hb
          go_wp2
          go_ret
          exact ⟨rfl, HBE.out⟩
end Go.Proofs.Ytihfdgnocdphcaa
