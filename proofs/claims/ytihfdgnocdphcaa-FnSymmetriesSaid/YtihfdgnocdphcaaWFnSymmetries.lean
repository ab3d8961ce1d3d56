/-
  The law FnSymmetries, walked.
-/
import Derived.Test.YtihfdgnocdphcaaTopS
import Derived.Test.YtihfdgnocdphcaaDrwAll
import Derived.Test.YtihfdgnocdphcaaMapPt
import Derived.Deep.DeepCutAuto
namespace Go.Proofs.Ytihfdgnocdphcaa
open Go.RowKit Knot

theorem bytes_ne (s : ByteArray) : (s != s) = false := by
  have h : (s == s) = true := by
    cases s with
    | mk d =>
      have e : ((ByteArray.mk d) == (ByteArray.mk d)) = (d == d) := rfl
      rw [e]
      simp
  simp only [bne, h, Bool.not_true]
set_option maxRecDepth 100000 in
set_option maxHeartbeats 16000000 in
theorem FnSymmetries_walk (a0 : Option Addr) (l0 : Nat) (c0 : Nat) (z0 : List Int) (w : World) (r0 : IsRow .u8 w a0 l0 c0 z0) :
    Calls Try.prog 12 #[.slice a0 l0 c0] w fun e w' => e = .returned (.bool true) ∧ Below w.heap.size w w' := by
  obtain ⟨big, hbig⟩ : ∃ big, decide ((4096 : Int) < l0) = big := ⟨_, rfl⟩
  have HBIG := Lib.hid hbig
  clear hbig
  go_enter Try.func12, Try.ntmps12
  go_wp2_with fail
  refine (f6big_any a0 l0 c0 w).mono ?_
  rintro e w' ⟨rfl, rfl⟩
  rw [HBIG.out]
  cases big
  rotate_left
  · go_wp2_with fail
    go_ret
    exact ⟨rfl, Below.refl _ _⟩
  have bl := Below.refl w.heap.size w
  go_wp2_with fail
  refine (DrawComposeSyms_any r0).mono ?_
  rintro e w2 ⟨a, b, rfl, hb⟩
  replace r0 := r0.below hb
  replace bl := bnext bl hb
  clear hb
  obtain ⟨⟨c, bad⟩, hcs⟩ : ∃ q, csM a b = q := ⟨_, rfl⟩
  have HCS := Lib.hid hcs
  have k1 := ComposeSyms_any a b w2
  have k2 := sComposeSyms_any a b w2
  rw [hcs] at k1 k2
  simp only [] at k1 k2
  have K1 := Lib.hid k1
  have K2 := Lib.hid k2
  clear k1 k2 hcs
  go_wp2_with fail
  refine K1.out.mono ?_
  rintro e w' ⟨rfl, rfl⟩
  go_wp2_with fail
  refine K2.out.mono ?_
  rintro e w' ⟨rfl, rfl⟩
  clear K1 K2
  go_wp2_with fail
  refine (DrawInverseSym_any r0).mono ?_
  rintro e w3 ⟨i, rfl, hb⟩
  replace r0 := r0.below hb
  replace bl := bnext bl hb
  clear hb
  obtain ⟨⟨n, one⟩, hin⟩ : ∃ q, invM i = q := ⟨_, rfl⟩
  have HIN := Lib.hid hin
  have k1 := InverseSym_any i w3
  have k2 := sInverseSym_any i w3
  rw [hin] at k1 k2
  simp only [] at k1 k2
  have K1 := Lib.hid k1
  have K2 := Lib.hid k2
  clear k1 k2 hin
  go_wp2_with fail
  refine K1.out.mono ?_
  rintro e w' ⟨rfl, rfl⟩
  go_wp2_with fail
  refine K2.out.mono ?_
  rintro e w' ⟨rfl, rfl⟩
  clear K1 K2
  go_wp2_with fail
  refine (DrawMapPanel_any r0).mono ?_
  rintro e w4 ⟨X, Y, A, cp, B, sym, rfl, hI, hb⟩
  replace r0 := r0.below hb
  replace bl := bnext bl hb
  clear hb
  obtain ⟨⟨X1, Y1, zs, three⟩, hm⟩ : ∃ q, mpnM ⟨X, Y, B⟩ sym = q := ⟨_, rfl⟩
  have HM := Lib.hid hm
  clear hm
  have O := Joins.below_alloc1 w4 (.cells #[.int .i64 X, .int .i64 Y, .slice A B.length cp] 30)
  have bp := (Box.new w4 30 #[.int .i64 X, .int .i64 Y, .slice A B.length cp])
  replace r0 := r0.below O
  replace hI := hI.below O
  replace bl := bnext bl O
  clear O
  obtain ⟨pp, hpp⟩ : ∃ x, w4.heap.size = x := ⟨_, rfl⟩
  rw [hpp] at bp
  have p0 := bp.cell 0
  have p1 := bp.cell 1
  have p2 := bp.cell 2
  have pn := bp.lt
  simp only [List.getElem?_toArray, List.getElem?_cons_zero, List.getElem?_cons_succ] at p0 p1 p2
  go_wp2_with fail
  try rw [hpp]
  generalize hV : w4.alloc (.cells #[.int .i64 X, .int .i64 Y, .slice A B.length cp] 30) = V5 at *
  clear hV hpp
  refine (K_impl_MapPanel hI HM.out).mono ?_
  rintro e w5 ⟨A1, c1, rfl, hX, hb⟩
  clear p0 p1 p2 pn
  replace r0 := r0.below hb
  replace hI := hI.below hb
  replace bp := bp.below hb
  replace bl := bnext bl hb
  clear hb
  have O := Joins.below_alloc1 w5 (.cells #[.int .i64 X1, .int .i64 Y1, .slice A1 zs.length c1] 30)
  have bx := (Box.new w5 30 #[.int .i64 X1, .int .i64 Y1, .slice A1 zs.length c1])
  replace r0 := r0.below O
  replace hI := hI.below O
  replace hX := hX.below O
  replace bp := bp.below O
  replace bl := bnext bl O
  clear O
  obtain ⟨px, hpx⟩ : ∃ x, w5.heap.size = x := ⟨_, rfl⟩
  rw [hpx] at bx
  have p0 := bp.cell 0
  have p1 := bp.cell 1
  have p2 := bp.cell 2
  have pn := bp.lt
  simp only [List.getElem?_toArray, List.getElem?_cons_zero, List.getElem?_cons_succ] at p0 p1 p2
  have x0 := bx.cell 0
  have x1 := bx.cell 1
  have x2 := bx.cell 2
  have xn := bx.lt
  simp only [List.getElem?_toArray, List.getElem?_cons_zero, List.getElem?_cons_succ] at x0 x1 x2
  go_wp2_with fail
  try rw [hpx]
  generalize hV : w5.alloc (.cells #[.int .i64 X1, .int .i64 Y1, .slice A1 zs.length c1] 30) = V6 at *
  clear hV hpx
  refine (K_spec_MapPanel hI HM.out).mono ?_
  rintro e w6 ⟨A2, c2, rfl, hY, hb⟩
  clear p0 p1 p2 pn x0 x1 x2 xn
  replace r0 := r0.below hb
  replace hI := hI.below hb
  replace hX := hX.below hb
  replace bp := bp.below hb
  replace bx := bx.below hb
  replace bl := bnext bl hb
  clear hb
  have O := Joins.below_alloc1 w6 (.cells #[.int .i64 X1, .int .i64 Y1, .slice A2 zs.length c2] 30)
  have by_ := (Box.new w6 30 #[.int .i64 X1, .int .i64 Y1, .slice A2 zs.length c2])
  replace r0 := r0.below O
  replace hI := hI.below O
  replace hX := hX.below O
  replace hY := hY.below O
  replace bp := bp.below O
  replace bx := bx.below O
  replace bl := bnext bl O
  clear O
  obtain ⟨py, hpy⟩ : ∃ x, w6.heap.size = x := ⟨_, rfl⟩
  rw [hpy] at by_
  have p0 := bp.cell 0
  have p1 := bp.cell 1
  have p2 := bp.cell 2
  have pn := bp.lt
  simp only [List.getElem?_toArray, List.getElem?_cons_zero, List.getElem?_cons_succ] at p0 p1 p2
  have x0 := bx.cell 0
  have x1 := bx.cell 1
  have x2 := bx.cell 2
  have xn := bx.lt
  simp only [List.getElem?_toArray, List.getElem?_cons_zero, List.getElem?_cons_succ] at x0 x1 x2
  have y0 := by_.cell 0
  have y1 := by_.cell 1
  have y2 := by_.cell 2
  have yn := by_.lt
  simp only [List.getElem?_toArray, List.getElem?_cons_zero, List.getElem?_cons_succ] at y0 y1 y2
  go_wp2_with fail
  try rw [hpy]
  generalize hV : w6.alloc (.cells #[.int .i64 X1, .int .i64 Y1, .slice A2 zs.length c2] 30) = V7 at *
  clear hV hpy
  refine (DrawMapPoint_any r0).mono ?_
  rintro e w7 ⟨X2, Y2, A3, c3, B2, u, v, turn, rfl, hQ, hb⟩
  clear p0 p1 p2 pn x0 x1 x2 xn y0 y1 y2 yn
  replace r0 := r0.below hb
  replace hI := hI.below hb
  replace hX := hX.below hb
  replace hY := hY.below hb
  replace bp := bp.below hb
  replace bx := bx.below hb
  replace by_ := by_.below hb
  replace bl := bnext bl hb
  clear hb
  obtain ⟨⟨u1, v1, five⟩, hmp⟩ : ∃ q, mpM ⟨X2, Y2, B2⟩ u v turn = q := ⟨_, rfl⟩
  have HMP := Lib.hid hmp
  clear hmp
  have O := Joins.below_alloc2 w7 (.cells #[.int .i64 X2, .int .i64 Y2, .slice A3 B2.length c3] 30) (.cells #[.int .i64 u, .int .i64 v] 36)
  have bq := ((Box.new w7 30 #[.int .i64 X2, .int .i64 Y2, .slice A3 B2.length c3]).alloc (.cells #[.int .i64 u, .int .i64 v] 36))
  have bt := (Box.new (w7.alloc (.cells #[.int .i64 X2, .int .i64 Y2, .slice A3 B2.length c3] 30)) 36 #[.int .i64 u, .int .i64 v])
  rw [World.size_alloc] at bt
  replace r0 := r0.below O
  replace hI := hI.below O
  replace hX := hX.below O
  replace hY := hY.below O
  replace hQ := hQ.below O
  replace bp := bp.below O
  replace bx := bx.below O
  replace by_ := by_.below O
  replace bl := bnext bl O
  clear O
  obtain ⟨pq, hpq⟩ : ∃ x, w7.heap.size = x := ⟨_, rfl⟩
  rw [hpq] at bq bt
  have p0 := bp.cell 0
  have p1 := bp.cell 1
  have p2 := bp.cell 2
  have pn := bp.lt
  simp only [List.getElem?_toArray, List.getElem?_cons_zero, List.getElem?_cons_succ] at p0 p1 p2
  have x0 := bx.cell 0
  have x1 := bx.cell 1
  have x2 := bx.cell 2
  have xn := bx.lt
  simp only [List.getElem?_toArray, List.getElem?_cons_zero, List.getElem?_cons_succ] at x0 x1 x2
  have y0 := by_.cell 0
  have y1 := by_.cell 1
  have y2 := by_.cell 2
  have yn := by_.lt
  simp only [List.getElem?_toArray, List.getElem?_cons_zero, List.getElem?_cons_succ] at y0 y1 y2
  have q0 := bq.cell 0
  have q1 := bq.cell 1
  have q2 := bq.cell 2
  have qn := bq.lt
  simp only [List.getElem?_toArray, List.getElem?_cons_zero, List.getElem?_cons_succ] at q0 q1 q2
  have t0 := bt.cell 0
  have t1 := bt.cell 1
  have tn := bt.lt
  simp only [List.getElem?_toArray, List.getElem?_cons_zero, List.getElem?_cons_succ] at t0 t1
  go_wp2_with fail
  try rw [hpq]
  generalize hV : (w7.alloc (.cells #[.int .i64 X2, .int .i64 Y2, .slice A3 B2.length c3] 30)).alloc (.cells #[.int .i64 u, .int .i64 v] 36) = V8 at *
  clear hV hpq
  refine (K_impl_MapPoint hQ HMP.out).mono ?_
  rintro e w8 ⟨rfl, hb⟩
  clear p0 p1 p2 pn x0 x1 x2 xn y0 y1 y2 yn q0 q1 q2 qn t0 t1 tn
  replace r0 := r0.below hb
  replace hI := hI.below hb
  replace hX := hX.below hb
  replace hY := hY.below hb
  replace hQ := hQ.below hb
  replace bp := bp.below hb
  replace bx := bx.below hb
  replace by_ := by_.below hb
  replace bq := bq.below hb
  replace bt := bt.below hb
  replace bl := bnext bl hb
  clear hb
  have O := Joins.below_alloc1 w8 (.cells #[.int .i64 u1, .int .i64 v1] 36)
  have bu := (Box.new w8 36 #[.int .i64 u1, .int .i64 v1])
  replace r0 := r0.below O
  replace hI := hI.below O
  replace hX := hX.below O
  replace hY := hY.below O
  replace hQ := hQ.below O
  replace bp := bp.below O
  replace bx := bx.below O
  replace by_ := by_.below O
  replace bq := bq.below O
  replace bt := bt.below O
  replace bl := bnext bl O
  clear O
  obtain ⟨pu, hpu⟩ : ∃ x, w8.heap.size = x := ⟨_, rfl⟩
  rw [hpu] at bu
  have p0 := bp.cell 0
  have p1 := bp.cell 1
  have p2 := bp.cell 2
  have pn := bp.lt
  simp only [List.getElem?_toArray, List.getElem?_cons_zero, List.getElem?_cons_succ] at p0 p1 p2
  have x0 := bx.cell 0
  have x1 := bx.cell 1
  have x2 := bx.cell 2
  have xn := bx.lt
  simp only [List.getElem?_toArray, List.getElem?_cons_zero, List.getElem?_cons_succ] at x0 x1 x2
  have y0 := by_.cell 0
  have y1 := by_.cell 1
  have y2 := by_.cell 2
  have yn := by_.lt
  simp only [List.getElem?_toArray, List.getElem?_cons_zero, List.getElem?_cons_succ] at y0 y1 y2
  have q0 := bq.cell 0
  have q1 := bq.cell 1
  have q2 := bq.cell 2
  have qn := bq.lt
  simp only [List.getElem?_toArray, List.getElem?_cons_zero, List.getElem?_cons_succ] at q0 q1 q2
  have t0 := bt.cell 0
  have t1 := bt.cell 1
  have tn := bt.lt
  simp only [List.getElem?_toArray, List.getElem?_cons_zero, List.getElem?_cons_succ] at t0 t1
  have qu0 := bu.cell 0
  have qu1 := bu.cell 1
  have qun := bu.lt
  simp only [List.getElem?_toArray, List.getElem?_cons_zero, List.getElem?_cons_succ] at qu0 qu1
  go_wp2_with fail
  try rw [hpu]
  generalize hV : w8.alloc (.cells #[.int .i64 u1, .int .i64 v1] 36) = V9 at *
  clear hV hpu
  refine (K_spec_MapPoint hQ HMP.out).mono ?_
  rintro e w9 ⟨rfl, hb⟩
  clear p0 p1 p2 pn x0 x1 x2 xn y0 y1 y2 yn q0 q1 q2 qn t0 t1 tn qu0 qu1 qun
  replace r0 := r0.below hb
  replace hI := hI.below hb
  replace hX := hX.below hb
  replace hY := hY.below hb
  replace hQ := hQ.below hb
  replace bp := bp.below hb
  replace bx := bx.below hb
  replace by_ := by_.below hb
  replace bq := bq.below hb
  replace bt := bt.below hb
  replace bu := bu.below hb
  replace bl := bnext bl hb
  clear hb
  clear hQ bq bt
  have O := Joins.below_alloc1 w9 (.cells #[.int .i64 u1, .int .i64 v1] 36)
  have bv := (Box.new w9 36 #[.int .i64 u1, .int .i64 v1])
  replace r0 := r0.below O
  replace hI := hI.below O
  replace hX := hX.below O
  replace hY := hY.below O
  replace bp := bp.below O
  replace bx := bx.below O
  replace by_ := by_.below O
  replace bu := bu.below O
  replace bl := bnext bl O
  clear O
  obtain ⟨pv, hpv⟩ : ∃ x, w9.heap.size = x := ⟨_, rfl⟩
  rw [hpv] at bv
  have p0 := bp.cell 0
  have p1 := bp.cell 1
  have p2 := bp.cell 2
  have pn := bp.lt
  simp only [List.getElem?_toArray, List.getElem?_cons_zero, List.getElem?_cons_succ] at p0 p1 p2
  have x0 := bx.cell 0
  have x1 := bx.cell 1
  have x2 := bx.cell 2
  have xn := bx.lt
  simp only [List.getElem?_toArray, List.getElem?_cons_zero, List.getElem?_cons_succ] at x0 x1 x2
  have y0 := by_.cell 0
  have y1 := by_.cell 1
  have y2 := by_.cell 2
  have yn := by_.lt
  simp only [List.getElem?_toArray, List.getElem?_cons_zero, List.getElem?_cons_succ] at y0 y1 y2
  have qu0 := bu.cell 0
  have qu1 := bu.cell 1
  have qun := bu.lt
  simp only [List.getElem?_toArray, List.getElem?_cons_zero, List.getElem?_cons_succ] at qu0 qu1
  have qv0 := bv.cell 0
  have qv1 := bv.cell 1
  have qvn := bv.lt
  simp only [List.getElem?_toArray, List.getElem?_cons_zero, List.getElem?_cons_succ] at qv0 qv1
  go_wp2_with fail
  try rw [hpv]
  generalize hV : w9.alloc (.cells #[.int .i64 u1, .int .i64 v1] 36) = V10 at *
  clear hV hpv
  refine (DrawSymName_any r0).mono ?_
  rintro e w10 ⟨k, rfl, hk, hb⟩
  clear p0 p1 p2 pn x0 x1 x2 xn y0 y1 y2 yn qu0 qu1 qun qv0 qv1 qvn
  replace r0 := r0.below hb
  replace hI := hI.below hb
  replace hX := hX.below hb
  replace hY := hY.below hb
  replace bp := bp.below hb
  replace bx := bx.below hb
  replace by_ := by_.below hb
  replace bu := bu.below hb
  replace bv := bv.below hb
  replace bl := bnext bl hb
  clear hb
  have HK := Lib.hid hk
  clear hk
  clear r0
  have p0 := bp.cell 0
  have p1 := bp.cell 1
  have p2 := bp.cell 2
  have pn := bp.lt
  simp only [List.getElem?_toArray, List.getElem?_cons_zero, List.getElem?_cons_succ] at p0 p1 p2
  have x0 := bx.cell 0
  have x1 := bx.cell 1
  have x2 := bx.cell 2
  have xn := bx.lt
  simp only [List.getElem?_toArray, List.getElem?_cons_zero, List.getElem?_cons_succ] at x0 x1 x2
  have y0 := by_.cell 0
  have y1 := by_.cell 1
  have y2 := by_.cell 2
  have yn := by_.lt
  simp only [List.getElem?_toArray, List.getElem?_cons_zero, List.getElem?_cons_succ] at y0 y1 y2
  have qu0 := bu.cell 0
  have qu1 := bu.cell 1
  have qun := bu.lt
  simp only [List.getElem?_toArray, List.getElem?_cons_zero, List.getElem?_cons_succ] at qu0 qu1
  have qv0 := bv.cell 0
  have qv1 := bv.cell 1
  have qvn := bv.lt
  simp only [List.getElem?_toArray, List.getElem?_cons_zero, List.getElem?_cons_succ] at qv0 qv1
  obtain ⟨nk, hnk⟩ : ∃ nk, nameK k = nk := ⟨_, rfl⟩
  have HNK := Lib.hid hnk
  clear hnk
  have n_bad : (bad != bad) = false := by simp
  have n_c : (c != c) = false := by simp
  have n_one : (one != one) = false := by simp
  have n_n : (n != n) = false := by simp
  have n_three : (three != three) = false := by simp
  have n_five : (five != five) = false := by simp
  have n_nk : (nk != nk) = false := bytes_ne nk
  have n_pt := ptNeF u1 v1
  go_wp2_with fail
  refine (sSamePanel_any hX.ints hY.ints (r := true) (by simp)).mono ?_
  rintro e w11 ⟨rfl, hb⟩
  clear p0 p1 p2 pn x0 x1 x2 xn y0 y1 y2 yn qu0 qu1 qun qv0 qv1 qvn
  replace hI := hI.below hb
  replace hX := hX.below hb
  replace hY := hY.below hb
  replace bp := bp.below hb
  replace bx := bx.below hb
  replace by_ := by_.below hb
  replace bu := bu.below hb
  replace bv := bv.below hb
  replace bl := bnext bl hb
  clear hb
  have p0 := bp.cell 0
  have p1 := bp.cell 1
  have p2 := bp.cell 2
  have pn := bp.lt
  simp only [List.getElem?_toArray, List.getElem?_cons_zero, List.getElem?_cons_succ] at p0 p1 p2
  have x0 := bx.cell 0
  have x1 := bx.cell 1
  have x2 := bx.cell 2
  have xn := bx.lt
  simp only [List.getElem?_toArray, List.getElem?_cons_zero, List.getElem?_cons_succ] at x0 x1 x2
  have y0 := by_.cell 0
  have y1 := by_.cell 1
  have y2 := by_.cell 2
  have yn := by_.lt
  simp only [List.getElem?_toArray, List.getElem?_cons_zero, List.getElem?_cons_succ] at y0 y1 y2
  have qu0 := bu.cell 0
  have qu1 := bu.cell 1
  have qun := bu.lt
  simp only [List.getElem?_toArray, List.getElem?_cons_zero, List.getElem?_cons_succ] at qu0 qu1
  have qv0 := bv.cell 0
  have qv1 := bv.cell 1
  have qvn := bv.lt
  simp only [List.getElem?_toArray, List.getElem?_cons_zero, List.getElem?_cons_succ] at qv0 qv1
  have k1 := SymName_any HK.out w11
  rw [HNK.out] at k1
  have K1 := Lib.hid k1
  clear k1
  go_wp2_with fail
  refine K1.out.mono ?_
  rintro e w' ⟨rfl, rfl⟩
  have k2 := sSymName_any HK.out w11
  rw [HNK.out] at k2
  have K2 := Lib.hid k2
  clear k2
  go_wp2_with fail
  refine (K2.out).mono ?_
  rintro e w12 ⟨rfl, hb⟩
  clear p0 p1 p2 pn x0 x1 x2 xn y0 y1 y2 yn qu0 qu1 qun qv0 qv1 qvn
  replace hI := hI.below hb
  replace hX := hX.below hb
  replace hY := hY.below hb
  replace bp := bp.below hb
  replace bx := bx.below hb
  replace by_ := by_.below hb
  replace bu := bu.below hb
  replace bv := bv.below hb
  replace bl := bnext bl hb
  clear hb
  clear K1 K2 HK HNK n_pt hY by_ bu bv
  have p0 := bp.cell 0
  have p1 := bp.cell 1
  have p2 := bp.cell 2
  have pn := bp.lt
  simp only [List.getElem?_toArray, List.getElem?_cons_zero, List.getElem?_cons_succ] at p0 p1 p2
  have x0 := bx.cell 0
  have x1 := bx.cell 1
  have x2 := bx.cell 2
  have xn := bx.lt
  simp only [List.getElem?_toArray, List.getElem?_cons_zero, List.getElem?_cons_succ] at x0 x1 x2
  go_upto_if 157 with (fail)
  go_cut [] (fun wc => w12 = wc)
  case first =>
    by_cases h1 : one = 0
    · subst h1
      have k1 := ComposeSyms_any i n w12
      rw [inv_comp HIN.out] at k1
      simp only [] at k1
      have K1 := Lib.hid k1
      clear k1
      go_wp2_with fail
      refine K1.out.mono ?_
      rintro e w' ⟨rfl, rfl⟩
      go_wp2_with fail
      go_meet
      case rel => rfl
    · have b1 : (one == 0) = false := beq_eq_false_iff_ne.2 h1
      clear h1
      go_wp2_with fail
      go_meet
      case rel => rfl
  case rest =>
    subst hcut
    clear HIN n_one n_n
    go_upto_if 171 with (fail)
    go_cut [] (fun wc => Below w12.heap.size w12 wc)
    case first =>
      by_cases h3 : three = 0
      · subst h3
        obtain ⟨hp, hx, hn⟩ := mpnM_cnt HM.out
        obtain ⟨N, hN⟩ : ∃ N, cntP ⟨X, Y, B⟩ = N := ⟨_, rfl⟩
        have k1 := sCountCurves_any hI hp
        rw [hN] at k1
        have K1 := Lib.hid k1
        rw [hN] at hn
        have HN := Lib.hid hn
        have HX := Lib.hid hx
        have hnn : (N != N) = false := by simp
        clear k1 hp hx hn hN
        go_wp2_with fail
        refine K1.out.mono ?_
        rintro e wa ⟨rfl, hb⟩
        have k2 := CountCurves_any (hX.below hb) HX.out
        rw [HN.out] at k2
        have K2 := Lib.hid k2
        replace bx := bx.below hb
        have HB := Lib.hid hb
        clear k2 K1 hb x0 x1 x2 xn p0 p1 p2 pn
        have x0 := bx.cell 0
        have x1 := bx.cell 1
        have x2 := bx.cell 2
        have xn := bx.lt
        simp only [List.getElem?_toArray, List.getElem?_cons_zero, List.getElem?_cons_succ] at x0 x1 x2
        go_wp2_with fail
        refine K2.out.mono ?_
        rintro e wb ⟨rfl, hb⟩
        have HB2 := Lib.hid (bnext HB.out hb)
        clear hb K2
        go_wp2_with fail
        go_meet
        case rel => exact HB2.out
      · have b3 : (three == 0) = false := beq_eq_false_iff_ne.2 h3
        clear h3
        go_wp2_with fail
        go_meet
        case rel => exact Below.refl _ _
    case rest =>
      replace hI := hI.below hcut
      replace bp := bp.below hcut
      replace bl := bnext bl hcut
      clear hcut p0 p1 p2 pn x0 x1 x2 xn hX bx HM n_three n_c n_bad n_five
      have p0 := bp.cell 0
      have p1 := bp.cell 1
      have p2 := bp.cell 2
      have pn := bp.lt
      simp only [List.getElem?_toArray, List.getElem?_cons_zero, List.getElem?_cons_succ] at p0 p1 p2
      have HBL := Lib.hid bl
      by_cases hbad : bad = 0
      rotate_left
      · have b1 : (bad != 0) = true := by simp [hbad]
        clear hbad
        go_wp2_with fail
        go_ret
        exact ⟨rfl, HBL.out⟩
      subst hbad
      by_cases hok : Ok ⟨X, Y, B⟩
      rotate_left
      · have k1 := sValidPanel_any hI (r := false) (no_iff hok)
        have K1 := Lib.hid k1
        clear k1 hok
        go_wp2_with fail
        refine K1.out.mono ?_
        rintro e wd ⟨rfl, hb⟩
        have HBE := Lib.hid (bnext HBL.out hb)
        clear hb
        go_wp2_with fail
        go_ret
        exact ⟨rfl, HBE.out⟩
      obtain ⟨⟨Xq, Yq, Bq⟩, ⟨Xr, Yr, Br⟩, hq, m1, m2, m3⟩ := mpn_comp hok HCS.out
      simp only [] at m1 m2 m3
      have M1 := Lib.hid m1
      have M2 := Lib.hid m2
      have M3 := Lib.hid m3
      have HOK := Lib.hid hok
      clear hok hq m1 m2 m3 HBL
      go_wp2_with fail
      refine (sValidPanel_any hI (r := true) (yes_iff HOK.out)).mono ?_
      rintro e w41 ⟨rfl, hb⟩
      clear p0 p1 p2 pn
      replace hI := hI.below hb
      replace bp := bp.below hb
      replace bl := bnext bl hb
      clear hb
      have p0 := bp.cell 0
      have p1 := bp.cell 1
      have p2 := bp.cell 2
      have pn := bp.lt
      simp only [List.getElem?_toArray, List.getElem?_cons_zero, List.getElem?_cons_succ] at p0 p1 p2
      go_wp2_with fail
      refine (K_impl_MapPanel hI M1.out).mono ?_
      rintro e w42 ⟨Aq, cq, rfl, hJ, hb⟩
      clear p0 p1 p2 pn
      replace hI := hI.below hb
      replace bp := bp.below hb
      replace bl := bnext bl hb
      clear hb
      have O := Joins.below_alloc1 w42 (.cells #[.int .i64 Xq, .int .i64 Yq, .slice Aq Bq.length cq] 30)
      have ba := (Box.new w42 30 #[.int .i64 Xq, .int .i64 Yq, .slice Aq Bq.length cq])
      replace hI := hI.below O
      replace hJ := hJ.below O
      replace bp := bp.below O
      replace bl := bnext bl O
      clear O
      obtain ⟨pa, hpa⟩ : ∃ x, w42.heap.size = x := ⟨_, rfl⟩
      rw [hpa] at ba
      have p0 := bp.cell 0
      have p1 := bp.cell 1
      have p2 := bp.cell 2
      have pn := bp.lt
      simp only [List.getElem?_toArray, List.getElem?_cons_zero, List.getElem?_cons_succ] at p0 p1 p2
      have ca0 := ba.cell 0
      have ca1 := ba.cell 1
      have ca2 := ba.cell 2
      have can := ba.lt
      simp only [List.getElem?_toArray, List.getElem?_cons_zero, List.getElem?_cons_succ] at ca0 ca1 ca2
      go_wp2_with fail
      try rw [hpa]
      generalize hV : w42.alloc (.cells #[.int .i64 Xq, .int .i64 Yq, .slice Aq Bq.length cq] 30) = V43 at *
      clear hV hpa
      refine (K_impl_MapPanel hJ M2.out).mono ?_
      rintro e w43 ⟨Ar, cr, rfl, hR, hb⟩
      clear p0 p1 p2 pn ca0 ca1 ca2 can
      replace hI := hI.below hb
      replace hJ := hJ.below hb
      replace bp := bp.below hb
      replace ba := ba.below hb
      replace bl := bnext bl hb
      clear hb
      clear hJ ba
      have O := Joins.below_alloc1 w43 (.cells #[.int .i64 Xr, .int .i64 Yr, .slice Ar Br.length cr] 30)
      have bb := (Box.new w43 30 #[.int .i64 Xr, .int .i64 Yr, .slice Ar Br.length cr])
      replace hI := hI.below O
      replace hR := hR.below O
      replace bp := bp.below O
      replace bl := bnext bl O
      clear O
      obtain ⟨pb, hpb⟩ : ∃ x, w43.heap.size = x := ⟨_, rfl⟩
      rw [hpb] at bb
      have p0 := bp.cell 0
      have p1 := bp.cell 1
      have p2 := bp.cell 2
      have pn := bp.lt
      simp only [List.getElem?_toArray, List.getElem?_cons_zero, List.getElem?_cons_succ] at p0 p1 p2
      have cb0 := bb.cell 0
      have cb1 := bb.cell 1
      have cb2 := bb.cell 2
      have cbn := bb.lt
      simp only [List.getElem?_toArray, List.getElem?_cons_zero, List.getElem?_cons_succ] at cb0 cb1 cb2
      go_wp2_with fail
      try rw [hpb]
      generalize hV : w43.alloc (.cells #[.int .i64 Xr, .int .i64 Yr, .slice Ar Br.length cr] 30) = V44 at *
      clear hV hpb
      refine (K_impl_MapPanel hI M3.out).mono ?_
      rintro e w44 ⟨As, cs, rfl, hS, hb⟩
      clear p0 p1 p2 pn cb0 cb1 cb2 cbn
      replace hI := hI.below hb
      replace hR := hR.below hb
      replace bp := bp.below hb
      replace bb := bb.below hb
      replace bl := bnext bl hb
      clear hb
      clear hI bp
      have O := Joins.below_alloc1 w44 (.cells #[.int .i64 Xr, .int .i64 Yr, .slice As Br.length cs] 30)
      have bc := (Box.new w44 30 #[.int .i64 Xr, .int .i64 Yr, .slice As Br.length cs])
      replace hR := hR.below O
      replace hS := hS.below O
      replace bb := bb.below O
      replace bl := bnext bl O
      clear O
      obtain ⟨pc, hpc⟩ : ∃ x, w44.heap.size = x := ⟨_, rfl⟩
      rw [hpc] at bc
      have cb0 := bb.cell 0
      have cb1 := bb.cell 1
      have cb2 := bb.cell 2
      have cbn := bb.lt
      simp only [List.getElem?_toArray, List.getElem?_cons_zero, List.getElem?_cons_succ] at cb0 cb1 cb2
      have cd0 := bc.cell 0
      have cd1 := bc.cell 1
      have cd2 := bc.cell 2
      have cdn := bc.lt
      simp only [List.getElem?_toArray, List.getElem?_cons_zero, List.getElem?_cons_succ] at cd0 cd1 cd2
      go_wp2_with fail
      try rw [hpc]
      generalize hV : w44.alloc (.cells #[.int .i64 Xr, .int .i64 Yr, .slice As Br.length cs] 30) = V45 at *
      clear hV hpc
      refine (sSamePanel_any hR.ints hS.ints (r := true) (by simp)).mono ?_
      rintro e w45 ⟨rfl, hb⟩
      clear cb0 cb1 cb2 cbn cd0 cd1 cd2 cdn
      replace hR := hR.below hb
      replace hS := hS.below hb
      replace bb := bb.below hb
      replace bc := bc.below hb
      replace bl := bnext bl hb
      clear hb
      clear hR hS bb bc
      have HE := Lib.hid bl
      clear bl
      go_wp2_with fail
      go_ret
      exact ⟨rfl, HE.out⟩
end Go.Proofs.Ytihfdgnocdphcaa
