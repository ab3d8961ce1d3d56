/-
  MapPoint, by the program and by the reference.
-/
import Derived.Test.YtihfdgnocdphcaaMapP
namespace Go.Proofs.Ytihfdgnocdphcaa
open Go.RowKit Knot

set_option maxHeartbeats 4000000 in
theorem K_impl_MapPoint {w : World} {lo hi : Nat} {W H x y s px py r : Int} {v : Value} {xs : List Int} (hp : IntsIn w lo hi v xs) (hm : mpM ⟨W, H, xs⟩ x y s = (px, py, r)) :
    Calls Try.prog 24 #[.agg #[.int .i64 W, .int .i64 H, v], .agg #[.int .i64 x, .int .i64 y], .int .i64 s] w fun e w' => e = .returned (.tuple #[.agg #[.int .i64 px, .int .i64 py], .int .i64 r]) ∧ Below w.heap.size w w' := by
  obtain ⟨A, c, rfl, _, _⟩ := hp.1.open_
  have bl := Joins.below_alloc3 w (.cells #[.int .i64 W, .int .i64 H, .slice A xs.length c] 30) (.cells #[.int .i64 x, .int .i64 y] 36) (.cells #[.int .i64 0, .int .i64 0] 36)
  have ba := ((Box.new w 30 #[.int .i64 W, .int .i64 H, .slice A xs.length c]).alloc (.cells #[.int .i64 x, .int .i64 y] 36)).alloc (.cells #[.int .i64 0, .int .i64 0] 36)
  have bb := (Box.new (w.alloc (.cells #[.int .i64 W, .int .i64 H, .slice A xs.length c] 30)) 36 #[.int .i64 x, .int .i64 y]).alloc (.cells #[.int .i64 0, .int .i64 0] 36)
  have br := Box.new ((w.alloc (.cells #[.int .i64 W, .int .i64 H, .slice A xs.length c] 30)).alloc (.cells #[.int .i64 x, .int .i64 y] 36)) 36 #[.int .i64 0, .int .i64 0]
  rw [World.size_alloc] at bb
  rw [World.size_alloc, World.size_alloc] at br
  have hp1 := (hp.below bl).ints
  clear hp
  by_cases ho : Ok ⟨W, H, xs⟩
  rotate_left
  · skip
    obtain ⟨rfl, rfl, rfl⟩ : 0 = px ∧ 0 = py ∧ 1 = r := by simpa [mpM, ho] using hm
    have HO := Lib.hid ho
    clear hm ho
    have q0 := ba.cell 0
    have q1 := ba.cell 1
    have q2 := ba.cell 2
    have qn := ba.lt
    have p0 := bb.cell 0
    have p1 := bb.cell 1
    have pn := bb.lt
    go_enter Try.func24, Try.ntmps24
    go_wp2_with fail
    refine (ValidPanel_any W H _ xs false (no_iff HO.out) _ hp1).mono ?_
    rintro e w2 ⟨rfl, hb⟩
    replace ba := ba.below hb
    replace bb := bb.below hb
    replace br := br.below hb
    replace bl := bnext bl hb
    replace hp1 : Ints _ _ _ _ := Row.below hp1 hb
    clear q0 q1 q2 qn p0 p1 pn hb
    have x0 := br.cell 0
    have x1 := br.cell 1
    have y0 := br.free 0
    have y1 := br.free 1
    have xn := br.lt
    go_wp2
    refine bodyPost_ret (v := .tuple #[.agg #[.int .i64 0, .int .i64 0], .int .i64 1]) (by simp [results, Try.results24, go_sem, x0, x1, y0, y1, xn]) rfl ⟨rfl, ?_⟩
    exact (bl.setCell (p := ⟨w.heap.size + 1 + 1, 0, none⟩) (by simp; omega) _).setCell (p := ⟨w.heap.size + 1 + 1, 1, none⟩) (by simp; omega) _
  have HO := Lib.hid ho
  have W0 : 0 ≤ W := by have := ho.w1; simp only [] at this; omega
  have W8 : W ≤ 8 := ho.w8
  have H0 : 0 ≤ H := by have := ho.h1; simp only [] at this; omega
  have H8 : H ≤ 8 := ho.h8
  cases hs : symOk s
  · skip
    obtain ⟨rfl, rfl, rfl⟩ : 0 = px ∧ 0 = py ∧ 2 = r := by simpa [mpM, ho, hs] using hm
    have HS := Lib.hid hs
    clear hm ho hs
    have q0 := ba.cell 0
    have q1 := ba.cell 1
    have q2 := ba.cell 2
    have qn := ba.lt
    have p0 := bb.cell 0
    have p1 := bb.cell 1
    have pn := bb.lt
    go_enter Try.func24, Try.ntmps24
    go_wp2_with fail
    refine (ValidPanel_any W H _ xs true (yes_iff HO.out) _ hp1).mono ?_
    rintro e w2 ⟨rfl, hb⟩
    replace ba := ba.below hb
    replace bb := bb.below hb
    replace br := br.below hb
    replace bl := bnext bl hb
    replace hp1 : Ints _ _ _ _ := Row.below hp1 hb
    clear q0 q1 q2 qn p0 p1 pn hb
    have q0 := ba.cell 0
    have q1 := ba.cell 1
    have q2 := ba.cell 2
    have qn := ba.lt
    have p0 := bb.cell 0
    have p1 := bb.cell 1
    have pn := bb.lt
    go_wp2_with fail
    refine (validSym_any s false HS.out _).mono ?_
    rintro e w' ⟨rfl, rfl⟩
    clear q0 q1 q2 qn p0 p1 pn
    have x0 := br.cell 0
    have x1 := br.cell 1
    have y0 := br.free 0
    have y1 := br.free 1
    have xn := br.lt
    go_wp2
    refine bodyPost_ret (v := .tuple #[.agg #[.int .i64 0, .int .i64 0], .int .i64 2]) (by simp [results, Try.results24, go_sem, x0, x1, y0, y1, xn]) rfl ⟨rfl, ?_⟩
    exact (bl.setCell (p := ⟨w.heap.size + 1 + 1, 0, none⟩) (by simp; omega) _).setCell (p := ⟨w.heap.size + 1 + 1, 1, none⟩) (by simp; omega) _
  have HS := Lib.hid hs
  by_cases hh : Has ⟨W, H, xs⟩ x y
  rotate_left
  · skip
    obtain ⟨rfl, rfl, rfl⟩ : 0 = px ∧ 0 = py ∧ 2 = r := by simpa [mpM, ho, hs, hh] using hm
    have HH := Lib.hid hh
    clear hm ho hs hh
    have q0 := ba.cell 0
    have q1 := ba.cell 1
    have q2 := ba.cell 2
    have qn := ba.lt
    have p0 := bb.cell 0
    have p1 := bb.cell 1
    have pn := bb.lt
    go_enter Try.func24, Try.ntmps24
    go_wp2_with fail
    refine (ValidPanel_any W H _ xs true (yes_iff HO.out) _ hp1).mono ?_
    rintro e w2 ⟨rfl, hb⟩
    replace ba := ba.below hb
    replace bb := bb.below hb
    replace br := br.below hb
    replace bl := bnext bl hb
    replace hp1 : Ints _ _ _ _ := Row.below hp1 hb
    clear q0 q1 q2 qn p0 p1 pn hb
    have q0 := ba.cell 0
    have q1 := ba.cell 1
    have q2 := ba.cell 2
    have qn := ba.lt
    have p0 := bb.cell 0
    have p1 := bb.cell 1
    have pn := bb.lt
    go_wp2_with fail
    refine (validSym_any s true HS.out _).mono ?_
    rintro e w' ⟨rfl, rfl⟩
    go_wp2_with fail
    refine (isPoint_any (B := xs) ⟨W0, by omega⟩ ⟨H0, by omega⟩ (no_iff HH.out)).mono ?_
    rintro e w3 ⟨rfl, hb⟩
    replace ba := ba.below hb
    replace bb := bb.below hb
    replace br := br.below hb
    replace bl := bnext bl hb
    replace hp1 : Ints _ _ _ _ := Row.below hp1 hb
    clear q0 q1 q2 qn p0 p1 pn hb
    have x0 := br.cell 0
    have x1 := br.cell 1
    have y0 := br.free 0
    have y1 := br.free 1
    have xn := br.lt
    go_wp2
    refine bodyPost_ret (v := .tuple #[.agg #[.int .i64 0, .int .i64 0], .int .i64 2]) (by simp [results, Try.results24, go_sem, x0, x1, y0, y1, xn]) rfl ⟨rfl, ?_⟩
    exact (bl.setCell (p := ⟨w.heap.size + 1 + 1, 0, none⟩) (by simp; omega) _).setCell (p := ⟨w.heap.size + 1 + 1, 1, none⟩) (by simp; omega) _
  obtain ⟨a0, a1, hq⟩ : ∃ a0 a1, mapX W H x y s = (a0, a1) := ⟨_, _, rfl⟩
  obtain ⟨rfl, rfl, rfl⟩ : a0 = px ∧ a1 = py ∧ 0 = r := by simpa [mpM, ho, hs, hh, hq] using hm
  have HH := Lib.hid hh
  have HQ := Lib.hid hq
  have HX : Hid ((0 ≤ x ∧ x ≤ 2 * W) ∧ 0 ≤ y ∧ y ≤ 2 * H) := Lib.hid ⟨⟨hh.1, hh.2.1⟩, hh.2.2.1, hh.2.2.2.1⟩
  clear hm ho hs hh hq
  have q0 := ba.cell 0
  have q1 := ba.cell 1
  have q2 := ba.cell 2
  have qn := ba.lt
  have p0 := bb.cell 0
  have p1 := bb.cell 1
  have pn := bb.lt
  go_enter Try.func24, Try.ntmps24
  go_wp2_with fail
  refine (ValidPanel_any W H _ xs true (yes_iff HO.out) _ hp1).mono ?_
  rintro e w2 ⟨rfl, hb⟩
  replace ba := ba.below hb
  replace bb := bb.below hb
  replace br := br.below hb
  replace bl := bnext bl hb
  replace hp1 : Ints _ _ _ _ := Row.below hp1 hb
  clear q0 q1 q2 qn p0 p1 pn hb
  have q0 := ba.cell 0
  have q1 := ba.cell 1
  have q2 := ba.cell 2
  have qn := ba.lt
  have p0 := bb.cell 0
  have p1 := bb.cell 1
  have pn := bb.lt
  go_wp2_with fail
  refine (validSym_any s true HS.out _).mono ?_
  rintro e w' ⟨rfl, rfl⟩
  go_wp2_with fail
  refine (isPoint_any (B := xs) ⟨W0, by omega⟩ ⟨H0, by omega⟩ (yes_iff HH.out)).mono ?_
  rintro e w3 ⟨rfl, hb⟩
  replace ba := ba.below hb
  replace bb := bb.below hb
  replace br := br.below hb
  replace bl := bnext bl hb
  replace hp1 : Ints _ _ _ _ := Row.below hp1 hb
  clear q0 q1 q2 qn p0 p1 pn hb
  have q0 := ba.cell 0
  have q1 := ba.cell 1
  have q2 := ba.cell 2
  have qn := ba.lt
  have p0 := bb.cell 0
  have p1 := bb.cell 1
  have pn := bb.lt
  go_wp2_with fail
  refine (mapPoint_any ⟨W0, by omega⟩ ⟨H0, by omega⟩ HX.out.1 HX.out.2 HS.out HQ.out).mono ?_
  rintro e w4 ⟨rfl, hb⟩
  replace ba := ba.below hb
  replace bb := bb.below hb
  replace br := br.below hb
  replace bl := bnext bl hb
  replace hp1 : Ints _ _ _ _ := Row.below hp1 hb
  clear q0 q1 q2 qn p0 p1 pn hb
  have x0 := br.cell 0
  have x1 := br.cell 1
  have y0 := br.free 0
  have y1 := br.free 1
  have xn := br.lt
  go_wp2
  refine bodyPost_ret (v := .tuple #[.agg #[.int .i64 a0, .int .i64 a1], .int .i64 0]) (by simp [results, Try.results24, go_sem, x0, x1, y0, y1, xn]) rfl ⟨rfl, ?_⟩
  exact (bl.setCell (p := ⟨w.heap.size + 1 + 1, 0, none⟩) (by simp; omega) _).setCell (p := ⟨w.heap.size + 1 + 1, 1, none⟩) (by simp; omega) _
set_option maxHeartbeats 4000000 in
theorem K_spec_MapPoint {w : World} {lo hi : Nat} {W H x y s px py r : Int} {v : Value} {xs : List Int} (hp : IntsIn w lo hi v xs) (hm : mpM ⟨W, H, xs⟩ x y s = (px, py, r)) :
    Calls Try.prog 22 #[.agg #[.int .i64 W, .int .i64 H, v], .agg #[.int .i64 x, .int .i64 y], .int .i64 s] w fun e w' => e = .returned (.tuple #[.agg #[.int .i64 px, .int .i64 py], .int .i64 r]) ∧ Below w.heap.size w w' := by
  obtain ⟨A, c, rfl, _, _⟩ := hp.1.open_
  have bl := Joins.below_alloc3 w (.cells #[.int .i64 W, .int .i64 H, .slice A xs.length c] 30) (.cells #[.int .i64 x, .int .i64 y] 36) (.cells #[.int .i64 0, .int .i64 0] 36)
  have ba := ((Box.new w 30 #[.int .i64 W, .int .i64 H, .slice A xs.length c]).alloc (.cells #[.int .i64 x, .int .i64 y] 36)).alloc (.cells #[.int .i64 0, .int .i64 0] 36)
  have bb := (Box.new (w.alloc (.cells #[.int .i64 W, .int .i64 H, .slice A xs.length c] 30)) 36 #[.int .i64 x, .int .i64 y]).alloc (.cells #[.int .i64 0, .int .i64 0] 36)
  have br := Box.new ((w.alloc (.cells #[.int .i64 W, .int .i64 H, .slice A xs.length c] 30)).alloc (.cells #[.int .i64 x, .int .i64 y] 36)) 36 #[.int .i64 0, .int .i64 0]
  rw [World.size_alloc] at bb
  rw [World.size_alloc, World.size_alloc] at br
  have hp1 := (hp.below bl).ints
  clear hp
  by_cases ho : Ok ⟨W, H, xs⟩
  rotate_left
  · skip
    obtain ⟨rfl, rfl, rfl⟩ : 0 = px ∧ 0 = py ∧ 1 = r := by simpa [mpM, ho] using hm
    have HO := Lib.hid ho
    have HCC : Hid (scM ⟨W, H, xs⟩ s = 1) := Lib.hid (by simp [scM, ho])
    clear hm ho
    have q0 := ba.cell 0
    have q1 := ba.cell 1
    have q2 := ba.cell 2
    have qn := ba.lt
    have p0 := bb.cell 0
    have p1 := bb.cell 1
    have pn := bb.lt
    go_enter Try.func22, Try.ntmps22
    go_wp2_with fail
    refine (l06Code_any (xs := xs) ⟨ba, hp1⟩ HCC.out).mono ?_
    rintro e w2 ⟨rfl, hb⟩
    replace ba := ba.below hb
    replace bb := bb.below hb
    replace br := br.below hb
    replace bl := bnext bl hb
    replace hp1 : Ints _ _ _ _ := Row.below hp1 hb
    clear q0 q1 q2 qn p0 p1 pn hb
    have x0 := br.cell 0
    have x1 := br.cell 1
    have y0 := br.free 0
    have y1 := br.free 1
    have xn := br.lt
    go_wp2
    refine bodyPost_ret (v := .tuple #[.agg #[.int .i64 0, .int .i64 0], .int .i64 1]) (by simp [results, Try.results22, go_sem, x0, x1, y0, y1, xn]) rfl ⟨rfl, ?_⟩
    exact (bl.setCell (p := ⟨w.heap.size + 1 + 1, 0, none⟩) (by simp; omega) _).setCell (p := ⟨w.heap.size + 1 + 1, 1, none⟩) (by simp; omega) _
  have HO := Lib.hid ho
  have W0 : 0 ≤ W := by have := ho.w1; simp only [] at this; omega
  have W8 : W ≤ 8 := ho.w8
  have H0 : 0 ≤ H := by have := ho.h1; simp only [] at this; omega
  have H8 : H ≤ 8 := ho.h8
  cases hs : symOk s
  · skip
    obtain ⟨rfl, rfl, rfl⟩ : 0 = px ∧ 0 = py ∧ 2 = r := by simpa [mpM, ho, hs] using hm
    have HS := Lib.hid hs
    have HCC : Hid (scM ⟨W, H, xs⟩ s = 2) := Lib.hid (by simp [scM, ho, hs])
    clear hm ho hs
    have q0 := ba.cell 0
    have q1 := ba.cell 1
    have q2 := ba.cell 2
    have qn := ba.lt
    have p0 := bb.cell 0
    have p1 := bb.cell 1
    have pn := bb.lt
    go_enter Try.func22, Try.ntmps22
    go_wp2_with fail
    refine (l06Code_any (xs := xs) ⟨ba, hp1⟩ HCC.out).mono ?_
    rintro e w2 ⟨rfl, hb⟩
    replace ba := ba.below hb
    replace bb := bb.below hb
    replace br := br.below hb
    replace bl := bnext bl hb
    replace hp1 : Ints _ _ _ _ := Row.below hp1 hb
    clear q0 q1 q2 qn p0 p1 pn hb
    have x0 := br.cell 0
    have x1 := br.cell 1
    have y0 := br.free 0
    have y1 := br.free 1
    have xn := br.lt
    go_wp2
    refine bodyPost_ret (v := .tuple #[.agg #[.int .i64 0, .int .i64 0], .int .i64 2]) (by simp [results, Try.results22, go_sem, x0, x1, y0, y1, xn]) rfl ⟨rfl, ?_⟩
    exact (bl.setCell (p := ⟨w.heap.size + 1 + 1, 0, none⟩) (by simp; omega) _).setCell (p := ⟨w.heap.size + 1 + 1, 1, none⟩) (by simp; omega) _
  have HS := Lib.hid hs
  have HCC : Hid (scM ⟨W, H, xs⟩ s = 0) := Lib.hid (by simp [scM, ho, hs])
  by_cases hh : Has ⟨W, H, xs⟩ x y
  rotate_left
  · skip
    obtain ⟨rfl, rfl, rfl⟩ : 0 = px ∧ 0 = py ∧ 2 = r := by simpa [mpM, ho, hs, hh] using hm
    have HH := Lib.hid hh
    clear hm ho hs hh
    have q0 := ba.cell 0
    have q1 := ba.cell 1
    have q2 := ba.cell 2
    have qn := ba.lt
    have p0 := bb.cell 0
    have p1 := bb.cell 1
    have pn := bb.lt
    go_enter Try.func22, Try.ntmps22
    go_wp2_with fail
    refine (l06Code_any (xs := xs) ⟨ba, hp1⟩ HCC.out).mono ?_
    rintro e w2 ⟨rfl, hb⟩
    replace ba := ba.below hb
    replace bb := bb.below hb
    replace br := br.below hb
    replace bl := bnext bl hb
    replace hp1 : Ints _ _ _ _ := Row.below hp1 hb
    clear q0 q1 q2 qn p0 p1 pn hb
    have q0 := ba.cell 0
    have q1 := ba.cell 1
    have q2 := ba.cell 2
    have qn := ba.lt
    have p0 := bb.cell 0
    have p1 := bb.cell 1
    have pn := bb.lt
    go_wp2_with fail
    refine (l02Has_any (B := xs) ba ⟨W0, by omega⟩ ⟨H0, by omega⟩ (no_iff HH.out)).mono ?_
    rintro e w3 ⟨rfl, hb⟩
    replace ba := ba.below hb
    replace bb := bb.below hb
    replace br := br.below hb
    replace bl := bnext bl hb
    replace hp1 : Ints _ _ _ _ := Row.below hp1 hb
    clear q0 q1 q2 qn p0 p1 pn hb
    have x0 := br.cell 0
    have x1 := br.cell 1
    have y0 := br.free 0
    have y1 := br.free 1
    have xn := br.lt
    go_wp2
    refine bodyPost_ret (v := .tuple #[.agg #[.int .i64 0, .int .i64 0], .int .i64 2]) (by simp [results, Try.results22, go_sem, x0, x1, y0, y1, xn]) rfl ⟨rfl, ?_⟩
    exact (bl.setCell (p := ⟨w.heap.size + 1 + 1, 0, none⟩) (by simp; omega) _).setCell (p := ⟨w.heap.size + 1 + 1, 1, none⟩) (by simp; omega) _
  obtain ⟨a0, a1, hq⟩ : ∃ a0 a1, mapX W H x y s = (a0, a1) := ⟨_, _, rfl⟩
  obtain ⟨rfl, rfl, rfl⟩ : a0 = px ∧ a1 = py ∧ 0 = r := by simpa [mpM, ho, hs, hh, hq] using hm
  have HH := Lib.hid hh
  have HQ := Lib.hid hq
  have HX : Hid ((0 ≤ x ∧ x ≤ 2 * W) ∧ 0 ≤ y ∧ y ≤ 2 * H) := Lib.hid ⟨⟨hh.1, hh.2.1⟩, hh.2.2.1, hh.2.2.2.1⟩
  clear hm ho hs hh hq
  have q0 := ba.cell 0
  have q1 := ba.cell 1
  have q2 := ba.cell 2
  have qn := ba.lt
  have p0 := bb.cell 0
  have p1 := bb.cell 1
  have pn := bb.lt
  go_enter Try.func22, Try.ntmps22
  go_wp2_with fail
  refine (l06Code_any (xs := xs) ⟨ba, hp1⟩ HCC.out).mono ?_
  rintro e w2 ⟨rfl, hb⟩
  replace ba := ba.below hb
  replace bb := bb.below hb
  replace br := br.below hb
  replace bl := bnext bl hb
  replace hp1 : Ints _ _ _ _ := Row.below hp1 hb
  clear q0 q1 q2 qn p0 p1 pn hb
  have q0 := ba.cell 0
  have q1 := ba.cell 1
  have q2 := ba.cell 2
  have qn := ba.lt
  have p0 := bb.cell 0
  have p1 := bb.cell 1
  have pn := bb.lt
  go_wp2_with fail
  refine (l02Has_any (B := xs) ba ⟨W0, by omega⟩ ⟨H0, by omega⟩ (yes_iff HH.out)).mono ?_
  rintro e w3 ⟨rfl, hb⟩
  replace ba := ba.below hb
  replace bb := bb.below hb
  replace br := br.below hb
  replace bl := bnext bl hb
  replace hp1 : Ints _ _ _ _ := Row.below hp1 hb
  clear q0 q1 q2 qn p0 p1 pn hb
  have q0 := ba.cell 0
  have q1 := ba.cell 1
  have q2 := ba.cell 2
  have qn := ba.lt
  have p0 := bb.cell 0
  have p1 := bb.cell 1
  have pn := bb.lt
  go_wp2_with fail
  refine (l06Point_any ⟨W0, by omega⟩ ⟨H0, by omega⟩ HX.out.1 HX.out.2 HS.out HQ.out).mono ?_
  rintro e w4 ⟨rfl, hb⟩
  replace ba := ba.below hb
  replace bb := bb.below hb
  replace br := br.below hb
  replace bl := bnext bl hb
  replace hp1 : Ints _ _ _ _ := Row.below hp1 hb
  clear q0 q1 q2 qn p0 p1 pn hb
  have x0 := br.cell 0
  have x1 := br.cell 1
  have y0 := br.free 0
  have y1 := br.free 1
  have xn := br.lt
  go_wp2
  refine bodyPost_ret (v := .tuple #[.agg #[.int .i64 a0, .int .i64 a1], .int .i64 0]) (by simp [results, Try.results22, go_sem, x0, x1, y0, y1, xn]) rfl ⟨rfl, ?_⟩
  exact (bl.setCell (p := ⟨w.heap.size + 1 + 1, 0, none⟩) (by simp; omega) _).setCell (p := ⟨w.heap.size + 1 + 1, 1, none⟩) (by simp; omega) _
end Go.Proofs.Ytihfdgnocdphcaa
