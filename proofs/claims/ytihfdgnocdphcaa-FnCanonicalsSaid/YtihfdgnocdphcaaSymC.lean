/-
  The least panel to which a symmetry moves a panel: CanonicalPanel, by the program and by the reference.
-/
import Derived.Test.YtihfdgnocdphcaaSymB
import Derived.Test.YtihfdgnocdphcaaCmp
import Derived.Test.YtihfdgnocdphcaaApp
namespace Go.Proofs.Ytihfdgnocdphcaa
open Go.RowKit Knot

/-- What CanonicalPanel answers. -/
def canM (p : Pan) : Int × Int × List Int × Int := if Ok p then ((leastTo p 7).W, (leastTo p 7).H, (leastTo p 7).B, 0) else (0, 0, [], 1)
/-- Block k is a box of three cells. -/
def Three (w : World) (k : Nat) (t : TypeId) : Prop := ∃ u0 u1 u2, Box w k t #[u0, u1, u2]
theorem Three.below {w w' : World} {k : Nat} {t : TypeId} (h : Three w k t) (hb : Below w.heap.size w w') : Three w' k t := by
  obtain ⟨u0, u1, u2, h⟩ := h
  exact ⟨u0, u1, u2, h.below hb⟩
set_option maxHeartbeats 2000000 in
theorem l02Own_any {w : World} {b lo hi : Nat} {W H : Int} {v : Value} {xs : List Int} (hx : Box w b 30 #[.int .i64 W, .int .i64 H, v]) (hp : IntsIn w lo hi v xs) :
    Calls Try.prog 88 #[.pointer (some ⟨b, 0, none⟩)] w fun e w' => ∃ A c, e = .returned (.agg #[.int .i64 W, .int .i64 H, .slice A xs.length c]) ∧
      IntsIn w' w.heap.size w'.heap.size (.slice A xs.length c) xs ∧ Below w.heap.size w w' := by
  obtain ⟨A1, c1, rfl, _, _⟩ := hp.1.open_
  have bl := Joins.below_alloc1 w (.cells #[.int .i64 0, .int .i64 0, .slice none 0 0] 30)
  have ba := hx.alloc (.cells #[.int .i64 0, .int .i64 0, .slice none 0 0] 30)
  have bb := Box.new w 30 #[.int .i64 0, .int .i64 0, .slice none 0 0]
  have hbl := hx.lt
  have hp1 := hp.alloc (.cells #[.int .i64 0, .int .i64 0, .slice none 0 0] 30)
  go_enter Try.func88, Try.ntmps88
  go_wp2
  generalize (w.alloc (.cells #[.int .i64 0, .int .i64 0, .slice none 0 0] 30)) = V at ba bb bl hp1 ⊢
  have q0 := ba.cell 0
  have q1 := ba.cell 1
  have q2 := ba.cell 2
  simp only [List.getElem?_toArray, List.getElem?_cons_zero, List.getElem?_cons_succ] at q0 q1 q2
  have h63 := bb.lt
  have hpd : IntsIn V.drew lo hi (.slice A1 xs.length c1) xs := hp1.below (below_drewN _ V 1)
  have hne : (⟨b, 0, none⟩ : Addr).block ≠ w.heap.size := show b ≠ w.heap.size by omega
  clear ba
  go_region_held3 (fun w' => w'.cell? ⟨b, 0, none⟩ = some (.int .i64 W) ∧ w'.cell? ⟨b, 1, none⟩ = some (.int .i64 H) ∧ w'.cell? ⟨b, 2, none⟩ = some (.slice A1 xs.length c1))
    (first | exact ⟨cell_f hne (cell_f hne (cell_f hne k0)), cell_f hne (cell_f hne (cell_f hne k1)), cell_f hne (cell_f hne (cell_f hne k2))⟩
           | exact ⟨k0, k1, k2⟩
           | exact ⟨q0, q1, q2⟩)
    ((go_at_call 127; (with_reducible refine (l00Own_any hpd).mono ?_); rintro e w5 ⟨D1, d1, rfl, i1, g1⟩; have k0 := cell_b g1 (show (V.drew).cell? ⟨b, 0, none⟩ = _ from q0); have k1 := cell_b g1 (show (V.drew).cell? ⟨b, 1, none⟩ = _ from q1); have k2 := cell_b g1 (show (V.drew).cell? ⟨b, 2, none⟩ = _ from q2); have bx := (Box.drew1 bb).below g1; have x0 := bx.cell 0; have x1 := bx.cell 1; have x2 := bx.cell 2; have y0 := bx.free 0; have y1 := bx.free 1; have y2 := bx.free 2; have xn := bx.lt))
  have sz := g1.size
  have hV := bl.size
  simp only [World.size_drew] at sz
  have B5 : Below w.heap.size w w5 := bl.trans ((below_drewN _ V 1).trans (g1.mono (by simp; omega)))
  clear k0 k1 k2 q0 q1 q2
  go_split_ands
  go_wp2
  refine bodyPost_ret (v := .agg #[.int .i64 W, .int .i64 H, .slice D1 xs.length d1]) (by simp [results, Try.results88, go_sem, xn, x0, x1, x2, y0, y1, y2]) rfl ⟨D1, d1, rfl, ?_, ?_⟩
  · exact (((i1.at_store (p := ⟨w.heap.size, 0, none⟩) (by simp; omega) _).at_store (p := ⟨w.heap.size, 1, none⟩) (by simp; omega) _).at_store (p := ⟨w.heap.size, 2, none⟩) (by simp; omega) _).wider (by simp; omega) (by simp) (Nat.le_refl _)
  · exact ((B5.setCell (p := ⟨w.heap.size, 0, none⟩) (Nat.le_refl _) _).setCell (p := ⟨w.heap.size, 1, none⟩) (Nat.le_refl _) _).setCell (p := ⟨w.heap.size, 2, none⟩) (Nat.le_refl _) _
set_option maxHeartbeats 8000000 in
theorem canonical_any {w : World} {lo hi : Nat} {W H : Int} {v : Value} {xs : List Int} (hp : IntsIn w lo hi v xs) (ho : Ok ⟨W, H, xs⟩) :
    Calls Try.prog 98 #[.agg #[.int .i64 W, .int .i64 H, v]] w fun e w' => ∃ A c, e = .returned (.agg #[.int .i64 (leastTo (⟨W, H, xs⟩ : Pan) 7).W, .int .i64 (leastTo (⟨W, H, xs⟩ : Pan) 7).H, .slice A xs.length c]) ∧
      IntsIn w' w.heap.size w'.heap.size (.slice A xs.length c) (leastTo (⟨W, H, xs⟩ : Pan) 7).B ∧ Below w.heap.size w w' := by
  obtain ⟨A, cA, rfl, lA, _⟩ := hp.1.open_
  have bl := Joins.below_alloc2 w (.cells #[.int .i64 W, .int .i64 H, .slice A xs.length cA] 30) (.cells #[.int .i64 0, .int .i64 0, .slice none 0 0] 30)
  have ba := (Box.new w 30 #[.int .i64 W, .int .i64 H, .slice A xs.length cA]).alloc (.cells #[.int .i64 0, .int .i64 0, .slice none 0 0] 30)
  have br := Box.new (w.alloc (.cells #[.int .i64 W, .int .i64 H, .slice A xs.length cA] 30)) 30 #[.int .i64 0, .int .i64 0, .slice none 0 0]
  rw [World.size_alloc] at br
  have hl := hp.len
  have hphi := hp.2.2.1
  have hp1 := hp.below bl
  have HO := Lib.hid ho
  have H0S : Hid (symOk 0 = true) := Lib.hid rfl
  have hM0 : Hid (mapW W H 0 = W ∧ mapH W H 0 = H ∧ mapTo W H 0 xs xs.length xs.length = xs) := Lib.hid ((mapP_eq W H 0 xs ⟨W, H, xs⟩).1 (mapP_zero (p := ⟨W, H, xs⟩) ⟨ho.w1, ho.w8⟩))
  have hVs : w.heap.size + 2 ≤ ((w.alloc (.cells #[.int .i64 W, .int .i64 H, .slice A xs.length cA] 30)).alloc (.cells #[.int .i64 0, .int .i64 0, .slice none 0 0] 30)).heap.size := by simp
  clear hp ho
  have q0 := ba.cell 0
  have q1 := ba.cell 1
  have q2 := ba.cell 2
  have qn := ba.lt

  go_enter Try.func98, Try.ntmps98
  go_wp2_with fail
  refine (mapPanel_any hp1 HO.out H0S.out).mono ?_
  rintro e w2 ⟨D, d, rfl, i1, hb⟩
  rw [hM0.out.1, hM0.out.2.1]
  rw [hM0.out.2.2] at i1
  clear q0 q1 q2 qn
  have s2 := hb.size
  replace ba := ba.below hb
  replace br := br.below hb
  replace bl := bnext bl hb
  replace hp1 := hp1.below hb
  replace ba := ba.alloc (.cells #[.int .i64 W, .int .i64 H, .slice D xs.length d] 30)
  replace br := br.alloc (.cells #[.int .i64 W, .int .i64 H, .slice D xs.length d] 30)
  replace bl := bnext bl (Joins.below_alloc1 _ (.cells #[.int .i64 W, .int .i64 H, .slice D xs.length d] 30))
  replace hp1 := hp1.alloc (.cells #[.int .i64 W, .int .i64 H, .slice D xs.length d] 30)
  have bb := Box.new w2 30 #[.int .i64 W, .int .i64 H, .slice D xs.length d]
  have ib : Ints (w2.alloc (.cells #[.int .i64 W, .int .i64 H, .slice D xs.length d] 30)) (w.heap.size + 2) (.slice D xs.length d) xs := Row.le (Row.alloc i1.1 _) hVs
  have nb : ∀ g, (Value.slice D xs.length d).ownBlock = some g → g ≠ w2.heap.size := fun g hg => by have := (Row.lt i1.1 hg).2; omega
  clear hb i1
  go_wp2
  generalize hG : (w2.alloc (.cells #[.int .i64 W, .int .i64 H, .slice D xs.length d] 30)) = V at ba br bb ib bl hp1 ⊢
  have hVsz : V.heap.size = w2.heap.size + 1 := by rw [← hG]; simp
  have HVS := Lib.hid hVsz
  clear hG hVsz
  go_loopw [4] (fun i wr => ∃ (k : Nat) (E : Option Addr) (c : Nat), k ≤ 7 ∧ i = .int .i64 ((k : Int) + 1) ∧ Box wr w2.heap.size 30 #[.int .i64 (leastTo (⟨W, H, xs⟩ : Pan) k).W, .int .i64 (leastTo (⟨W, H, xs⟩ : Pan) k).H, .slice E xs.length c] ∧
      Ints wr (w.heap.size + 2) (.slice E xs.length c) (leastTo (⟨W, H, xs⟩ : Pan) k).B ∧ (∀ g, (Value.slice E xs.length c).ownBlock = some g → g ≠ w2.heap.size) ∧ V.grownBy wr (some w2.heap.size)) (fun i _ => 8 - (intOf i).toNat)
  case atStart => exact ⟨0, D, d, by omega, rfl, bb, ib, nb, gb_refl _ _⟩
  case round =>
    obtain ⟨k, E, c, hk, rfl, bw, iw, nw, hg⟩ := hrel
    clear bb ib nb
    have hvs := HVS.out
    have hgs := hg.size
    have hba := ba.lt
    have hbr := br.lt
    have ba2 := ba.grown hg (fun e => by simp at e; omega)
    have br2 := br.grown hg (fun e => by simp at e; omega)
    have bl2 : Below w.heap.size w wr := bl.grown hg bl.size (fun j hj => by simp at hj; omega)
    have hp2 : IntsIn wr lo hi (.slice A xs.length cA) xs := ⟨Row.keep hp1.1 fun j hj hjl => hg.block j hjl (fun e => by have := hp1.2.1 j hj; simp at e; omega), hp1.2.1, by have := hp1.2.2.1; omega, hp1.2.2.2⟩
    by_cases hlt : k < 7
    · have i1 : (k : Int) + 1 ≤ 7 := by omega
      have i2 : (k : Int) + 1 < 8 := by omega
      have HS : Hid (symOk ((k : Int) + 1) = true) := Lib.hid (inR_t ⟨by omega, by omega⟩)
      have HL := mapTo_length W H ((k : Int) + 1) xs xs.length xs.length
      have LL := leastTo_len (⟨W, H, xs⟩ : Pan) k
      simp only [] at LL
      obtain ⟨r, hr⟩ : ∃ r, cmpP (mapP (⟨W, H, xs⟩ : Pan) ((k : Int) + 1)) (leastTo (⟨W, H, xs⟩ : Pan) k) = r := ⟨_, rfl⟩
      have HR : Hid (cmpP ⟨mapW W H ((k : Int) + 1), mapH W H ((k : Int) + 1), mapTo W H ((k : Int) + 1) xs xs.length xs.length⟩ ⟨(leastTo (⟨W, H, xs⟩ : Pan) k).W, (leastTo (⟨W, H, xs⟩ : Pan) k).H, (leastTo (⟨W, H, xs⟩ : Pan) k).B⟩ = r) := Lib.hid hr
      have HLL := Lib.hid LL
      have HML := Lib.hid HL
      clear HL LL
      have q0 := ba2.cell 0
      have q1 := ba2.cell 1
      have q2 := ba2.cell 2
      have qn := ba2.lt
      by_cases hneg : r < 0
      · have HY : Hid (leastTo (⟨W, H, xs⟩ : Pan) (k + 1) = mapP (⟨W, H, xs⟩ : Pan) ((k : Int) + 1)) := Lib.hid (leastTo_yes (by rw [show (((k + 1 : Nat)) : Int) = (k : Int) + 1 by omega, hr]; exact hneg))
        clear hr
        go_wp2_with fail
        refine (mapPanel_any hp2 HO.out HS.out).mono ?_
        rintro e w5 ⟨E5, d5, rfl, i5, hb5⟩
        clear q0 q1 q2 qn
        have bx5 := Box.new w5 30 #[.int .i64 (mapW W H ((k : Int) + 1)), .int .i64 (mapH W H ((k : Int) + 1)), .slice E5 xs.length d5]
        have s5 := hb5.size
        have bw5 := (bw.below hb5).alloc (.cells #[.int .i64 (mapW W H ((k : Int) + 1)), .int .i64 (mapH W H ((k : Int) + 1)), .slice E5 xs.length d5] 30)
        have iw5 : Ints (w5.alloc (.cells #[.int .i64 (mapW W H ((k : Int) + 1)), .int .i64 (mapH W H ((k : Int) + 1)), .slice E5 xs.length d5] 30)) (w.heap.size + 2) (.slice E xs.length c) (leastTo (⟨W, H, xs⟩ : Pan) k).B := Row.alloc (Row.below iw hb5) _
        have ie5 : Ints (w5.alloc (.cells #[.int .i64 (mapW W H ((k : Int) + 1)), .int .i64 (mapH W H ((k : Int) + 1)), .slice E5 xs.length d5] 30)) (w.heap.size + 2) (.slice E5 xs.length d5) (mapTo W H ((k : Int) + 1) xs xs.length xs.length) := Row.le (Row.alloc i5.1 _) (by omega)
        have ne5 : ∀ g, (Value.slice E5 xs.length d5).ownBlock = some g → g ≠ w2.heap.size := fun g hg' => by have := (Row.lt i5.1 hg').1; omega
        have g5 := gb_below (gb_below hg hb5) (Joins.below_alloc1 _ (.cells #[.int .i64 (mapW W H ((k : Int) + 1)), .int .i64 (mapH W H ((k : Int) + 1)), .slice E5 xs.length d5] 30))
        have q0 := bx5.cell 0
        have q1 := bx5.cell 1
        have q2 := bx5.cell 2
        have qn := bx5.lt
        have o0 := bw5.cell 0
        have o1 := bw5.cell 1
        have o2 := bw5.cell 2
        have on := bw5.lt
        go_wp2_with fail
        refine (K_impl_ComparePanels (IntsIn.ofInts ie5 (by rw [HML.out]; exact hl)) (IntsIn.ofInts iw5 (by rw [HLL.out]; exact hl)) HR.out).mono ?_
        rintro e w6 ⟨rfl, hb6⟩
        clear q0 q1 q2 qn o0 o1 o2 on
        have bx6 := bx5.below hb6
        have bb6 := bw5.below hb6
        have iw6 := Row.below iw5 hb6
        have ie6 := Row.below ie5 hb6
        have g6 := gb_below g5 hb6
        clear bx5 bw5 iw5 ie5 g5 hb5 hb6 i5
        have m0 := bx6.cell 0
        have m1 := bx6.cell 1
        have m2 := bx6.cell 2
        have mn := bx6.lt
        have o0 := bb6.cell 0
        have o1 := bb6.cell 1
        have o2 := bb6.cell 2
        have of0 := bb6.free 0
        have of1 := bb6.free 1
        have of2 := bb6.free 2
        have on := bb6.lt
        have bb7 := Lib.hid (Box.set3 bb6 (.int .i64 (mapW W H ((k : Int) + 1))) (.int .i64 (mapH W H ((k : Int) + 1))) (.slice E5 xs.length d5))
        have ib7 := Lib.hid (Row.setCell (p := ⟨w2.heap.size, 2, none⟩) (Row.setCell (p := ⟨w2.heap.size, 1, none⟩) (Row.setCell (p := ⟨w2.heap.size, 0, none⟩) ie6 ne5 (.int .i64 (mapW W H ((k : Int) + 1)))) ne5 (.int .i64 (mapH W H ((k : Int) + 1)))) ne5 (.slice E5 xs.length d5))
        have gg7 := Lib.hid (gb_set (j := 2) (u := .slice E5 xs.length d5) (gb_set (j := 1) (u := .int .i64 (mapH W H ((k : Int) + 1))) (gb_set (j := 0) (u := .int .i64 (mapW W H ((k : Int) + 1))) g6)))
        have NE5 := Lib.hid ne5
        clear bx6 bb6 ie6 g6 ne5 iw6 nw bw iw hg ba2 br2 bl2 hp2
        go_wp2
        go_roundw
        case rel => exact ⟨k + 1, E5, d5, by omega, by go_num, by rw [HY.out]; exact bb7.out, by rw [HY.out]; exact ib7.out, NE5.out, gg7.out⟩
        case measure => simp [intOf]; omega
      · have HY : Hid (leastTo (⟨W, H, xs⟩ : Pan) (k + 1) = leastTo (⟨W, H, xs⟩ : Pan) k) := Lib.hid (leastTo_no (by rw [show (((k + 1 : Nat)) : Int) = (k : Int) + 1 by omega, hr]; exact hneg))
        clear hr
        go_wp2_with fail
        refine (mapPanel_any hp2 HO.out HS.out).mono ?_
        rintro e w5 ⟨E5, d5, rfl, i5, hb5⟩
        clear q0 q1 q2 qn
        have bx5 := Box.new w5 30 #[.int .i64 (mapW W H ((k : Int) + 1)), .int .i64 (mapH W H ((k : Int) + 1)), .slice E5 xs.length d5]
        have s5 := hb5.size
        have bw5 := (bw.below hb5).alloc (.cells #[.int .i64 (mapW W H ((k : Int) + 1)), .int .i64 (mapH W H ((k : Int) + 1)), .slice E5 xs.length d5] 30)
        have iw5 : Ints (w5.alloc (.cells #[.int .i64 (mapW W H ((k : Int) + 1)), .int .i64 (mapH W H ((k : Int) + 1)), .slice E5 xs.length d5] 30)) (w.heap.size + 2) (.slice E xs.length c) (leastTo (⟨W, H, xs⟩ : Pan) k).B := Row.alloc (Row.below iw hb5) _
        have ie5 : Ints (w5.alloc (.cells #[.int .i64 (mapW W H ((k : Int) + 1)), .int .i64 (mapH W H ((k : Int) + 1)), .slice E5 xs.length d5] 30)) (w.heap.size + 2) (.slice E5 xs.length d5) (mapTo W H ((k : Int) + 1) xs xs.length xs.length) := Row.le (Row.alloc i5.1 _) (by omega)
        have ne5 : ∀ g, (Value.slice E5 xs.length d5).ownBlock = some g → g ≠ w2.heap.size := fun g hg' => by have := (Row.lt i5.1 hg').1; omega
        have g5 := gb_below (gb_below hg hb5) (Joins.below_alloc1 _ (.cells #[.int .i64 (mapW W H ((k : Int) + 1)), .int .i64 (mapH W H ((k : Int) + 1)), .slice E5 xs.length d5] 30))
        have q0 := bx5.cell 0
        have q1 := bx5.cell 1
        have q2 := bx5.cell 2
        have qn := bx5.lt
        have o0 := bw5.cell 0
        have o1 := bw5.cell 1
        have o2 := bw5.cell 2
        have on := bw5.lt
        go_wp2_with fail
        refine (K_impl_ComparePanels (IntsIn.ofInts ie5 (by rw [HML.out]; exact hl)) (IntsIn.ofInts iw5 (by rw [HLL.out]; exact hl)) HR.out).mono ?_
        rintro e w6 ⟨rfl, hb6⟩
        clear q0 q1 q2 qn o0 o1 o2 on
        have bx6 := bx5.below hb6
        have bb6 := bw5.below hb6
        have iw6 := Row.below iw5 hb6
        have ie6 := Row.below ie5 hb6
        have g6 := gb_below g5 hb6
        clear bx5 bw5 iw5 ie5 g5 hb5 hb6 i5
        have BB := Lib.hid bb6
        have IW := Lib.hid iw6
        have GG := Lib.hid g6
        have NW := Lib.hid nw
        clear bx6 bb6 ie6 g6 ne5 iw6 nw bw iw hg ba2 br2 bl2 hp2
        go_wp2
        go_roundw
        case rel => exact ⟨k + 1, E, c, by omega, by go_num, by rw [HY.out]; exact BB.out, by rw [HY.out]; exact IW.out, NW.out, GG.out⟩
        case measure => simp [intOf]; omega
    · have e : k = 7 := by omega
      subst e
      have HI7 := Lib.hid iw
      have HB7 := Lib.hid bl2
      have LL := leastTo_len (⟨W, H, xs⟩ : Pan) 7
      simp only [] at LL
      have HLL := Lib.hid LL
      clear LL
      have o0 := bw.cell 0
      have o1 := bw.cell 1
      have o2 := bw.cell 2
      have on := bw.lt
      have r0 := br2.cell 0
      have r1 := br2.cell 1
      have r2 := br2.cell 2
      have rf0 := br2.free 0
      have rf1 := br2.free 1
      have rf2 := br2.free 2
      have rn := br2.lt
      clear iw bw hg ba2 br2 bl2 hp2 nw
      go_wp2
      refine bodyPost_ret (v := .agg #[.int .i64 (leastTo (⟨W, H, xs⟩ : Pan) 7).W, .int .i64 (leastTo (⟨W, H, xs⟩ : Pan) 7).H, .slice E xs.length c]) (by simp [results, Try.results98, go_sem, r0, r1, r2, rf0, rf1, rf2, rn]) rfl ⟨E, c, rfl, ?_, ?_⟩
      · have i2 := IntsIn.ofInts HI7.out (by rw [HLL.out]; exact hl)
        exact (((i2.at_store (p := ⟨w.heap.size + 1, 0, none⟩) (by simp) _).at_store (p := ⟨w.heap.size + 1, 1, none⟩) (by simp) _).at_store (p := ⟨w.heap.size + 1, 2, none⟩) (by simp) _).wider (by omega) (by simp) (Nat.le_refl _)
      · exact ((HB7.out.setCell (p := ⟨w.heap.size + 1, 0, none⟩) (by simp) _).setCell (p := ⟨w.heap.size + 1, 1, none⟩) (by simp) _).setCell (p := ⟨w.heap.size + 1, 2, none⟩) (by simp) _
set_option maxHeartbeats 8000000 in
theorem l06Least_any {w : World} {b lo hi : Nat} {W H : Int} {v : Value} {xs : List Int} (hx : Box w b 30 #[.int .i64 W, .int .i64 H, v]) (hp : IntsIn w lo hi v xs) (ho : Ok ⟨W, H, xs⟩) :
    Calls Try.prog 95 #[.pointer (some ⟨b, 0, none⟩)] w fun e w' => ∃ A c, e = .returned (.agg #[.int .i64 (leastTo (⟨W, H, xs⟩ : Pan) 7).W, .int .i64 (leastTo (⟨W, H, xs⟩ : Pan) 7).H, .slice A xs.length c]) ∧
      IntsIn w' w.heap.size w'.heap.size (.slice A xs.length c) (leastTo (⟨W, H, xs⟩ : Pan) 7).B ∧ Below w.heap.size w w' := by
  obtain ⟨A, cA, rfl, lA, _⟩ := hp.1.open_
  have bl := Joins.below_alloc1 w (.cells #[.int .i64 0, .int .i64 0, .slice none 0 0] 30)
  have ba := hx.alloc (.cells #[.int .i64 0, .int .i64 0, .slice none 0 0] 30)
  have br := Box.new w 30 #[.int .i64 0, .int .i64 0, .slice none 0 0]
  have hbl := hx.lt
  have hl := hp.len
  have hphi := hp.2.2.1
  have hp1 := hp.below bl
  have HO := Lib.hid ho
  have H0S : Hid (symOk 0 = true) := Lib.hid rfl
  have hM0 : Hid (mapW W H 0 = W ∧ mapH W H 0 = H ∧ mapTo W H 0 xs xs.length xs.length = xs) := Lib.hid ((mapP_eq W H 0 xs ⟨W, H, xs⟩).1 (mapP_zero (p := ⟨W, H, xs⟩) ⟨ho.w1, ho.w8⟩))
  have hVs : w.heap.size + 1 ≤ (w.alloc (.cells #[.int .i64 0, .int .i64 0, .slice none 0 0] 30)).heap.size := by simp
  clear hp ho

  go_enter Try.func95, Try.ntmps95
  go_wp2_with fail
  refine (l02Own_any ba hp1).mono ?_
  rintro e w2 ⟨D, d, rfl, i1, hb⟩
  have s2 := hb.size
  replace ba := ba.below hb
  replace br := br.below hb
  replace bl := bnext bl hb
  replace hp1 := hp1.below hb
  replace ba := ba.alloc (.cells #[.int .i64 W, .int .i64 H, .slice D xs.length d] 30)
  replace br := br.alloc (.cells #[.int .i64 W, .int .i64 H, .slice D xs.length d] 30)
  replace bl := bnext bl (Joins.below_alloc1 _ (.cells #[.int .i64 W, .int .i64 H, .slice D xs.length d] 30))
  replace hp1 := hp1.alloc (.cells #[.int .i64 W, .int .i64 H, .slice D xs.length d] 30)
  have bb := Box.new w2 30 #[.int .i64 W, .int .i64 H, .slice D xs.length d]
  have ib : Ints (w2.alloc (.cells #[.int .i64 W, .int .i64 H, .slice D xs.length d] 30)) (w.heap.size + 1) (.slice D xs.length d) xs := Row.le (Row.alloc i1.1 _) hVs
  have nb : ∀ g, (Value.slice D xs.length d).ownBlock = some g → g ≠ w2.heap.size := fun g hg => by have := (Row.lt i1.1 hg).2; omega
  clear hb i1
  go_wp2
  generalize hG : (w2.alloc (.cells #[.int .i64 W, .int .i64 H, .slice D xs.length d] 30)) = V at ba br bb ib bl hp1 ⊢
  have hVsz : V.heap.size = w2.heap.size + 1 := by rw [← hG]; simp
  have HVS := Lib.hid hVsz
  clear hG hVsz
  go_loopw [4] (fun i wr => ∃ (k : Nat) (E : Option Addr) (c : Nat), k ≤ 7 ∧ i = .int .i64 ((k : Int) + 1) ∧ Box wr w2.heap.size 30 #[.int .i64 (leastTo (⟨W, H, xs⟩ : Pan) k).W, .int .i64 (leastTo (⟨W, H, xs⟩ : Pan) k).H, .slice E xs.length c] ∧
      Ints wr (w.heap.size + 1) (.slice E xs.length c) (leastTo (⟨W, H, xs⟩ : Pan) k).B ∧ (∀ g, (Value.slice E xs.length c).ownBlock = some g → g ≠ w2.heap.size) ∧ V.grownBy wr (some w2.heap.size)) (fun i _ => 8 - (intOf i).toNat)
  case atStart => exact ⟨0, D, d, by omega, rfl, bb, ib, nb, gb_refl _ _⟩
  case round =>
    obtain ⟨k, E, c, hk, rfl, bw, iw, nw, hg⟩ := hrel
    clear bb ib nb
    have hvs := HVS.out
    have hgs := hg.size
    have hba := ba.lt
    have hbr := br.lt
    have ba2 := ba.grown hg (fun e => by simp at e; omega)
    have br2 := br.grown hg (fun e => by simp at e; omega)
    have bl2 : Below w.heap.size w wr := bl.grown hg bl.size (fun j hj => by simp at hj; omega)
    have hp2 : IntsIn wr lo hi (.slice A xs.length cA) xs := ⟨Row.keep hp1.1 fun j hj hjl => hg.block j hjl (fun e => by have := hp1.2.1 j hj; simp at e; omega), hp1.2.1, by have := hp1.2.2.1; omega, hp1.2.2.2⟩
    by_cases hlt : k < 7
    · have i1 : (k : Int) + 1 ≤ 7 := by omega
      have i2 : (k : Int) + 1 < 8 := by omega
      have HS : Hid (symOk ((k : Int) + 1) = true) := Lib.hid (inR_t ⟨by omega, by omega⟩)
      have HL := mapTo_length W H ((k : Int) + 1) xs xs.length xs.length
      have LL := leastTo_len (⟨W, H, xs⟩ : Pan) k
      simp only [] at LL
      obtain ⟨r, hr⟩ : ∃ r, cmpP (mapP (⟨W, H, xs⟩ : Pan) ((k : Int) + 1)) (leastTo (⟨W, H, xs⟩ : Pan) k) = r := ⟨_, rfl⟩
      have HR : Hid (cmpP ⟨mapW W H ((k : Int) + 1), mapH W H ((k : Int) + 1), mapTo W H ((k : Int) + 1) xs xs.length xs.length⟩ ⟨(leastTo (⟨W, H, xs⟩ : Pan) k).W, (leastTo (⟨W, H, xs⟩ : Pan) k).H, (leastTo (⟨W, H, xs⟩ : Pan) k).B⟩ = r) := Lib.hid hr
      have HLL := Lib.hid LL
      have HML := Lib.hid HL
      clear HL LL

      by_cases hneg : r < 0
      · have HY : Hid (leastTo (⟨W, H, xs⟩ : Pan) (k + 1) = mapP (⟨W, H, xs⟩ : Pan) ((k : Int) + 1)) := Lib.hid (leastTo_yes (by rw [show (((k + 1 : Nat)) : Int) = (k : Int) + 1 by omega, hr]; exact hneg))
        clear hr
        go_wp2_with fail
        refine (l06Map_any ba2 hp2 HO.out HS.out).mono ?_
        rintro e w5 ⟨E5, d5, rfl, i5, hb5⟩
        have bx5 := Box.new w5 30 #[.int .i64 (mapW W H ((k : Int) + 1)), .int .i64 (mapH W H ((k : Int) + 1)), .slice E5 xs.length d5]
        have s5 := hb5.size
        have bw5 := (bw.below hb5).alloc (.cells #[.int .i64 (mapW W H ((k : Int) + 1)), .int .i64 (mapH W H ((k : Int) + 1)), .slice E5 xs.length d5] 30)
        have iw5 : Ints (w5.alloc (.cells #[.int .i64 (mapW W H ((k : Int) + 1)), .int .i64 (mapH W H ((k : Int) + 1)), .slice E5 xs.length d5] 30)) (w.heap.size + 1) (.slice E xs.length c) (leastTo (⟨W, H, xs⟩ : Pan) k).B := Row.alloc (Row.below iw hb5) _
        have ie5 : Ints (w5.alloc (.cells #[.int .i64 (mapW W H ((k : Int) + 1)), .int .i64 (mapH W H ((k : Int) + 1)), .slice E5 xs.length d5] 30)) (w.heap.size + 1) (.slice E5 xs.length d5) (mapTo W H ((k : Int) + 1) xs xs.length xs.length) := Row.le (Row.alloc i5.1 _) (by omega)
        have ne5 : ∀ g, (Value.slice E5 xs.length d5).ownBlock = some g → g ≠ w2.heap.size := fun g hg' => by have := (Row.lt i5.1 hg').1; omega
        have g5 := gb_below (gb_below hg hb5) (Joins.below_alloc1 _ (.cells #[.int .i64 (mapW W H ((k : Int) + 1)), .int .i64 (mapH W H ((k : Int) + 1)), .slice E5 xs.length d5] 30))
        go_wp2_with fail
        refine (l06Compare_any ⟨bx5, Row.le ie5 (Nat.zero_le _)⟩ ⟨bw5, Row.le iw5 (Nat.zero_le _)⟩ HR.out).mono ?_
        rintro e w6 ⟨rfl, hb6⟩
        have bx6 := bx5.below hb6
        have bb6 := bw5.below hb6
        have iw6 := Row.below iw5 hb6
        have ie6 := Row.below ie5 hb6
        have g6 := gb_below g5 hb6
        clear bx5 bw5 iw5 ie5 g5 hb5 hb6 i5
        have m0 := bx6.cell 0
        have m1 := bx6.cell 1
        have m2 := bx6.cell 2
        have mn := bx6.lt
        have o0 := bb6.cell 0
        have o1 := bb6.cell 1
        have o2 := bb6.cell 2
        have of0 := bb6.free 0
        have of1 := bb6.free 1
        have of2 := bb6.free 2
        have on := bb6.lt
        have bb7 := Lib.hid (Box.set3 bb6 (.int .i64 (mapW W H ((k : Int) + 1))) (.int .i64 (mapH W H ((k : Int) + 1))) (.slice E5 xs.length d5))
        have ib7 := Lib.hid (Row.setCell (p := ⟨w2.heap.size, 2, none⟩) (Row.setCell (p := ⟨w2.heap.size, 1, none⟩) (Row.setCell (p := ⟨w2.heap.size, 0, none⟩) ie6 ne5 (.int .i64 (mapW W H ((k : Int) + 1)))) ne5 (.int .i64 (mapH W H ((k : Int) + 1)))) ne5 (.slice E5 xs.length d5))
        have gg7 := Lib.hid (gb_set (j := 2) (u := .slice E5 xs.length d5) (gb_set (j := 1) (u := .int .i64 (mapH W H ((k : Int) + 1))) (gb_set (j := 0) (u := .int .i64 (mapW W H ((k : Int) + 1))) g6)))
        have NE5 := Lib.hid ne5
        clear bx6 bb6 ie6 g6 ne5 iw6 nw bw iw hg ba2 br2 bl2 hp2
        go_wp2
        go_roundw
        case rel => exact ⟨k + 1, E5, d5, by omega, by go_num, by rw [HY.out]; exact bb7.out, by rw [HY.out]; exact ib7.out, NE5.out, gg7.out⟩
        case measure => simp [intOf]; omega
      · have HY : Hid (leastTo (⟨W, H, xs⟩ : Pan) (k + 1) = leastTo (⟨W, H, xs⟩ : Pan) k) := Lib.hid (leastTo_no (by rw [show (((k + 1 : Nat)) : Int) = (k : Int) + 1 by omega, hr]; exact hneg))
        clear hr
        go_wp2_with fail
        refine (l06Map_any ba2 hp2 HO.out HS.out).mono ?_
        rintro e w5 ⟨E5, d5, rfl, i5, hb5⟩
        have bx5 := Box.new w5 30 #[.int .i64 (mapW W H ((k : Int) + 1)), .int .i64 (mapH W H ((k : Int) + 1)), .slice E5 xs.length d5]
        have s5 := hb5.size
        have bw5 := (bw.below hb5).alloc (.cells #[.int .i64 (mapW W H ((k : Int) + 1)), .int .i64 (mapH W H ((k : Int) + 1)), .slice E5 xs.length d5] 30)
        have iw5 : Ints (w5.alloc (.cells #[.int .i64 (mapW W H ((k : Int) + 1)), .int .i64 (mapH W H ((k : Int) + 1)), .slice E5 xs.length d5] 30)) (w.heap.size + 1) (.slice E xs.length c) (leastTo (⟨W, H, xs⟩ : Pan) k).B := Row.alloc (Row.below iw hb5) _
        have ie5 : Ints (w5.alloc (.cells #[.int .i64 (mapW W H ((k : Int) + 1)), .int .i64 (mapH W H ((k : Int) + 1)), .slice E5 xs.length d5] 30)) (w.heap.size + 1) (.slice E5 xs.length d5) (mapTo W H ((k : Int) + 1) xs xs.length xs.length) := Row.le (Row.alloc i5.1 _) (by omega)
        have ne5 : ∀ g, (Value.slice E5 xs.length d5).ownBlock = some g → g ≠ w2.heap.size := fun g hg' => by have := (Row.lt i5.1 hg').1; omega
        have g5 := gb_below (gb_below hg hb5) (Joins.below_alloc1 _ (.cells #[.int .i64 (mapW W H ((k : Int) + 1)), .int .i64 (mapH W H ((k : Int) + 1)), .slice E5 xs.length d5] 30))
        go_wp2_with fail
        refine (l06Compare_any ⟨bx5, Row.le ie5 (Nat.zero_le _)⟩ ⟨bw5, Row.le iw5 (Nat.zero_le _)⟩ HR.out).mono ?_
        rintro e w6 ⟨rfl, hb6⟩
        have bx6 := bx5.below hb6
        have bb6 := bw5.below hb6
        have iw6 := Row.below iw5 hb6
        have ie6 := Row.below ie5 hb6
        have g6 := gb_below g5 hb6
        clear bx5 bw5 iw5 ie5 g5 hb5 hb6 i5
        have BB := Lib.hid bb6
        have IW := Lib.hid iw6
        have GG := Lib.hid g6
        have NW := Lib.hid nw
        clear bx6 bb6 ie6 g6 ne5 iw6 nw bw iw hg ba2 br2 bl2 hp2
        go_wp2
        go_roundw
        case rel => exact ⟨k + 1, E, c, by omega, by go_num, by rw [HY.out]; exact BB.out, by rw [HY.out]; exact IW.out, NW.out, GG.out⟩
        case measure => simp [intOf]; omega
    · have e : k = 7 := by omega
      subst e
      have HI7 := Lib.hid iw
      have HB7 := Lib.hid bl2
      have LL := leastTo_len (⟨W, H, xs⟩ : Pan) 7
      simp only [] at LL
      have HLL := Lib.hid LL
      clear LL
      have o0 := bw.cell 0
      have o1 := bw.cell 1
      have o2 := bw.cell 2
      have on := bw.lt
      have r0 := br2.cell 0
      have r1 := br2.cell 1
      have r2 := br2.cell 2
      have rf0 := br2.free 0
      have rf1 := br2.free 1
      have rf2 := br2.free 2
      have rn := br2.lt
      clear iw bw hg ba2 br2 bl2 hp2 nw
      go_wp2
      refine bodyPost_ret (v := .agg #[.int .i64 (leastTo (⟨W, H, xs⟩ : Pan) 7).W, .int .i64 (leastTo (⟨W, H, xs⟩ : Pan) 7).H, .slice E xs.length c]) (by simp [results, Try.results95, go_sem, r0, r1, r2, rf0, rf1, rf2, rn]) rfl ⟨E, c, rfl, ?_, ?_⟩
      · have i2 := IntsIn.ofInts HI7.out (by rw [HLL.out]; exact hl)
        exact (((i2.at_store (p := ⟨w.heap.size, 0, none⟩) (by simp) _).at_store (p := ⟨w.heap.size, 1, none⟩) (by simp) _).at_store (p := ⟨w.heap.size, 2, none⟩) (by simp) _).wider (by omega) (by simp) (Nat.le_refl _)
      · exact ((HB7.out.setCell (p := ⟨w.heap.size, 0, none⟩) (by simp) _).setCell (p := ⟨w.heap.size, 1, none⟩) (by simp) _).setCell (p := ⟨w.heap.size, 2, none⟩) (by simp) _
set_option maxHeartbeats 4000000 in
theorem K_impl_CanonicalPanel {w : World} {lo hi : Nat} {x y px py r : Int} {v : Value} {xs zs : List Int} (hp : IntsIn w lo hi v xs) (hm : canM ⟨x, y, xs⟩ = (px, py, zs, r)) :
    Calls Try.prog 40 #[.agg #[.int .i64 x, .int .i64 y, v]] w fun e w' => ∃ A c, e = .returned (.tuple #[.agg #[.int .i64 px, .int .i64 py, .slice A zs.length c], .int .i64 r]) ∧ IntsIn w' w.heap.size w'.heap.size (.slice A zs.length c) zs ∧ Below w.heap.size w w' := by
  obtain ⟨A, cA, rfl, _, _⟩ := hp.1.open_
  have bl := Joins.below_alloc2 w (.cells #[.int .i64 x, .int .i64 y, .slice A xs.length cA] 30) (.cells #[.int .i64 0, .int .i64 0, .slice none 0 0] 30)
  have ba := (Box.new w 30 #[.int .i64 x, .int .i64 y, .slice A xs.length cA]).alloc (.cells #[.int .i64 0, .int .i64 0, .slice none 0 0] 30)
  have br := Box.new (w.alloc (.cells #[.int .i64 x, .int .i64 y, .slice A xs.length cA] 30)) 30 #[.int .i64 0, .int .i64 0, .slice none 0 0]
  rw [World.size_alloc] at br
  have hp1 := hp.below bl
  clear hp
  by_cases ho : Ok ⟨x, y, xs⟩
  rotate_left
  · obtain ⟨rfl, rfl, rfl, rfl⟩ : 0 = px ∧ 0 = py ∧ [] = zs ∧ 1 = r := by simpa [canM, ho] using hm
    have HO := Lib.hid ho
    clear hm ho
    have q0 := ba.cell 0
    have q1 := ba.cell 1
    have q2 := ba.cell 2
    have qn := ba.lt
    go_enter Try.func40, Try.ntmps40
    go_wp2_with fail
    refine (ValidPanel_any x y _ xs false (no_iff HO.out) _ hp1.ints).mono ?_
    rintro e w2 ⟨rfl, hb⟩
    have s2 := hb.size
    simp only [World.size_alloc] at s2
    replace ba := ba.below hb
    replace br := br.below hb
    replace bl := bnext bl hb
    replace hp1 := hp1.below hb
    clear hb
    clear q0 q1 q2 qn
    have r0 := br.cell 0
    have r1 := br.cell 1
    have r2 := br.cell 2
    have rf0 := br.free 0
    have rf1 := br.free 1
    have rf2 := br.free 2
    have rn := br.lt
    go_wp2
    refine bodyPost_ret (v := .tuple #[.agg #[.int .i64 0, .int .i64 0, .slice none 0 0], .int .i64 1]) (by simp [results, Try.results40, go_sem, r0, r1, r2, rf0, rf1, rf2, rn]) rfl ⟨none, 0, rfl, IntsIn.nil _ _ _ (Nat.le_refl _), ?_⟩
    exact ((bl.setCell (p := ⟨w.heap.size + 1, 0, none⟩) (by simp) _).setCell (p := ⟨w.heap.size + 1, 1, none⟩) (by simp) _).setCell (p := ⟨w.heap.size + 1, 2, none⟩) (by simp) _
  obtain ⟨rfl, rfl, rfl, rfl⟩ : (leastTo ⟨x, y, xs⟩ 7).W = px ∧ (leastTo ⟨x, y, xs⟩ 7).H = py ∧ (leastTo ⟨x, y, xs⟩ 7).B = zs ∧ 0 = r := by simpa [canM, ho] using hm
  have HO := Lib.hid ho
  clear hm ho
  have q0 := ba.cell 0
  have q1 := ba.cell 1
  have q2 := ba.cell 2
  have qn := ba.lt
  go_enter Try.func40, Try.ntmps40
  go_wp2_with fail
  refine (ValidPanel_any x y _ xs true (yes_iff HO.out) _ hp1.ints).mono ?_
  rintro e w2 ⟨rfl, hb⟩
  have s2 := hb.size
  simp only [World.size_alloc] at s2
  replace ba := ba.below hb
  replace br := br.below hb
  replace bl := bnext bl hb
  replace hp1 := hp1.below hb
  clear hb
  clear q0 q1 q2 qn
  have q0 := ba.cell 0
  have q1 := ba.cell 1
  have q2 := ba.cell 2
  have qn := ba.lt
  go_wp2_with fail
  refine (canonical_any hp1 HO.out).mono ?_
  rintro e w3 ⟨D, d, rfl, i1, hb⟩
  replace br := br.below hb
  replace bl := bnext bl hb
  clear hb
  clear q0 q1 q2 qn
  have r0 := br.cell 0
  have r1 := br.cell 1
  have r2 := br.cell 2
  have rf0 := br.free 0
  have rf1 := br.free 1
  have rf2 := br.free 2
  have rn := br.lt
  go_wp2
  have hl := leastTo_len ⟨x, y, xs⟩ 7
  simp only [] at hl
  rw [hl]
  refine bodyPost_ret (v := .tuple #[.agg #[.int .i64 (leastTo ⟨x, y, xs⟩ 7).W, .int .i64 (leastTo ⟨x, y, xs⟩ 7).H, .slice D xs.length d], .int .i64 0]) (by simp [results, Try.results40, go_sem, r0, r1, r2, rf0, rf1, rf2, rn]) rfl ⟨D, d, rfl, ?_, ?_⟩
  · exact (((i1.at_store (p := ⟨w.heap.size + 1, 0, none⟩) (by simp; omega) _).at_store (p := ⟨w.heap.size + 1, 1, none⟩) (by simp; omega) _).at_store (p := ⟨w.heap.size + 1, 2, none⟩) (by simp; omega) _).wider (by omega) (by simp) (Nat.le_refl _)
  · exact ((bl.setCell (p := ⟨w.heap.size + 1, 0, none⟩) (by simp) _).setCell (p := ⟨w.heap.size + 1, 1, none⟩) (by simp) _).setCell (p := ⟨w.heap.size + 1, 2, none⟩) (by simp) _
set_option maxHeartbeats 4000000 in
theorem K_spec_CanonicalPanel {w : World} {lo hi : Nat} {x y px py r : Int} {v : Value} {xs zs : List Int} (hp : IntsIn w lo hi v xs) (hm : canM ⟨x, y, xs⟩ = (px, py, zs, r)) :
    Calls Try.prog 39 #[.agg #[.int .i64 x, .int .i64 y, v]] w fun e w' => ∃ A c, e = .returned (.tuple #[.agg #[.int .i64 px, .int .i64 py, .slice A zs.length c], .int .i64 r]) ∧ IntsIn w' w.heap.size w'.heap.size (.slice A zs.length c) zs ∧ Below w.heap.size w w' := by
  obtain ⟨A, cA, rfl, _, _⟩ := hp.1.open_
  have bl := Joins.below_alloc2 w (.cells #[.int .i64 x, .int .i64 y, .slice A xs.length cA] 30) (.cells #[.int .i64 0, .int .i64 0, .slice none 0 0] 30)
  have ba := (Box.new w 30 #[.int .i64 x, .int .i64 y, .slice A xs.length cA]).alloc (.cells #[.int .i64 0, .int .i64 0, .slice none 0 0] 30)
  have br := Box.new (w.alloc (.cells #[.int .i64 x, .int .i64 y, .slice A xs.length cA] 30)) 30 #[.int .i64 0, .int .i64 0, .slice none 0 0]
  rw [World.size_alloc] at br
  have hp1 := hp.below bl
  clear hp
  by_cases ho : Ok ⟨x, y, xs⟩
  rotate_left
  · obtain ⟨rfl, rfl, rfl, rfl⟩ : 0 = px ∧ 0 = py ∧ [] = zs ∧ 1 = r := by simpa [canM, ho] using hm
    have HO := Lib.hid ho
    clear hm ho
    go_enter Try.func39, Try.ntmps39
    go_wp2_with fail
    refine (l02Ok_any _ x y _ xs false (no_iff HO.out) _ ⟨ba, hp1.ints⟩).mono ?_
    rintro e w2 ⟨rfl, hd⟩
    have hb := bdrawn hd
    clear hd
    have s2 := hb.size
    simp only [World.size_alloc] at s2
    replace ba := ba.below hb
    replace br := br.below hb
    replace bl := bnext bl hb
    replace hp1 := hp1.below hb
    clear hb
    have r0 := br.cell 0
    have r1 := br.cell 1
    have r2 := br.cell 2
    have rf0 := br.free 0
    have rf1 := br.free 1
    have rf2 := br.free 2
    have rn := br.lt
    go_wp2
    refine bodyPost_ret (v := .tuple #[.agg #[.int .i64 0, .int .i64 0, .slice none 0 0], .int .i64 1]) (by simp [results, Try.results39, go_sem, r0, r1, r2, rf0, rf1, rf2, rn]) rfl ⟨none, 0, rfl, IntsIn.nil _ _ _ (Nat.le_refl _), ?_⟩
    exact ((bl.setCell (p := ⟨w.heap.size + 1, 0, none⟩) (by simp) _).setCell (p := ⟨w.heap.size + 1, 1, none⟩) (by simp) _).setCell (p := ⟨w.heap.size + 1, 2, none⟩) (by simp) _
  obtain ⟨rfl, rfl, rfl, rfl⟩ : (leastTo ⟨x, y, xs⟩ 7).W = px ∧ (leastTo ⟨x, y, xs⟩ 7).H = py ∧ (leastTo ⟨x, y, xs⟩ 7).B = zs ∧ 0 = r := by simpa [canM, ho] using hm
  have HO := Lib.hid ho
  clear hm ho
  go_enter Try.func39, Try.ntmps39
  go_wp2_with fail
  refine (l02Ok_any _ x y _ xs true (yes_iff HO.out) _ ⟨ba, hp1.ints⟩).mono ?_
  rintro e w2 ⟨rfl, hd⟩
  have hb := bdrawn hd
  clear hd
  have s2 := hb.size
  simp only [World.size_alloc] at s2
  replace ba := ba.below hb
  replace br := br.below hb
  replace bl := bnext bl hb
  replace hp1 := hp1.below hb
  clear hb
  go_wp2_with fail
  refine (l06Least_any ba hp1 HO.out).mono ?_
  rintro e w3 ⟨D, d, rfl, i1, hb⟩
  replace br := br.below hb
  replace bl := bnext bl hb
  clear hb
  have r0 := br.cell 0
  have r1 := br.cell 1
  have r2 := br.cell 2
  have rf0 := br.free 0
  have rf1 := br.free 1
  have rf2 := br.free 2
  have rn := br.lt
  go_wp2
  have hl := leastTo_len ⟨x, y, xs⟩ 7
  simp only [] at hl
  rw [hl]
  refine bodyPost_ret (v := .tuple #[.agg #[.int .i64 (leastTo ⟨x, y, xs⟩ 7).W, .int .i64 (leastTo ⟨x, y, xs⟩ 7).H, .slice D xs.length d], .int .i64 0]) (by simp [results, Try.results39, go_sem, r0, r1, r2, rf0, rf1, rf2, rn]) rfl ⟨D, d, rfl, ?_, ?_⟩
  · exact (((i1.at_store (p := ⟨w.heap.size + 1, 0, none⟩) (by simp; omega) _).at_store (p := ⟨w.heap.size + 1, 1, none⟩) (by simp; omega) _).at_store (p := ⟨w.heap.size + 1, 2, none⟩) (by simp; omega) _).wider (by omega) (by simp) (Nat.le_refl _)
  · exact ((bl.setCell (p := ⟨w.heap.size + 1, 0, none⟩) (by simp) _).setCell (p := ⟨w.heap.size + 1, 1, none⟩) (by simp) _).setCell (p := ⟨w.heap.size + 1, 2, none⟩) (by simp) _
end Go.Proofs.Ytihfdgnocdphcaa
