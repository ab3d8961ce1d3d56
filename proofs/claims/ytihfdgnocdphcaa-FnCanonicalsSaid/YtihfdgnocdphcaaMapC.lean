/-
  Panels moved by a symmetry, by the reference.
-/
import Derived.Test.YtihfdgnocdphcaaMapB
import Derived.Deep.RegionHeld3
import Derived.Deep.DeepCutAuto
namespace Go.Proofs.Ytihfdgnocdphcaa
open Go.RowKit Knot

/-- Block pb is a panel made since V, with its row in block g. -/
structure NewP (V w : World) (pb g : Nat) (W H : Int) (n : Nat) (zs : List Int) : Prop where
  box : Box w pb 30 #[.int .i64 W, .int .i64 H, .slice (some ⟨g, 0, none⟩) n n]
  ints : Ints w V.heap.size (.slice (some ⟨g, 0, none⟩) n n) zs
  ge : V.heap.size ≤ pb
  ne : g ≠ pb
  below : Below V.heap.size V w

theorem Box.set3 {w : World} {k : Nat} {t : TypeId} {u0 u1 u2 : Value} (h : Box w k t #[u0, u1, u2]) (a b c : Value) : Box (((w.setCell ⟨k, 0, none⟩ a).setCell ⟨k, 1, none⟩ b).setCell ⟨k, 2, none⟩ c) k t #[a, b, c] := by
  simpa using ((h.set_ 0 a).set_ 1 b).set_ 2 c

theorem Box.drew1 {w : World} {k : Nat} {t : TypeId} {cs : Array Value} (h : Box w k t cs) : Box w.drew k t cs := h
theorem Box.set2p {w : World} {k : Nat} {t : TypeId} {u0 u1 : Value} (h : Box w k t #[u0, u1]) (a b : Value) : Box ((w.setCell ⟨k, 0, none⟩ a).setCell ⟨k, 1, none⟩ b) k t #[a, b] := by
  simpa using (h.set_ 0 a).set_ 1 b
theorem and_four {s : Int} (s0 : 0 ≤ s) (s7 : s ≤ 7) : bits .and .i64 s 4 = if 4 ≤ s then 4 else 0 := by
  rcases eight s0 s7 with rfl | rfl | rfl | rfl | rfl | rfl | rfl | rfl <;> decide +kernel

set_option maxHeartbeats 16000000 in
theorem l06Map_any {w : World} {b lo hi : Nat} {W H s : Int} {v : Value} {xs : List Int} (hx : Box w b 30 #[.int .i64 W, .int .i64 H, v]) (hp : IntsIn w lo hi v xs) (ho : Ok ⟨W, H, xs⟩) (hs : symOk s = true) :
    Calls Try.prog 83 #[.pointer (some ⟨b, 0, none⟩), .int .i64 s] w fun e w' => ∃ A c, e = .returned (.agg #[.int .i64 (mapW W H s), .int .i64 (mapH W H s), .slice A xs.length c]) ∧
      IntsIn w' w.heap.size w'.heap.size (.slice A xs.length c) (mapTo W H s xs xs.length xs.length) ∧ Below w.heap.size w w' := by
  obtain ⟨A, cA, rfl, lA, hA⟩ := hp.1.open_
  have hl := hp.len
  have hW : 1 ≤ W ∧ W ≤ 8 := ⟨ho.w1, ho.w8⟩
  have hH : 1 ≤ H ∧ H ≤ 8 := ⟨ho.h1, ho.h8⟩
  have hN : inner W H = (xs.length : Int) := ho.len.symm
  have hN2 : inner H W = (xs.length : Int) := by rw [inner_comm]; exact hN
  have hkd : ∀ k : Nat, k < xs.length → 0 ≤ gI xs k ∧ gI xs k ≤ 2 := ((ok_iff W H xs).1 ho).2.2.2
  obtain ⟨s0, s7⟩ := symOk_bd hs
  have bl := Joins.below_alloc1 w (.cells #[.int .i64 0, .int .i64 0, .slice none 0 0] 30)
  have hbl := hx.lt
  have ba := hx.alloc (.cells #[.int .i64 0, .int .i64 0, .slice none 0 0] 30)
  have br := Box.new w 30 #[.int .i64 0, .int .i64 0, .slice none 0 0]
  have HW := Lib.hid hW
  have HH := Lib.hid hH
  have HN := Lib.hid hN
  have HN2 := Lib.hid hN2
  have HS := Lib.hid hs
  have HK := Lib.hid hkd
  have hp1 := hp.alloc (.cells #[.int .i64 0, .int .i64 0, .slice none 0 0] 30)
  have HNF : Hid (∀ k : Int, 0 ≤ k → k < (xs.length : Int) → 0 ≤ mapN W H s k ∧ mapN W H s k < (xs.length : Int)) := Lib.hid fun k a b => by rw [← hN]; exact mapN_in hW hH s0 s7 a (by rw [hN]; exact b)
  have hpb := hp.2.1
  have hphi := hp.2.2.1
  obtain ⟨W1, W8⟩ := hW
  obtain ⟨H1, H8⟩ := hH
  have hand := and_four s0 s7
  clear hN hN2 hs hkd hp ho
  go_enter Try.func83, Try.ntmps83
  go_wp2
  generalize (w.alloc (.cells #[.int .i64 0, .int .i64 0, .slice none 0 0] 30)) = V at ba br bl hp1 ⊢
  have q0 := ba.cell 0
  have q1 := ba.cell 1
  simp only [List.getElem?_toArray, List.getElem?_cons_zero, List.getElem?_cons_succ] at q0 q1
  have qv := ba.lt
  have qr := br.lt
  have bne : (⟨b, 0, none⟩ : Addr).block ≠ V.heap.size := show b ≠ V.heap.size by omega
  have qz0 : (V.alloc (.cells #[.int .i64 0, .int .i64 0, .slice none 0 0] 30)).cell? ⟨b, 0, none⟩ = some (.int .i64 W) := cell_b (Joins.below_alloc1 _ _) q0
  have qz1 : (V.alloc (.cells #[.int .i64 0, .int .i64 0, .slice none 0 0] 30)).cell? ⟨b, 1, none⟩ = some (.int .i64 H) := cell_b (Joins.below_alloc1 _ _) q1
  go_cut [5] (fun s5 wc => ∃ pb g : Nat, s5 = .pointer (some ⟨pb, 0, none⟩) ∧ NewP V wc pb g W H xs.length (List.replicate xs.length 0))
  case first =>
    go_region_held3 (fun w' => w'.cell? ⟨b, 0, none⟩ = some (.int .i64 W) ∧ w'.cell? ⟨b, 1, none⟩ = some (.int .i64 H))
      (first | exact ⟨cell_b (Joins.below_alloc1 _ _) k0, cell_b (Joins.below_alloc1 _ _) k1⟩
             | exact ⟨k0, k1⟩
             | exact ⟨cell_f bne (cell_f bne (cell_f bne k0)), cell_f bne (cell_f bne (cell_f bne k1))⟩
             | exact ⟨q0, q1⟩
             | exact ⟨qz0, qz1⟩)
      ((go_at_call 105; (with_reducible refine (l02New_any HW.out HH.out HN.out).mono ?_); rintro e w5 ⟨g, rfl, i1, hb⟩; go_split_ands; have k0 := cell_b hb (by assumption : World.cell? _ ⟨b, 0, none⟩ = some (.int .i64 W)); have k1 := cell_b hb (by assumption : World.cell? _ ⟨b, 1, none⟩ = some (.int .i64 H)); try (have hz : Box w5 V.heap.size 30 #[.int .i64 0, .int .i64 0, .slice none 0 0] := (hb.block _ (by simp)).trans (Box.new V 30 #[.int .i64 0, .int .i64 0, .slice none 0 0]); have z0 := hz.cell 0; have z1 := hz.cell 1; have z2 := hz.cell 2; have y0 := hz.free 0; have y1 := hz.free 1; have y2 := hz.free 2; have zn := hz.lt)))
    · have gl := Row.lt i1.1 (g := g) rfl
      have sb := hb.size
      simp only [World.size_drew] at gl sb
      have hbv : Below V.heap.size V w5 := ((below_drewN V.heap.size V 1).trans (hb.mono (by simp)))
      have HNP : Hid (NewP V (w5.alloc (.cells #[.int .i64 W, .int .i64 H, .slice (some ⟨g, 0, none⟩) xs.length xs.length] 30)) w5.heap.size g W H xs.length (List.replicate xs.length 0)) := Lib.hid
        ⟨Box.new _ _ _, Row.le (Row.alloc i1.1 _) (by simp), by omega, by omega, hbv.alloc (by omega) _⟩
      clear hb hbv i1 k0 k1 gl sb
      go_wp2_with fail
      go_meet
      case rel => exact ⟨_, g, rfl, HNP.out⟩
    · have gl := Row.lt i1.1 (g := g) rfl
      have sb := hb.size
      simp only [World.size_drew, World.size_alloc] at gl sb
      have hbv : Below V.heap.size V w5 := (((Below.refl V.heap.size V).alloc (Nat.le_refl _) _).trans ((below_drewN V.heap.size _ 1).trans (hb.mono (by simp))))
      have HNP : Hid (NewP V (((w5.setCell ⟨V.heap.size, 0, none⟩ (.int .i64 W)).setCell ⟨V.heap.size, 1, none⟩ (.int .i64 H)).setCell ⟨V.heap.size, 2, none⟩ (.slice (some ⟨g, 0, none⟩) xs.length xs.length)) V.heap.size g W H xs.length (List.replicate xs.length 0)) := Lib.hid
        ⟨Box.set3 hz _ _ _, Row.le (Row.setCell (Row.setCell (Row.setCell i1.1 (fun j hj => by simp [Value.ownBlock] at hj; simp; omega) _) (fun j hj => by simp [Value.ownBlock] at hj; simp; omega) _) (fun j hj => by simp [Value.ownBlock] at hj; simp; omega) _) (by simp), Nat.le_refl _, by omega,
          ((hbv.setCell (p := ⟨V.heap.size, 0, none⟩) (Nat.le_refl _) _).setCell (p := ⟨V.heap.size, 1, none⟩) (Nat.le_refl _) _).setCell (p := ⟨V.heap.size, 2, none⟩) (Nat.le_refl _) _⟩
      clear hb hbv i1 k0 k1 gl sb hz z0 z1 z2 y0 y1 y2 zn
      go_wp2_with fail
      go_meet
      case rel => exact ⟨_, g, rfl, HNP.out⟩
  case rest =>
    obtain ⟨pb, g, rfl, hnp⟩ := hcut
    clear q0 q1 qz0 qz1
    by_cases h4 : 4 ≤ s
    · skip
      rw [if_pos h4] at hand
      have HMW : Hid (mapW W H s = H) := Lib.hid (by simp [mapW, h4])
      have HMH : Hid (mapH W H s = W) := Lib.hid (by simp [mapH, h4])
      have ba2 := ba.below hnp.below
      have a0 := ba2.cell 0
      have a1 := ba2.cell 1
      simp only [List.getElem?_toArray, List.getElem?_cons_zero, List.getElem?_cons_succ] at a0 a1
      have hge := hnp.ge
      have bne2 : (⟨b, 0, none⟩ : Addr).block ≠ pb := show b ≠ pb by omega
      have hpl := hnp.box.lt
      go_wp2
      go_region_held3 (fun w' => w'.cell? ⟨b, 0, none⟩ = some (.int .i64 W) ∧ w'.cell? ⟨b, 1, none⟩ = some (.int .i64 H))
        (first | exact ⟨cell_f bne2 (cell_f bne2 (cell_f bne2 k0)), cell_f bne2 (cell_f bne2 (cell_f bne2 k1))⟩
               | exact ⟨k0, k1⟩
               | exact ⟨a0, a1⟩)
        ((go_at_call 105; (with_reducible refine (l02New_any HH.out HW.out HN2.out).mono ?_); rintro e w5 ⟨g', rfl, i1, hb⟩; go_split_ands; have k0 := cell_b hb a0; have k1 := cell_b hb a1; have hz := (Box.drew1 hnp.box).below hb; have z0 := hz.cell 0; have z1 := hz.cell 1; have z2 := hz.cell 2; have y0 := hz.free 0; have y1 := hz.free 1; have y2 := hz.free 2; have zn := hz.lt))
      have gl := Row.lt i1.1 (g := g') rfl
      have sb := hb.size
      simp only [World.size_drew] at gl sb
      have hsv := hnp.below.size
      have hbv : Below V.heap.size V w5 := (hnp.below.trans (below_drewN V.heap.size _ 1)).trans (hb.mono (by simp; omega))
      have HNP : Hid (NewP V (((w5.setCell ⟨pb, 0, none⟩ (.int .i64 H)).setCell ⟨pb, 1, none⟩ (.int .i64 W)).setCell ⟨pb, 2, none⟩ (.slice (some ⟨g', 0, none⟩) xs.length xs.length)) pb g' H W xs.length (List.replicate xs.length 0)) := Lib.hid
        ⟨Box.set3 hz _ _ _, Row.le (Row.setCell (Row.setCell (Row.setCell i1.1 (fun j hj => by simp [Value.ownBlock] at hj; simp; omega) _) (fun j hj => by simp [Value.ownBlock] at hj; simp; omega) _) (fun j hj => by simp [Value.ownBlock] at hj; simp; omega) _) (by simp; omega), hge, by omega,
          ((hbv.setCell (p := ⟨pb, 0, none⟩) hge _).setCell (p := ⟨pb, 1, none⟩) hge _).setCell (p := ⟨pb, 2, none⟩) hge _⟩
      clear hb hbv i1 k0 k1 gl sb hz z0 z1 z2 y0 y1 y2 zn a0 a1 ba2 hnp hge bne2 hpl hsv
      obtain ⟨g, rfl⟩ : ∃ x, x = g' := ⟨g', rfl⟩
      generalize (((w5.setCell ⟨pb, 0, none⟩ (.int .i64 H)).setCell ⟨pb, 1, none⟩ (.int .i64 W)).setCell ⟨pb, 2, none⟩ (.slice (some ⟨g, 0, none⟩) xs.length xs.length)) = V2 at HNP ⊢
      have hnp := HNP.out
      clear HNP
      have hb2 := hnp.below
      have hge := hnp.ge
      have hne := hnp.ne
      have bo := hnp.box
      have hgl := Row.lt hnp.ints (g := g) rfl
      have hI0 := hnp.ints
      have ba2 := ba.below hb2
      have br2 := br.below hb2
      have hp2 := hp1.below hb2
      have hV := bl.size
      clear hnp hand
      go_wp2
      go_loopw [6] (fun i wr => ∃ k : Nat, k ≤ xs.length ∧ i = .int .i64 k ∧ Ints wr V.heap.size (.slice (some ⟨g, 0, none⟩) xs.length xs.length) (mapTo W H s xs xs.length k) ∧ V2.grownBy wr (some g)) (fun i _ => xs.length - (intOf i).toNat)
      case atStart => exact ⟨0, Nat.zero_le _, rfl, hI0, gb_refl _ _⟩
      case round =>
        obtain ⟨k, hk, rfl, hI, hg⟩ := hrel
        clear hI0
        have ba3 := ba2.grown hg (fun e => by simp at e; omega)
        have bo3 := bo.grown hg (fun e => by simp at e; omega)
        have br3 := br2.grown hg (fun e => by simp at e; omega)
        have a0 := ba3.cell 0
        have a1 := ba3.cell 1
        have a2 := ba3.cell 2
        have an := ba3.lt
        simp only [List.getElem?_toArray, List.getElem?_cons_zero, List.getElem?_cons_succ] at a0 a1 a2
        by_cases hlt : k < xs.length
        · obtain ⟨ga, rfl, ga1⟩ : ∃ ga, A = some ⟨ga, 0, none⟩ ∧ ga < w.heap.size := by
            obtain ⟨ga, h1, _, h3⟩ := hA (by omega)
            exact ⟨ga, h1, h3⟩
          have hpr : Ints wr lo (.slice (some ⟨ga, 0, none⟩) xs.length cA) xs := Row.keep hp2.1 fun j hj hjl => hg.block j hjl (fun e => by simp [Value.ownBlock] at hj e; omega)
          have c3 := Ints.cell hpr (k := k) hlt
          have i0 : (0 : Int) ≤ (k : Int) := by omega
          have i1 : (k : Int) < (xs.length : Int) := by omega
          obtain ⟨pi1, pi2, pi3, pi4, pi5⟩ := pt_in (H := H) W1 W8 i0 (by rw [HN.out]; exact i1)
          obtain ⟨mi1, mi2, mi3, mi4, mi5⟩ := mapX_in pi1 pi2 pi3 pi4 pi5 s0 s7
          obtain ⟨u0, u1, hu⟩ : ∃ u0 u1, mapX W H (ptX W k) (ptY W k) s = (u0, u1) := ⟨_, _, rfl⟩
          obtain ⟨N, hNN⟩ : ∃ N, mapN W H s k = N := ⟨_, rfl⟩
          obtain ⟨q, hq⟩ : ∃ q, kindX (gI xs k) s = q := ⟨_, rfl⟩
          have nf := HNF.out k i0 i1
          rw [hNN] at nf
          obtain ⟨nf0, nf1⟩ := nf
          have HZ : Hid ((mapTo W H s xs xs.length k).set N.toNat q = mapTo W H s xs xs.length (k + 1)) := Lib.hid (by rw [mapTo, hNN, hq])
          have HNM : Hid (rowOf H u1 + (u0 - 1) / 2 = N) := Lib.hid (by rw [← hNN]; unfold mapN; rw [hu, HMW.out])
          rw [hu, HMW.out] at mi2
          rw [hu, HMH.out] at mi4
          rw [hu] at mi1 mi3
          simp only [] at mi1 mi2 mi3 mi4
          have HU := Lib.hid hu
          have HQ := Lib.hid hq
          have HKK := Lib.hid (HK.out k hlt)
          have HKI : Hid (0 ≤ (k : Int) ∧ (k : Int) < inner W H) := Lib.hid ⟨i0, by rw [HN.out]; exact i1⟩
          have HX : Hid (0 ≤ ptX W k ∧ ptX W k ≤ 2 * W) := Lib.hid ⟨by omega, by omega⟩
          have HY : Hid (0 ≤ ptY W k ∧ ptY W k ≤ 2 * H) := Lib.hid ⟨by omega, by omega⟩
          have wz := hg.size
          have nl := mapTo_length W H s xs xs.length k
          have HNL := Lib.hid nl
          have ba4 := ba3.alloc (.cells #[.int .i64 0, .int .i64 0] 36)
          have b0 := ba4.cell 0
          have b1 := ba4.cell 1
          simp only [List.getElem?_toArray, List.getElem?_cons_zero, List.getElem?_cons_succ] at b0 b1
          clear hu hNN hq nl mi5
          go_wp2
          have nb : (⟨b, 0, none⟩ : Addr).block ≠ wr.heap.size := show b ≠ wr.heap.size by omega
          go_cut [7] (fun s7 wc => ∃ pt : Nat, s7 = .pointer (some ⟨pt, 0, none⟩) ∧ Box wc pt 36 #[.int .i64 u0, .int .i64 u1] ∧ wr.heap.size ≤ pt ∧ Below wr.heap.size wr wc)
          case first =>
            go_region_held3 (fun w' => w'.cell? ⟨b, 0, none⟩ = some (.int .i64 W) ∧ w'.cell? ⟨b, 1, none⟩ = some (.int .i64 H))
              (first | exact ⟨cell_b (Joins.below_alloc1 _ _) l0, cell_b (Joins.below_alloc1 _ _) l1⟩
                     | exact ⟨l0, l1⟩
                     | exact ⟨cell_f nb (cell_f nb l0), cell_f nb (cell_f nb l1)⟩
                     | exact ⟨cell_f nb5 (cell_f nb5 l0), cell_f nb5 (cell_f nb5 l1)⟩
                     | exact ⟨cell_b (Joins.below_alloc1 _ _) k0, cell_b (Joins.below_alloc1 _ _) k1⟩
                     | exact ⟨k0, k1⟩
                     | exact ⟨a0, a1⟩
                     | exact ⟨b0, b1⟩)
              (first | (go_at_call 122; (with_reducible refine (l02Point_any (Box.drew1 ba3) HW.out HH.out HKI.out.1 HKI.out.2).mono ?_); rintro e w5 ⟨rfl, hb1⟩; have k0 := cell_b hb1 (show (wr.drew).cell? ⟨b, 0, none⟩ = some (.int .i64 W) from a0); have k1 := cell_b hb1 (show (wr.drew).cell? ⟨b, 1, none⟩ = some (.int .i64 H) from a1); have nb5 : (⟨b, 0, none⟩ : Addr).block ≠ w5.heap.size := (show b ≠ w5.heap.size by have := World.block_lt_of_cell? w5 _ k0; simp at this; omega); have B5 : Below wr.heap.size wr w5 := (below_drewN wr.heap.size wr 1).trans (hb1.mono (by simp)))
                     | (go_at_call 122; (with_reducible refine (l02Point_any (Box.drew1 ba4) HW.out HH.out HKI.out.1 HKI.out.2).mono ?_); rintro e w5 ⟨rfl, hb1⟩; have k0 := cell_b hb1 (show ((wr.alloc (.cells #[.int .i64 0, .int .i64 0] 36)).drew).cell? ⟨b, 0, none⟩ = some (.int .i64 W) from b0); have k1 := cell_b hb1 (show ((wr.alloc (.cells #[.int .i64 0, .int .i64 0] 36)).drew).cell? ⟨b, 1, none⟩ = some (.int .i64 H) from b1); have nb5 : (⟨b, 0, none⟩ : Addr).block ≠ w5.heap.size := (show b ≠ w5.heap.size by have := World.block_lt_of_cell? w5 _ k0; simp at this; omega); have B5 : Below wr.heap.size wr w5 := (((Below.refl wr.heap.size wr).alloc (Nat.le_refl _) _).trans (below_drewN wr.heap.size _ 1)).trans (hb1.mono (by simp)); have hy : Box w5 wr.heap.size 36 #[.int .i64 0, .int .i64 0] := (hb1.block _ (by simp)).trans (Box.new wr 36 #[.int .i64 0, .int .i64 0]))
                     | (go_at_call 79; (with_reducible refine (l06Point_any ⟨by omega, by omega⟩ ⟨by omega, by omega⟩ HX.out HY.out HS.out HU.out).mono ?_); rintro e w6 ⟨rfl, hb2'⟩; first | (have hz := (hy.below hb2'); have l0 := cell_b hb2' k0; have l1 := cell_b hb2' k1; have B6 : Below wr.heap.size wr w6 := B5.trans (hb2'.mono B5.size); have z0 := hz.cell 0; have z1 := hz.cell 1; have y0 := hz.free 0; have y1 := hz.free 1; have zn := hz.lt) | (have hz := ((Box.new w5 36 #[.int .i64 0, .int .i64 0]).below hb2'); have l0 := cell_b hb2' (cell_b (Joins.below_alloc1 _ _) k0); have l1 := cell_b hb2' (cell_b (Joins.below_alloc1 _ _) k1); have B6 : Below wr.heap.size wr w6 := (B5.alloc B5.size _).trans (hb2'.mono (by simp; have := B5.size; omega)); have z0 := hz.cell 0; have z1 := hz.cell 1; have y0 := hz.free 0; have y1 := hz.free 1; have zn := hz.lt) | (have l0 := cell_b hb2' k0; have l1 := cell_b hb2' k1; have B6 : Below wr.heap.size wr w6 := B5.trans (hb2'.mono B5.size))))
            · have R : Hid (∃ pt : Nat, Value.pointer (some ⟨w6.heap.size, 0, none⟩) = .pointer (some ⟨pt, 0, none⟩) ∧ Box (w6.alloc (.cells #[.int .i64 u0, .int .i64 u1] 36)) pt 36 #[.int .i64 u0, .int .i64 u1] ∧ wr.heap.size ≤ pt ∧ Below wr.heap.size wr (w6.alloc (.cells #[.int .i64 u0, .int .i64 u1] 36))) := Lib.hid ⟨_, rfl, Box.new _ _ _, B6.size, B6.alloc B6.size _⟩
              clear l0 l1 k0 k1 nb5 B5 B6 hb1 hb2'
              go_wp2_with fail
              go_meet
              case rel => exact R.out
            · have R : Hid (∃ pt : Nat, Value.pointer (some ⟨w5.heap.size, 0, none⟩) = .pointer (some ⟨pt, 0, none⟩) ∧ Box ((w6.setCell ⟨w5.heap.size, 0, none⟩ (.int .i64 u0)).setCell ⟨w5.heap.size, 1, none⟩ (.int .i64 u1)) pt 36 #[.int .i64 u0, .int .i64 u1] ∧ wr.heap.size ≤ pt ∧ Below wr.heap.size wr ((w6.setCell ⟨w5.heap.size, 0, none⟩ (.int .i64 u0)).setCell ⟨w5.heap.size, 1, none⟩ (.int .i64 u1))) := Lib.hid ⟨_, rfl, Box.set2p hz _ _, B5.size, (B6.setCell (p := ⟨w5.heap.size, 0, none⟩) B5.size _).setCell (p := ⟨w5.heap.size, 1, none⟩) B5.size _⟩
              clear l0 l1 k0 k1 nb5 B5 B6 hb1 hb2' hz z0 z1 y0 y1 zn
              go_wp2_with fail
              go_meet
              case rel => exact R.out
            · have R : Hid (∃ pt : Nat, Value.pointer (some ⟨wr.heap.size, 0, none⟩) = .pointer (some ⟨pt, 0, none⟩) ∧ Box ((w6.setCell ⟨wr.heap.size, 0, none⟩ (.int .i64 u0)).setCell ⟨wr.heap.size, 1, none⟩ (.int .i64 u1)) pt 36 #[.int .i64 u0, .int .i64 u1] ∧ wr.heap.size ≤ pt ∧ Below wr.heap.size wr ((w6.setCell ⟨wr.heap.size, 0, none⟩ (.int .i64 u0)).setCell ⟨wr.heap.size, 1, none⟩ (.int .i64 u1))) := Lib.hid ⟨_, rfl, Box.set2p hz _ _, Nat.le_refl _, (B6.setCell (p := ⟨wr.heap.size, 0, none⟩) (Nat.le_refl _) _).setCell (p := ⟨wr.heap.size, 1, none⟩) (Nat.le_refl _) _⟩
              clear l0 l1 k0 k1 nb5 B5 B6 hb1 hb2' hz z0 z1 y0 y1 zn hy
              go_wp2_with fail
              go_meet
              case rel => exact R.out
          case rest =>
            obtain ⟨pt, rfl, bt, ht, hbw⟩ := hcut
            clear a0 a1 a2 an b0 b1 ba4
            have ba5 := ba3.below hbw
            have bo5 := bo3.below hbw
            have HI5 : Hid (Ints wc V.heap.size (.slice (some ⟨g, 0, none⟩) xs.length xs.length) (mapTo W H s xs xs.length k)) := Lib.hid (Row.below hI hbw)
            have HG5 := Lib.hid (gb_below hg hbw)
            have c4 := cell_b hbw c3
            have gpt : (⟨pt, 0, none⟩ : Addr).block ≠ g := show pt ≠ g by omega
            have gpb : (⟨pb, 0, none⟩ : Addr).block ≠ g := show pb ≠ g from fun e => hne e.symm
            have gbb : (⟨b, 0, none⟩ : Addr).block ≠ g := show b ≠ g by omega
            have gga : (⟨ga, 0, none⟩ : Addr).block ≠ g := show ga ≠ g by omega
            have a0 := ba5.cell 0
            have a1 := ba5.cell 1
            have a2 := ba5.cell 2
            have an := ba5.lt
            have o0 := bo5.cell 0
            have o1 := bo5.cell 1
            have o2 := bo5.cell 2
            have on := bo5.lt
            have t0 := bt.cell 0
            have t1 := bt.cell 1
            have tn := bt.lt
            simp only [List.getElem?_toArray, List.getElem?_cons_zero, List.getElem?_cons_succ] at a2 o0 o1 o2 t0 t1
            clear hbw hI hg c3 hpr
            go_wp2
            go_region_held3 (fun w' => w'.cell? ⟨b, 2, none⟩ = some (.slice (some ⟨ga, 0, none⟩) xs.length cA) ∧ w'.cell? ⟨pb, 2, none⟩ = some (.slice (some ⟨g, 0, none⟩) xs.length xs.length) ∧
                w'.cell? ⟨pt, 0, none⟩ = some (.int .i64 u0) ∧ w'.cell? ⟨pt, 1, none⟩ = some (.int .i64 u1) ∧ w'.cell? ⟨ga, k, none⟩ = some (.int .i64 (gI xs k)))
              (first | exact ⟨a2, o2, t0, t1, c4⟩
                     | exact ⟨m0, m1, m2, m3, m4⟩
                     | exact ⟨cell_f gbb m0, cell_f gpb m1, cell_f gpt m2, cell_f gpt m3, cell_f gga m4⟩)
              (first | (go_at_call 123; (with_reducible refine (l02Number_any (Box.drew1 bo5) ⟨by omega, by omega⟩ ⟨by omega, by omega⟩ ⟨by omega, by omega⟩ HNM.out).mono ?_); rintro e w8 ⟨rfl, hb8⟩; have m0 := cell_b hb8 (show (wc.drew).cell? ⟨b, 2, none⟩ = _ from a2); have m1 := cell_b hb8 (show (wc.drew).cell? ⟨pb, 2, none⟩ = _ from o2); have m2 := cell_b hb8 (show (wc.drew).cell? ⟨pt, 0, none⟩ = _ from t0); have m3 := cell_b hb8 (show (wc.drew).cell? ⟨pt, 1, none⟩ = _ from t1); have m4 := cell_b hb8 (show (wc.drew).cell? ⟨ga, k, none⟩ = _ from c4); have io8 := Row.below (Row.drew HI5.out) hb8; have z1 := Ints.cellI io8 (i := N) nf0 (by rw [HNL.out]; exact nf1); have z2 := Row.free io8 N.toNat; have g8 := gb_below (gb_below HG5.out (below_drewN _ _ 1)) hb8)
                     | (go_at_call 90; (with_reducible refine (l06Kind_any HKK.out HS.out HQ.out).mono ?_); rintro e w' ⟨rfl, rfl⟩))
            have io7 := Row.set_ io8 N.toNat q
            rw [HZ.out] at io7
            have g7 := gb_set (j := N.toNat) (u := .int .i64 q) g8
            have HI7 : Hid (Ints _ _ _ _) := Lib.hid io7
            have HG7 := Lib.hid g7
            clear io7 io8 g7 g8 hb8 z1 z2 m0 m1 m2 m3 m4 a0 a1 a2 o0 o1 o2 t0 t1 c4
            go_split_ands
            go_wp2
            go_roundw
            case rel => exact ⟨k + 1, by omega, by go_num, HI7.out, HG7.out⟩
            case measure => simp [intOf]; omega
        · have e : k = xs.length := by omega
          subst e
          have HMT := mapTo_length W H s xs xs.length xs.length
          have HI7 := Lib.hid hI
          have hb2' : Below w.heap.size V2 wr := (Below.refl _ _).grown hg (by have := hb2.size; omega) (fun j hj => by simp [Value.ownBlock] at hj; omega)
          have HBL := Lib.hid (((bl.trans (hb2.mono hV)).trans hb2' : Below w.heap.size w wr))
          have o0 := bo3.cell 0
          have o1 := bo3.cell 1
          have o2 := bo3.cell 2
          have on := bo3.lt
          have r0 := br3.cell 0
          have r1 := br3.cell 1
          have r2 := br3.cell 2
          have rf0 := br3.free 0
          have rf1 := br3.free 1
          have rf2 := br3.free 2
          have rn := br3.lt
          clear ba3 bo3 br3 hI hg hb2'
          go_wp2
          rw [HMW.out, HMH.out]
          refine bodyPost_ret (v := .agg #[.int .i64 H, .int .i64 W, .slice (some ⟨g, 0, none⟩) xs.length xs.length]) (by simp [results, Try.results83, go_sem, r0, r1, r2, rf0, rf1, rf2, rn]) rfl ⟨_, _, rfl, ?_, ?_⟩
          · have i2 := IntsIn.ofInts HI7.out (by rw [HMT]; exact hl)
            exact (((i2.at_store (p := ⟨w.heap.size, 0, none⟩) (by simp; omega) _).at_store (p := ⟨w.heap.size, 1, none⟩) (by simp; omega) _).at_store (p := ⟨w.heap.size, 2, none⟩) (by simp; omega) _).wider hV (by simp) (Nat.le_refl _)
          · exact ((HBL.out.setCell (p := ⟨w.heap.size, 0, none⟩) (Nat.le_refl _) _).setCell (p := ⟨w.heap.size, 1, none⟩) (Nat.le_refl _) _).setCell (p := ⟨w.heap.size, 2, none⟩) (Nat.le_refl _) _
    · skip
      rw [if_neg h4] at hand
      have HMW : Hid (mapW W H s = W) := Lib.hid (by simp [mapW, h4])
      have HMH : Hid (mapH W H s = H) := Lib.hid (by simp [mapH, h4])
      obtain ⟨V2, hV2⟩ : ∃ x, x = wc := ⟨wc, rfl⟩
      subst hV2
      have hb2 := hnp.below
      have hge := hnp.ge
      have hne := hnp.ne
      have bo := hnp.box
      have hgl := Row.lt hnp.ints (g := g) rfl
      have hI0 := hnp.ints
      have ba2 := ba.below hb2
      have br2 := br.below hb2
      have hp2 := hp1.below hb2
      have hV := bl.size
      clear hnp
      go_wp2
      go_loopw [6] (fun i wr => ∃ k : Nat, k ≤ xs.length ∧ i = .int .i64 k ∧ Ints wr V.heap.size (.slice (some ⟨g, 0, none⟩) xs.length xs.length) (mapTo W H s xs xs.length k) ∧ V2.grownBy wr (some g)) (fun i _ => xs.length - (intOf i).toNat)
      case atStart => exact ⟨0, Nat.zero_le _, rfl, hI0, gb_refl _ _⟩
      case round =>
        obtain ⟨k, hk, rfl, hI, hg⟩ := hrel
        clear hI0
        have ba3 := ba2.grown hg (fun e => by simp at e; omega)
        have bo3 := bo.grown hg (fun e => by simp at e; omega)
        have br3 := br2.grown hg (fun e => by simp at e; omega)
        have a0 := ba3.cell 0
        have a1 := ba3.cell 1
        have a2 := ba3.cell 2
        have an := ba3.lt
        simp only [List.getElem?_toArray, List.getElem?_cons_zero, List.getElem?_cons_succ] at a0 a1 a2
        by_cases hlt : k < xs.length
        · obtain ⟨ga, rfl, ga1⟩ : ∃ ga, A = some ⟨ga, 0, none⟩ ∧ ga < w.heap.size := by
            obtain ⟨ga, h1, _, h3⟩ := hA (by omega)
            exact ⟨ga, h1, h3⟩
          have hpr : Ints wr lo (.slice (some ⟨ga, 0, none⟩) xs.length cA) xs := Row.keep hp2.1 fun j hj hjl => hg.block j hjl (fun e => by simp [Value.ownBlock] at hj e; omega)
          have c3 := Ints.cell hpr (k := k) hlt
          have i0 : (0 : Int) ≤ (k : Int) := by omega
          have i1 : (k : Int) < (xs.length : Int) := by omega
          obtain ⟨pi1, pi2, pi3, pi4, pi5⟩ := pt_in (H := H) W1 W8 i0 (by rw [HN.out]; exact i1)
          obtain ⟨mi1, mi2, mi3, mi4, mi5⟩ := mapX_in pi1 pi2 pi3 pi4 pi5 s0 s7
          obtain ⟨u0, u1, hu⟩ : ∃ u0 u1, mapX W H (ptX W k) (ptY W k) s = (u0, u1) := ⟨_, _, rfl⟩
          obtain ⟨N, hNN⟩ : ∃ N, mapN W H s k = N := ⟨_, rfl⟩
          obtain ⟨q, hq⟩ : ∃ q, kindX (gI xs k) s = q := ⟨_, rfl⟩
          have nf := HNF.out k i0 i1
          rw [hNN] at nf
          obtain ⟨nf0, nf1⟩ := nf
          have HZ : Hid ((mapTo W H s xs xs.length k).set N.toNat q = mapTo W H s xs xs.length (k + 1)) := Lib.hid (by rw [mapTo, hNN, hq])
          have HNM : Hid (rowOf W u1 + (u0 - 1) / 2 = N) := Lib.hid (by rw [← hNN]; unfold mapN; rw [hu, HMW.out])
          rw [hu, HMW.out] at mi2
          rw [hu, HMH.out] at mi4
          rw [hu] at mi1 mi3
          simp only [] at mi1 mi2 mi3 mi4
          have HU := Lib.hid hu
          have HQ := Lib.hid hq
          have HKK := Lib.hid (HK.out k hlt)
          have HKI : Hid (0 ≤ (k : Int) ∧ (k : Int) < inner W H) := Lib.hid ⟨i0, by rw [HN.out]; exact i1⟩
          have HX : Hid (0 ≤ ptX W k ∧ ptX W k ≤ 2 * W) := Lib.hid ⟨by omega, by omega⟩
          have HY : Hid (0 ≤ ptY W k ∧ ptY W k ≤ 2 * H) := Lib.hid ⟨by omega, by omega⟩
          have wz := hg.size
          have nl := mapTo_length W H s xs xs.length k
          have HNL := Lib.hid nl
          have ba4 := ba3.alloc (.cells #[.int .i64 0, .int .i64 0] 36)
          have b0 := ba4.cell 0
          have b1 := ba4.cell 1
          simp only [List.getElem?_toArray, List.getElem?_cons_zero, List.getElem?_cons_succ] at b0 b1
          clear hu hNN hq nl mi5
          go_wp2
          have nb : (⟨b, 0, none⟩ : Addr).block ≠ wr.heap.size := show b ≠ wr.heap.size by omega
          go_cut [7] (fun s7 wc => ∃ pt : Nat, s7 = .pointer (some ⟨pt, 0, none⟩) ∧ Box wc pt 36 #[.int .i64 u0, .int .i64 u1] ∧ wr.heap.size ≤ pt ∧ Below wr.heap.size wr wc)
          case first =>
            go_region_held3 (fun w' => w'.cell? ⟨b, 0, none⟩ = some (.int .i64 W) ∧ w'.cell? ⟨b, 1, none⟩ = some (.int .i64 H))
              (first | exact ⟨cell_b (Joins.below_alloc1 _ _) l0, cell_b (Joins.below_alloc1 _ _) l1⟩
                     | exact ⟨l0, l1⟩
                     | exact ⟨cell_f nb (cell_f nb l0), cell_f nb (cell_f nb l1)⟩
                     | exact ⟨cell_f nb5 (cell_f nb5 l0), cell_f nb5 (cell_f nb5 l1)⟩
                     | exact ⟨cell_b (Joins.below_alloc1 _ _) k0, cell_b (Joins.below_alloc1 _ _) k1⟩
                     | exact ⟨k0, k1⟩
                     | exact ⟨a0, a1⟩
                     | exact ⟨b0, b1⟩)
              (first | (go_at_call 122; (with_reducible refine (l02Point_any (Box.drew1 ba3) HW.out HH.out HKI.out.1 HKI.out.2).mono ?_); rintro e w5 ⟨rfl, hb1⟩; have k0 := cell_b hb1 (show (wr.drew).cell? ⟨b, 0, none⟩ = some (.int .i64 W) from a0); have k1 := cell_b hb1 (show (wr.drew).cell? ⟨b, 1, none⟩ = some (.int .i64 H) from a1); have nb5 : (⟨b, 0, none⟩ : Addr).block ≠ w5.heap.size := (show b ≠ w5.heap.size by have := World.block_lt_of_cell? w5 _ k0; simp at this; omega); have B5 : Below wr.heap.size wr w5 := (below_drewN wr.heap.size wr 1).trans (hb1.mono (by simp)))
                     | (go_at_call 122; (with_reducible refine (l02Point_any (Box.drew1 ba4) HW.out HH.out HKI.out.1 HKI.out.2).mono ?_); rintro e w5 ⟨rfl, hb1⟩; have k0 := cell_b hb1 (show ((wr.alloc (.cells #[.int .i64 0, .int .i64 0] 36)).drew).cell? ⟨b, 0, none⟩ = some (.int .i64 W) from b0); have k1 := cell_b hb1 (show ((wr.alloc (.cells #[.int .i64 0, .int .i64 0] 36)).drew).cell? ⟨b, 1, none⟩ = some (.int .i64 H) from b1); have nb5 : (⟨b, 0, none⟩ : Addr).block ≠ w5.heap.size := (show b ≠ w5.heap.size by have := World.block_lt_of_cell? w5 _ k0; simp at this; omega); have B5 : Below wr.heap.size wr w5 := (((Below.refl wr.heap.size wr).alloc (Nat.le_refl _) _).trans (below_drewN wr.heap.size _ 1)).trans (hb1.mono (by simp)); have hy : Box w5 wr.heap.size 36 #[.int .i64 0, .int .i64 0] := (hb1.block _ (by simp)).trans (Box.new wr 36 #[.int .i64 0, .int .i64 0]))
                     | (go_at_call 79; (with_reducible refine (l06Point_any ⟨by omega, by omega⟩ ⟨by omega, by omega⟩ HX.out HY.out HS.out HU.out).mono ?_); rintro e w6 ⟨rfl, hb2'⟩; first | (have hz := (hy.below hb2'); have l0 := cell_b hb2' k0; have l1 := cell_b hb2' k1; have B6 : Below wr.heap.size wr w6 := B5.trans (hb2'.mono B5.size); have z0 := hz.cell 0; have z1 := hz.cell 1; have y0 := hz.free 0; have y1 := hz.free 1; have zn := hz.lt) | (have hz := ((Box.new w5 36 #[.int .i64 0, .int .i64 0]).below hb2'); have l0 := cell_b hb2' (cell_b (Joins.below_alloc1 _ _) k0); have l1 := cell_b hb2' (cell_b (Joins.below_alloc1 _ _) k1); have B6 : Below wr.heap.size wr w6 := (B5.alloc B5.size _).trans (hb2'.mono (by simp; have := B5.size; omega)); have z0 := hz.cell 0; have z1 := hz.cell 1; have y0 := hz.free 0; have y1 := hz.free 1; have zn := hz.lt) | (have l0 := cell_b hb2' k0; have l1 := cell_b hb2' k1; have B6 : Below wr.heap.size wr w6 := B5.trans (hb2'.mono B5.size))))
            · have R : Hid (∃ pt : Nat, Value.pointer (some ⟨w6.heap.size, 0, none⟩) = .pointer (some ⟨pt, 0, none⟩) ∧ Box (w6.alloc (.cells #[.int .i64 u0, .int .i64 u1] 36)) pt 36 #[.int .i64 u0, .int .i64 u1] ∧ wr.heap.size ≤ pt ∧ Below wr.heap.size wr (w6.alloc (.cells #[.int .i64 u0, .int .i64 u1] 36))) := Lib.hid ⟨_, rfl, Box.new _ _ _, B6.size, B6.alloc B6.size _⟩
              clear l0 l1 k0 k1 nb5 B5 B6 hb1 hb2'
              go_wp2_with fail
              go_meet
              case rel => exact R.out
            · have R : Hid (∃ pt : Nat, Value.pointer (some ⟨w5.heap.size, 0, none⟩) = .pointer (some ⟨pt, 0, none⟩) ∧ Box ((w6.setCell ⟨w5.heap.size, 0, none⟩ (.int .i64 u0)).setCell ⟨w5.heap.size, 1, none⟩ (.int .i64 u1)) pt 36 #[.int .i64 u0, .int .i64 u1] ∧ wr.heap.size ≤ pt ∧ Below wr.heap.size wr ((w6.setCell ⟨w5.heap.size, 0, none⟩ (.int .i64 u0)).setCell ⟨w5.heap.size, 1, none⟩ (.int .i64 u1))) := Lib.hid ⟨_, rfl, Box.set2p hz _ _, B5.size, (B6.setCell (p := ⟨w5.heap.size, 0, none⟩) B5.size _).setCell (p := ⟨w5.heap.size, 1, none⟩) B5.size _⟩
              clear l0 l1 k0 k1 nb5 B5 B6 hb1 hb2' hz z0 z1 y0 y1 zn
              go_wp2_with fail
              go_meet
              case rel => exact R.out
            · have R : Hid (∃ pt : Nat, Value.pointer (some ⟨wr.heap.size, 0, none⟩) = .pointer (some ⟨pt, 0, none⟩) ∧ Box ((w6.setCell ⟨wr.heap.size, 0, none⟩ (.int .i64 u0)).setCell ⟨wr.heap.size, 1, none⟩ (.int .i64 u1)) pt 36 #[.int .i64 u0, .int .i64 u1] ∧ wr.heap.size ≤ pt ∧ Below wr.heap.size wr ((w6.setCell ⟨wr.heap.size, 0, none⟩ (.int .i64 u0)).setCell ⟨wr.heap.size, 1, none⟩ (.int .i64 u1))) := Lib.hid ⟨_, rfl, Box.set2p hz _ _, Nat.le_refl _, (B6.setCell (p := ⟨wr.heap.size, 0, none⟩) (Nat.le_refl _) _).setCell (p := ⟨wr.heap.size, 1, none⟩) (Nat.le_refl _) _⟩
              clear l0 l1 k0 k1 nb5 B5 B6 hb1 hb2' hz z0 z1 y0 y1 zn hy
              go_wp2_with fail
              go_meet
              case rel => exact R.out
          case rest =>
            obtain ⟨pt, rfl, bt, ht, hbw⟩ := hcut
            clear a0 a1 a2 an b0 b1 ba4
            have ba5 := ba3.below hbw
            have bo5 := bo3.below hbw
            have HI5 : Hid (Ints wc V.heap.size (.slice (some ⟨g, 0, none⟩) xs.length xs.length) (mapTo W H s xs xs.length k)) := Lib.hid (Row.below hI hbw)
            have HG5 := Lib.hid (gb_below hg hbw)
            have c4 := cell_b hbw c3
            have gpt : (⟨pt, 0, none⟩ : Addr).block ≠ g := show pt ≠ g by omega
            have gpb : (⟨pb, 0, none⟩ : Addr).block ≠ g := show pb ≠ g from fun e => hne e.symm
            have gbb : (⟨b, 0, none⟩ : Addr).block ≠ g := show b ≠ g by omega
            have gga : (⟨ga, 0, none⟩ : Addr).block ≠ g := show ga ≠ g by omega
            have a0 := ba5.cell 0
            have a1 := ba5.cell 1
            have a2 := ba5.cell 2
            have an := ba5.lt
            have o0 := bo5.cell 0
            have o1 := bo5.cell 1
            have o2 := bo5.cell 2
            have on := bo5.lt
            have t0 := bt.cell 0
            have t1 := bt.cell 1
            have tn := bt.lt
            simp only [List.getElem?_toArray, List.getElem?_cons_zero, List.getElem?_cons_succ] at a2 o0 o1 o2 t0 t1
            clear hbw hI hg c3 hpr
            go_wp2
            go_region_held3 (fun w' => w'.cell? ⟨b, 2, none⟩ = some (.slice (some ⟨ga, 0, none⟩) xs.length cA) ∧ w'.cell? ⟨pb, 2, none⟩ = some (.slice (some ⟨g, 0, none⟩) xs.length xs.length) ∧
                w'.cell? ⟨pt, 0, none⟩ = some (.int .i64 u0) ∧ w'.cell? ⟨pt, 1, none⟩ = some (.int .i64 u1) ∧ w'.cell? ⟨ga, k, none⟩ = some (.int .i64 (gI xs k)))
              (first | exact ⟨a2, o2, t0, t1, c4⟩
                     | exact ⟨m0, m1, m2, m3, m4⟩
                     | exact ⟨cell_f gbb m0, cell_f gpb m1, cell_f gpt m2, cell_f gpt m3, cell_f gga m4⟩)
              (first | (go_at_call 123; (with_reducible refine (l02Number_any (Box.drew1 bo5) ⟨by omega, by omega⟩ ⟨by omega, by omega⟩ ⟨by omega, by omega⟩ HNM.out).mono ?_); rintro e w8 ⟨rfl, hb8⟩; have m0 := cell_b hb8 (show (wc.drew).cell? ⟨b, 2, none⟩ = _ from a2); have m1 := cell_b hb8 (show (wc.drew).cell? ⟨pb, 2, none⟩ = _ from o2); have m2 := cell_b hb8 (show (wc.drew).cell? ⟨pt, 0, none⟩ = _ from t0); have m3 := cell_b hb8 (show (wc.drew).cell? ⟨pt, 1, none⟩ = _ from t1); have m4 := cell_b hb8 (show (wc.drew).cell? ⟨ga, k, none⟩ = _ from c4); have io8 := Row.below (Row.drew HI5.out) hb8; have z1 := Ints.cellI io8 (i := N) nf0 (by rw [HNL.out]; exact nf1); have z2 := Row.free io8 N.toNat; have g8 := gb_below (gb_below HG5.out (below_drewN _ _ 1)) hb8)
                     | (go_at_call 90; (with_reducible refine (l06Kind_any HKK.out HS.out HQ.out).mono ?_); rintro e w' ⟨rfl, rfl⟩))
            have io7 := Row.set_ io8 N.toNat q
            rw [HZ.out] at io7
            have g7 := gb_set (j := N.toNat) (u := .int .i64 q) g8
            have HI7 : Hid (Ints _ _ _ _) := Lib.hid io7
            have HG7 := Lib.hid g7
            clear io7 io8 g7 g8 hb8 z1 z2 m0 m1 m2 m3 m4 a0 a1 a2 o0 o1 o2 t0 t1 c4
            go_split_ands
            go_wp2
            go_roundw
            case rel => exact ⟨k + 1, by omega, by go_num, HI7.out, HG7.out⟩
            case measure => simp [intOf]; omega
        · have e : k = xs.length := by omega
          subst e
          have HMT := mapTo_length W H s xs xs.length xs.length
          have HI7 := Lib.hid hI
          have hb2' : Below w.heap.size V2 wr := (Below.refl _ _).grown hg (by have := hb2.size; omega) (fun j hj => by simp [Value.ownBlock] at hj; omega)
          have HBL := Lib.hid (((bl.trans (hb2.mono hV)).trans hb2' : Below w.heap.size w wr))
          have o0 := bo3.cell 0
          have o1 := bo3.cell 1
          have o2 := bo3.cell 2
          have on := bo3.lt
          have r0 := br3.cell 0
          have r1 := br3.cell 1
          have r2 := br3.cell 2
          have rf0 := br3.free 0
          have rf1 := br3.free 1
          have rf2 := br3.free 2
          have rn := br3.lt
          clear ba3 bo3 br3 hI hg hb2'
          go_wp2
          rw [HMW.out, HMH.out]
          refine bodyPost_ret (v := .agg #[.int .i64 W, .int .i64 H, .slice (some ⟨g, 0, none⟩) xs.length xs.length]) (by simp [results, Try.results83, go_sem, r0, r1, r2, rf0, rf1, rf2, rn]) rfl ⟨_, _, rfl, ?_, ?_⟩
          · have i2 := IntsIn.ofInts HI7.out (by rw [HMT]; exact hl)
            exact (((i2.at_store (p := ⟨w.heap.size, 0, none⟩) (by simp; omega) _).at_store (p := ⟨w.heap.size, 1, none⟩) (by simp; omega) _).at_store (p := ⟨w.heap.size, 2, none⟩) (by simp; omega) _).wider hV (by simp) (Nat.le_refl _)
          · exact ((HBL.out.setCell (p := ⟨w.heap.size, 0, none⟩) (Nat.le_refl _) _).setCell (p := ⟨w.heap.size, 1, none⟩) (Nat.le_refl _) _).setCell (p := ⟨w.heap.size, 2, none⟩) (Nat.le_refl _) _
end Go.Proofs.Ytihfdgnocdphcaa
