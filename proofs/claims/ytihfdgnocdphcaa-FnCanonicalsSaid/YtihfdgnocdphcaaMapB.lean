/-
  Panels moved by a symmetry, by the program.
-/
import Derived.Test.YtihfdgnocdphcaaMapA
namespace Go.Proofs.Ytihfdgnocdphcaa
open Go.RowKit Knot

theorem gb_below {V w w' : World} {r : Option Nat} (h : V.grownBy w r) (hb : Below w.heap.size w w') : V.grownBy w' r :=
  ⟨hb.os.trans h.os, hb.tape.trans h.tape, hb.output.trans h.output, Nat.le_trans h.size hb.size, fun k hk hne => (hb.block k (Nat.lt_of_lt_of_le hk h.size)).trans (h.block k hk hne)⟩
theorem gb_set {V w : World} {g j : Nat} {u : Value} (h : V.grownBy w (some g)) : V.grownBy (w.setCell ⟨g, j, none⟩ u) (some g) :=
  ⟨h.os, h.tape, h.output, by have := h.size; simpa [World.setCell] using this, fun k hk hne => (Below.heap_setCell w ⟨g, j, none⟩ u k (fun e => hne (by rw [e]))).trans (h.block k hk hne)⟩
theorem gb_refl (V : World) (r : Option Nat) : V.grownBy V r := ⟨rfl, rfl, rfl, Nat.le_refl _, fun _ _ _ => rfl⟩
theorem IntsIn.set_at {w : World} {lo hi g n c : Nat} {xs : List Int} (h : IntsIn w lo hi (.slice (some ⟨g, 0, none⟩) n c) xs) (k : Nat) (x : Int) : IntsIn (w.setCell ⟨g, k, none⟩ (.int .i64 x)) lo hi (.slice (some ⟨g, 0, none⟩) n c) (xs.set k x) :=
  ⟨Row.set_ h.1 k x, h.2.1, by have := h.2.2.1; simpa [World.setCell] using this, by simpa using h.2.2.2⟩
theorem cell_b {w w' : World} {p : Addr} {u : Value} (hb : Below w.heap.size w w') (h : w.cell? p = some u) : w'.cell? p = some u := (hb.cell (World.block_lt_of_cell? w _ h)).trans h
theorem cell_f {w : World} {p q : Addr} {u x : Value} (hne : p.block ≠ q.block) (h : w.cell? p = some u) : (w.setCell q x).cell? p = some u := (World.cell?_setCell_far w q p x (Ne.symm hne)).trans h
set_option maxHeartbeats 8000000 in
theorem mapPanel_any {w : World} {lo hi : Nat} {W H s : Int} {v : Value} {xs : List Int} (hp : IntsIn w lo hi v xs) (ho : Ok ⟨W, H, xs⟩) (hs : symOk s = true) :
    Calls Try.prog 84 #[.agg #[.int .i64 W, .int .i64 H, v], .int .i64 s] w fun e w' => ∃ A c, e = .returned (.agg #[.int .i64 (mapW W H s), .int .i64 (mapH W H s), .slice A xs.length c]) ∧
      IntsIn w' w.heap.size w'.heap.size (.slice A xs.length c) (mapTo W H s xs xs.length xs.length) ∧ Below w.heap.size w w' := by
  obtain ⟨A, cA, rfl, lA, hA⟩ := hp.1.open_
  have hl := hp.len
  have hW : 1 ≤ W ∧ W ≤ 8 := ⟨ho.w1, ho.w8⟩
  have hH : 1 ≤ H ∧ H ≤ 8 := ⟨ho.h1, ho.h8⟩
  have hN : inner W H = (xs.length : Int) := ho.len.symm
  have hN2 : inner H W = (xs.length : Int) := by rw [inner_comm]; exact hN
  have hkd : ∀ k : Nat, k < xs.length → 0 ≤ gI xs k ∧ gI xs k ≤ 2 := ((ok_iff W H xs).1 ho).2.2.2
  obtain ⟨s0, s7⟩ := symOk_bd hs
  have bl := Joins.below_alloc2 w (.cells #[.int .i64 W, .int .i64 H, .slice A xs.length cA] 30) (.cells #[.int .i64 0, .int .i64 0, .slice none 0 0] 30)
  have ba := (Box.new w 30 #[.int .i64 W, .int .i64 H, .slice A xs.length cA]).alloc (.cells #[.int .i64 0, .int .i64 0, .slice none 0 0] 30)
  have br := Box.new (w.alloc (.cells #[.int .i64 W, .int .i64 H, .slice A xs.length cA] 30)) 30 #[.int .i64 0, .int .i64 0, .slice none 0 0]
  rw [World.size_alloc] at br
  have hpb := hp.2.1
  have hphi := hp.2.2.1
  have hp1 := (hp.alloc (.cells #[.int .i64 W, .int .i64 H, .slice A xs.length cA] 30)).alloc (.cells #[.int .i64 0, .int .i64 0, .slice none 0 0] 30)
  have HW := Lib.hid hW
  have HH := Lib.hid hH
  have HN := Lib.hid hN
  have HN2 := Lib.hid hN2
  have HS := Lib.hid hs
  have HK := Lib.hid hkd
  have HNF : Hid (∀ k : Int, 0 ≤ k → k < (xs.length : Int) → 0 ≤ mapN W H s k ∧ mapN W H s k < (xs.length : Int)) := Lib.hid fun k a b => by rw [← hN]; exact mapN_in hW hH s0 s7 a (by rw [hN]; exact b)
  obtain ⟨W1, W8⟩ := hW
  obtain ⟨H1, H8⟩ := hH
  clear hN hN2 hs hkd hp ho
  by_cases h4 : 4 ≤ s
  · skip
    have HMW : Hid (mapW W H s = H) := Lib.hid (by simp [mapW, h4])
    have HMH : Hid (mapH W H s = W) := Lib.hid (by simp [mapH, h4])
    have q0 := ba.cell 0
    have q1 := ba.cell 1
    have q2 := ba.cell 2
    have qn := ba.lt
    go_enter Try.func84, Try.ntmps84
    go_wp2_with fail
    refine (newPanel_any HW.out HH.out HN.out).mono ?_
    rintro e w2 ⟨g, rfl, i1, hb⟩
    have s2 := hb.size
    simp only [World.size_alloc] at s2 i1
    replace ba := ba.below hb
    replace br := br.below hb
    replace bl := bnext bl hb
    replace hp1 := hp1.below hb
    clear hb q0 q1 q2 qn
    replace ba := ba.alloc (.cells #[.int .i64 W, .int .i64 H, .slice (some ⟨g, 0, none⟩) xs.length xs.length] 30)
    replace br := br.alloc (.cells #[.int .i64 W, .int .i64 H, .slice (some ⟨g, 0, none⟩) xs.length xs.length] 30)
    replace bl := bnext bl (Joins.below_alloc1 _ (.cells #[.int .i64 W, .int .i64 H, .slice (some ⟨g, 0, none⟩) xs.length xs.length] 30))
    replace hp1 := hp1.alloc (.cells #[.int .i64 W, .int .i64 H, .slice (some ⟨g, 0, none⟩) xs.length xs.length] 30)
    have bo := Box.new w2 30 #[.int .i64 W, .int .i64 H, .slice (some ⟨g, 0, none⟩) xs.length xs.length]
    have gl : g < w2.heap.size ∧ w.heap.size + 2 ≤ g := by have := Row.lt i1.1 (g := g) rfl; omega
    have q0 := ba.cell 0
    have q1 := ba.cell 1
    have q2 := ba.cell 2
    have qn := ba.lt
    go_wp2_with fail
    refine (newPanel_any HH.out HW.out HN2.out).mono ?_
    rintro e w3 ⟨g', rfl, i2, hb⟩
    have s3 := hb.size
    simp only [World.size_alloc] at s3 i2
    replace ba := ba.below hb
    replace br := br.below hb
    replace bo := bo.below hb
    replace bl := bnext bl hb
    replace hp1 := hp1.below hb
    clear hb q0 q1 q2 qn
    have gl' : g' < w3.heap.size ∧ w2.heap.size + 1 ≤ g' := by have := Row.lt i2.1 (g := g') rfl; omega
    clear gl i1
    obtain ⟨g, rfl⟩ : ∃ x, x = g' := ⟨g', rfl⟩
    have q0 := ba.cell 0
    have q1 := ba.cell 1
    have q2 := ba.cell 2
    have qn := ba.lt
    have o0 := bo.cell 0
    have o1 := bo.cell 1
    have o2 := bo.cell 2
    have of0 := bo.free 0
    have of1 := bo.free 1
    have of2 := bo.free 2
    have on := bo.lt
    go_wp2_with fail
    clear q0 q1 q2 qn o0 o1 o2 of0 of1 of2 on
    have io : Ints (((w3.setCell ⟨w2.heap.size, 0, none⟩ (.int .i64 H)).setCell ⟨w2.heap.size, 1, none⟩ (.int .i64 W)).setCell ⟨w2.heap.size, 2, none⟩ (.slice (some ⟨g, 0, none⟩) xs.length xs.length)) (w.heap.size + 2) (.slice (some ⟨g, 0, none⟩) xs.length xs.length) (List.replicate xs.length 0) :=
      Row.le (((i2.at_store (p := ⟨w2.heap.size, 0, none⟩) (by simp) _).at_store (p := ⟨w2.heap.size, 1, none⟩) (by simp) _).at_store (p := ⟨w2.heap.size, 2, none⟩) (by simp) _).1 (by omega)
    have gne : g ≠ w2.heap.size := by omega
    have gw2 : w.heap.size + 2 ≤ g := by omega
    replace bo : Box (((w3.setCell ⟨w2.heap.size, 0, none⟩ (.int .i64 H)).setCell ⟨w2.heap.size, 1, none⟩ (.int .i64 W)).setCell ⟨w2.heap.size, 2, none⟩ (.slice (some ⟨g, 0, none⟩) xs.length xs.length)) w2.heap.size 30 #[.int .i64 H, .int .i64 W, .slice (some ⟨g, 0, none⟩) xs.length xs.length] := by
      simpa using ((bo.set_ 0 (.int .i64 H)).set_ 1 (.int .i64 W)).set_ 2 (.slice (some ⟨g, 0, none⟩) xs.length xs.length)
    replace ba := ((ba.far (p := ⟨w2.heap.size, 0, none⟩) (by simp; omega) (.int .i64 H)).far (p := ⟨w2.heap.size, 1, none⟩) (by simp; omega) (.int .i64 W)).far (p := ⟨w2.heap.size, 2, none⟩) (by simp; omega) (.slice (some ⟨g, 0, none⟩) xs.length xs.length)
    replace br := ((br.far (p := ⟨w2.heap.size, 0, none⟩) (by simp; omega) (.int .i64 H)).far (p := ⟨w2.heap.size, 1, none⟩) (by simp; omega) (.int .i64 W)).far (p := ⟨w2.heap.size, 2, none⟩) (by simp; omega) (.slice (some ⟨g, 0, none⟩) xs.length xs.length)
    have hpf : ∀ k, (Value.slice A xs.length cA).ownBlock = some k → k ≠ w2.heap.size := fun k hk => by have := hpb k hk; omega
    replace hp1 : IntsIn _ _ _ _ xs := ⟨Row.setCell (p := ⟨w2.heap.size, 2, none⟩) (Row.setCell (p := ⟨w2.heap.size, 1, none⟩) (Row.setCell (p := ⟨w2.heap.size, 0, none⟩) hp1.1 (fun k hk => hpf k hk) (.int .i64 H)) (fun k hk => hpf k hk) (.int .i64 W)) (fun k hk => hpf k hk) (.slice (some ⟨g, 0, none⟩) xs.length xs.length), hp1.2.1, by have := hp1.2.2.1; simpa using this, hp1.2.2.2⟩
    clear hpf
    replace bl := ((bl.setCell (p := ⟨w2.heap.size, 0, none⟩) (by simp; omega) (.int .i64 H)).setCell (p := ⟨w2.heap.size, 1, none⟩) (by simp; omega) (.int .i64 W)).setCell (p := ⟨w2.heap.size, 2, none⟩) (by simp; omega) (.slice (some ⟨g, 0, none⟩) xs.length xs.length)
    refine (points_any (v := .slice A xs.length cA) HW.out HH.out HN.out rfl).mono ?_
    rintro e w4 ⟨P, cP, rfl, hP, hb⟩
    have s4 := hb.size
    simp only [World.size_alloc, World.size_setCell] at s4 hP
    replace ba := ba.below hb
    replace br := br.below hb
    replace bo := bo.below hb
    replace bl := bnext bl hb
    replace hp1 := hp1.below hb
    replace io : Ints w4 (w.heap.size + 2) (.slice (some ⟨g, 0, none⟩) xs.length xs.length) (List.replicate xs.length 0) := Row.below io hb
    clear hb
    clear i2

    go_wp2
    go_loopw [23] (fun i wr => ∃ k : Nat, k ≤ xs.length ∧ i = .int .i64 k ∧ Ints wr (w.heap.size + 2) (.slice (some ⟨g, 0, none⟩) xs.length xs.length) (mapTo W H s xs xs.length k) ∧ w4.grownBy wr (some g)) (fun i _ => xs.length - (intOf i).toNat)
    case atStart => exact ⟨0, Nat.zero_le _, rfl, io, gb_refl _ _⟩
    case round =>
      obtain ⟨k, hk, rfl, hI, hg⟩ := hrel
      clear io
      replace ba := ba.grown hg (fun e => by simp at e; omega)
      replace bo := bo.grown hg (fun e => by simp at e; omega)
      replace br := br.grown hg (fun e => by simp at e; omega)
      by_cases hlt : k < xs.length
      · obtain ⟨gp, rfl, gp1, gp2⟩ : ∃ gp, P = some ⟨gp, 0, none⟩ ∧ w3.heap.size ≤ gp ∧ gp < w4.heap.size := by
          obtain ⟨A', c', e, _, h⟩ := hP.open_
          cases e
          obtain ⟨gp, h1, h2, h3⟩ := h (by omega)
          exact ⟨gp, h1, by omega, h3⟩
        have gpne : gp ≠ g := by omega
        have gA : w.heap.size ≠ g := by omega
        have gO : w2.heap.size ≠ g := by omega
        obtain ⟨ga, rfl, ga1⟩ : ∃ ga, A = some ⟨ga, 0, none⟩ ∧ ga < w.heap.size := by
          obtain ⟨ga, h1, _, h3⟩ := hA (by omega)
          exact ⟨ga, h1, h3⟩
        have gB : ga ≠ g := by omega
        have hP2 : PRow wr _ _ xs.length (ptsTo W xs.length) := hP.keep fun j hj hjl => hg.block j hjl (fun e => gpne (by simp [Value.ownBlock] at hj e; omega))
        have hp2 : Ints wr lo (.slice (some ⟨ga, 0, none⟩) xs.length cA) xs := Row.keep hp1.1 fun j hj hjl => hg.block j hjl (fun e => by simp [Value.ownBlock] at hj e; omega)
        have c1 := hP2.cell (j := 2 * k) (by omega)
        have c2 := hP2.cell (j := 2 * k + 1) (by omega)
        rw [(ptsTo_get W xs.length k hlt).1] at c1
        rw [(ptsTo_get W xs.length k hlt).2] at c2
        rw [Nat.mul_comm 2 k] at c1 c2
        have c3 := Ints.cell hp2 (k := k) hlt
        have i0 : (0 : Int) ≤ (k : Int) := by omega
        have i1 : (k : Int) < (xs.length : Int) := by omega
        obtain ⟨pi1, pi2, pi3, pi4, pi5⟩ := pt_in (H := H) W1 W8 i0 (by rw [HN.out]; exact i1)
        obtain ⟨mi1, mi2, mi3, mi4, mi5⟩ := mapX_in pi1 pi2 pi3 pi4 pi5 s0 s7
        obtain ⟨u0, u1, hu⟩ : ∃ u0 u1, mapX W H (ptX W k) (ptY W k) s = (u0, u1) := ⟨_, _, rfl⟩
        obtain ⟨N, hNN⟩ : ∃ N, mapN W H s k = N := ⟨_, rfl⟩
        obtain ⟨q, hq⟩ : ∃ q, kindX (gI xs k) s = q := ⟨_, rfl⟩
        have nf := HNF.out k i0 i1
        rw [hNN] at nf
        obtain ⟨nf0, nf1⟩ := nf
        have HZ : Hid ((mapTo W H s xs xs.length k).set N.toNat q = mapTo W H s xs xs.length (k + 1)) := Lib.hid (by rw [mapTo, hNN, hq])
        have HNM : Hid (rowOf H u1 + (u0 - 1) / 2 = N) := Lib.hid (by rw [← hNN]; unfold mapN; rw [hu, HMW.out])
        rw [hu, HMW.out] at mi2
        rw [hu, HMH.out] at mi4
        rw [hu] at mi1 mi3 mi5
        simp only [] at mi1 mi2 mi3 mi4 mi5
        have HU := Lib.hid hu
        have HQ := Lib.hid hq
        have HKK := Lib.hid (HK.out k hlt)
        have HM5 := Lib.hid mi5
        have HIO := Lib.hid hI
        have HG := Lib.hid hg
        have HX : Hid (0 ≤ ptX W k ∧ ptX W k ≤ 2 * W) := Lib.hid ⟨by omega, by omega⟩
        have HY : Hid (0 ≤ ptY W k ∧ ptY W k ≤ 2 * H) := Lib.hid ⟨by omega, by omega⟩
        have wz := hg.size
        have hS : Hid (Ints (wr.alloc (.cells #[.int .i64 (ptX W k), .int .i64 (ptY W k)] 36)) (w.heap.size + 2) (.slice (some ⟨g, 0, none⟩) xs.length xs.length) (mapTo W H s xs xs.length k)) := Lib.hid (Row.alloc hI _)
        have hGA : Hid (w4.grownBy (wr.alloc (.cells #[.int .i64 (ptX W k), .int .i64 (ptY W k)] 36)) (some g)) := Lib.hid (gb_below hg (Joins.below_alloc1 _ _))
        have c4 : (wr.alloc (.cells #[.int .i64 (ptX W k), .int .i64 (ptY W k)] 36)).cell? ⟨ga, k, none⟩ = some (.int .i64 (gI xs k)) := cell_b (Joins.below_alloc1 _ _) c3
        replace ba := ba.alloc (.cells #[.int .i64 (ptX W k), .int .i64 (ptY W k)] 36)
        replace bo := bo.alloc (.cells #[.int .i64 (ptX W k), .int .i64 (ptY W k)] 36)
        have bt := Box.new wr 36 #[.int .i64 (ptX W k), .int .i64 (ptY W k)]
        have gt : wr.heap.size ≠ g := by omega
        have nl := mapTo_length W H s xs xs.length k
        have HNL := Lib.hid nl
        clear hI hg hu hNN hq hP2 hp2 c3 hP hp1 nl mi5
        go_wp2
        generalize (wr.alloc (.cells #[.int .i64 (ptX W k), .int .i64 (ptY W k)] 36)) = V at ba bo bt hS hGA c4 ⊢
        have a0 := ba.cell 0
        have a1 := ba.cell 1
        have a2 := ba.cell 2
        have an := ba.lt
        have o0 := bo.cell 0
        have o1 := bo.cell 1
        have o2 := bo.cell 2
        have on := bo.lt
        have t0 := bt.cell 0
        have t1 := bt.cell 1
        have tn := bt.lt
        simp only [List.getElem?_toArray, List.getElem?_cons_zero, List.getElem?_cons_succ] at a0 a1 a2 o0 o1 o2 t0 t1
        have gwa : (⟨w.heap.size, 0, none⟩ : Addr).block ≠ g := gA
        have gwo : (⟨w2.heap.size, 0, none⟩ : Addr).block ≠ g := gO
        have gwt : (⟨wr.heap.size, 0, none⟩ : Addr).block ≠ g := gt
        have gwp : (⟨ga, 0, none⟩ : Addr).block ≠ g := gB
        clear ba bo bt c1 c2
        go_region_held3 (fun w' => w'.cell? ⟨w.heap.size, 0, none⟩ = some (.int .i64 W) ∧ w'.cell? ⟨w.heap.size, 1, none⟩ = some (.int .i64 H) ∧ w'.cell? ⟨w.heap.size, 2, none⟩ = some (.slice (some ⟨ga, 0, none⟩) xs.length cA) ∧
            w'.cell? ⟨w2.heap.size, 0, none⟩ = some (.int .i64 H) ∧ w'.cell? ⟨w2.heap.size, 1, none⟩ = some (.int .i64 W) ∧ w'.cell? ⟨w2.heap.size, 2, none⟩ = some (.slice (some ⟨g, 0, none⟩) xs.length xs.length) ∧
            w'.cell? ⟨wr.heap.size, 0, none⟩ = some (.int .i64 (ptX W k)) ∧ w'.cell? ⟨wr.heap.size, 1, none⟩ = some (.int .i64 (ptY W k)) ∧ w'.cell? ⟨ga, k, none⟩ = some (.int .i64 (gI xs k)))
          (first | exact ⟨a0, a1, a2, o0, o1, o2, t0, t1, c4⟩
                 | (go_split_ands; exact ⟨cell_f gwa (by assumption), cell_f gwa (by assumption), cell_f gwa (by assumption), cell_f gwo (by assumption), cell_f gwo (by assumption), cell_f gwo (by assumption), cell_f gwt (by assumption), cell_f gwt (by assumption), cell_f gwp (by assumption)⟩)
                 | (go_split_ands; exact ⟨cell_b hb2 (by assumption), cell_b hb2 (by assumption), cell_b hb2 (by assumption), cell_b hb2 (by assumption), cell_b hb2 (by assumption), cell_b hb2 (by assumption), cell_b hb2 (by assumption), cell_b hb2 (by assumption), cell_b hb2 (by assumption)⟩)
                 | (go_split_ands; exact ⟨cell_b hb1 (by assumption), cell_b hb1 (by assumption), cell_b hb1 (by assumption), cell_b hb1 (by assumption), cell_b hb1 (by assumption), cell_b hb1 (by assumption), cell_b hb1 (by assumption), cell_b hb1 (by assumption), cell_b hb1 (by assumption)⟩)
                 | (go_split_ands; exact ⟨by assumption, by assumption, by assumption, by assumption, by assumption, by assumption, by assumption, by assumption, by assumption⟩))
          (first | (go_at_call 82; (with_reducible refine (mapPoint_any ⟨by omega, by omega⟩ ⟨by omega, by omega⟩ HX.out HY.out HS.out HU.out).mono ?_); rintro e w5 ⟨rfl, hb1⟩)
                 | (go_at_call 93; (with_reducible refine (number_any (W := H) (H := W) (x := u0) (y := u1) ⟨by omega, by omega⟩ ⟨by omega, by omega⟩ ⟨by omega, by omega⟩ HM5.out HNM.out).mono ?_); rintro e w6 ⟨rfl, hb2⟩; have io6 := Row.below (Row.below (Row.drew hS.out) hb1) hb2; have z1 := Ints.cellI io6 (i := N) nf0 (by rw [HNL.out]; exact nf1); have z2 := Row.free io6 N.toNat; have g6 := gb_below (gb_below (gb_below hGA.out (below_drewN _ _ 1)) hb1) hb2)
                 | (go_at_call 94; (with_reducible refine (mapBreak_any HKK.out HQ.out).mono ?_); rintro e w' ⟨rfl, rfl⟩))
        have io7 := Row.set_ io6 N.toNat q
        rw [HZ.out] at io7
        have g7 := gb_set (j := N.toNat) (u := .int .i64 q) g6
        have HI7 : Hid (Ints _ _ _ _) := Lib.hid io7
        have HG7 := Lib.hid g7
        clear io6 io7 g6 g7 hb1 hb2 z1 z2 a0 a1 a2 o0 o1 o2 t0 t1 c4
        go_split_ands
        go_wp2
        go_roundw
        case rel => exact ⟨k + 1, by omega, by go_num, HI7.out, HG7.out⟩
        case measure => simp [intOf]; omega
      · have e : k = xs.length := by omega
        subst e
        have HMT := mapTo_length W H s xs xs.length xs.length
        have HI7 := Lib.hid hI
        have hgl := (Row.lt hI (g := g) rfl)
        have bl2 : Below w.heap.size w wr := bl.grown hg bl.size (fun j hj => by simp [Value.ownBlock] at hj; omega)
        have HBL := Lib.hid bl2
        have o0 := bo.cell 0
        have o1 := bo.cell 1
        have o2 := bo.cell 2
        have on := bo.lt
        have r0 := br.cell 0
        have r1 := br.cell 1
        have r2 := br.cell 2
        have rf0 := br.free 0
        have rf1 := br.free 1
        have rf2 := br.free 2
        have rn := br.lt
        clear ba bo br hI hg
        go_wp2
        rw [HMW.out, HMH.out]
        refine bodyPost_ret (v := .agg #[.int .i64 H, .int .i64 W, .slice (some ⟨g, 0, none⟩) xs.length xs.length]) (by simp [results, Try.results84, go_sem, r0, r1, r2, rf0, rf1, rf2, rn]) rfl ⟨_, _, rfl, ?_, ?_⟩
        · have i2 := IntsIn.ofInts HI7.out (by rw [HMT]; exact hl)
          exact (((i2.at_store (p := ⟨w.heap.size + 1, 0, none⟩) (by simp) _).at_store (p := ⟨w.heap.size + 1, 1, none⟩) (by simp) _).at_store (p := ⟨w.heap.size + 1, 2, none⟩) (by simp) _).wider (by omega) (by simp) (Nat.le_refl _)
        · exact ((HBL.out.setCell (p := ⟨w.heap.size + 1, 0, none⟩) (by simp) _).setCell (p := ⟨w.heap.size + 1, 1, none⟩) (by simp) _).setCell (p := ⟨w.heap.size + 1, 2, none⟩) (by simp) _

  · skip
    have HMW : Hid (mapW W H s = W) := Lib.hid (by simp [mapW, h4])
    have HMH : Hid (mapH W H s = H) := Lib.hid (by simp [mapH, h4])
    have q0 := ba.cell 0
    have q1 := ba.cell 1
    have q2 := ba.cell 2
    have qn := ba.lt
    go_enter Try.func84, Try.ntmps84
    go_wp2_with fail
    refine (newPanel_any HW.out HH.out HN.out).mono ?_
    rintro e w2 ⟨g, rfl, i1, hb⟩
    have s2 := hb.size
    simp only [World.size_alloc] at s2 i1
    replace ba := ba.below hb
    replace br := br.below hb
    replace bl := bnext bl hb
    replace hp1 := hp1.below hb
    clear hb q0 q1 q2 qn
    replace ba := ba.alloc (.cells #[.int .i64 W, .int .i64 H, .slice (some ⟨g, 0, none⟩) xs.length xs.length] 30)
    replace br := br.alloc (.cells #[.int .i64 W, .int .i64 H, .slice (some ⟨g, 0, none⟩) xs.length xs.length] 30)
    replace bl := bnext bl (Joins.below_alloc1 _ (.cells #[.int .i64 W, .int .i64 H, .slice (some ⟨g, 0, none⟩) xs.length xs.length] 30))
    replace hp1 := hp1.alloc (.cells #[.int .i64 W, .int .i64 H, .slice (some ⟨g, 0, none⟩) xs.length xs.length] 30)
    have bo := Box.new w2 30 #[.int .i64 W, .int .i64 H, .slice (some ⟨g, 0, none⟩) xs.length xs.length]
    have gl : g < w2.heap.size ∧ w.heap.size + 2 ≤ g := by have := Row.lt i1.1 (g := g) rfl; omega
    have io : Ints (w2.alloc (.cells #[.int .i64 W, .int .i64 H, .slice (some ⟨g, 0, none⟩) xs.length xs.length] 30)) (w.heap.size + 2) (.slice (some ⟨g, 0, none⟩) xs.length xs.length) (List.replicate xs.length 0) := Row.alloc i1.1 _
    have gne : g ≠ w2.heap.size := by omega
    have gw : g < w2.heap.size + 1 := by omega
    have gw2 := gl.2
    have lP : w2.heap.size + 1 ≤ (w2.alloc (.cells #[.int .i64 W, .int .i64 H, .slice (some ⟨g, 0, none⟩) xs.length xs.length] 30)).heap.size := by simp
    have q0 := ba.cell 0
    have q1 := ba.cell 1
    have q2 := ba.cell 2
    have qn := ba.lt
    go_wp2_with fail
    clear q0 q1 q2 qn
    refine (points_any (v := .slice A xs.length cA) HW.out HH.out HN.out rfl).mono ?_
    rintro e w4 ⟨P, cP, rfl, hP, hb⟩
    have s4 := hb.size
    simp only [World.size_alloc, World.size_setCell] at s4 hP
    replace ba := ba.below hb
    replace br := br.below hb
    replace bo := bo.below hb
    replace bl := bnext bl hb
    replace hp1 := hp1.below hb
    replace io : Ints w4 (w.heap.size + 2) (.slice (some ⟨g, 0, none⟩) xs.length xs.length) (List.replicate xs.length 0) := Row.below io hb
    clear hb
    clear gl i1

    go_wp2
    go_loopw [23] (fun i wr => ∃ k : Nat, k ≤ xs.length ∧ i = .int .i64 k ∧ Ints wr (w.heap.size + 2) (.slice (some ⟨g, 0, none⟩) xs.length xs.length) (mapTo W H s xs xs.length k) ∧ w4.grownBy wr (some g)) (fun i _ => xs.length - (intOf i).toNat)
    case atStart => exact ⟨0, Nat.zero_le _, rfl, io, gb_refl _ _⟩
    case round =>
      obtain ⟨k, hk, rfl, hI, hg⟩ := hrel
      clear io
      replace ba := ba.grown hg (fun e => by simp at e; omega)
      replace bo := bo.grown hg (fun e => by simp at e; omega)
      replace br := br.grown hg (fun e => by simp at e; omega)
      by_cases hlt : k < xs.length
      · obtain ⟨gp, rfl, gp1, gp2⟩ : ∃ gp, P = some ⟨gp, 0, none⟩ ∧ w2.heap.size + 1 ≤ gp ∧ gp < w4.heap.size := by
          obtain ⟨A', c', e, _, h⟩ := hP.open_
          cases e
          obtain ⟨gp, h1, h2, h3⟩ := h (by omega)
          exact ⟨gp, h1, by omega, h3⟩
        have gpne : gp ≠ g := by omega
        have gA : w.heap.size ≠ g := by omega
        have gO : w2.heap.size ≠ g := by omega
        obtain ⟨ga, rfl, ga1⟩ : ∃ ga, A = some ⟨ga, 0, none⟩ ∧ ga < w.heap.size := by
          obtain ⟨ga, h1, _, h3⟩ := hA (by omega)
          exact ⟨ga, h1, h3⟩
        have gB : ga ≠ g := by omega
        have hP2 : PRow wr _ _ xs.length (ptsTo W xs.length) := hP.keep fun j hj hjl => hg.block j hjl (fun e => gpne (by simp [Value.ownBlock] at hj e; omega))
        have hp2 : Ints wr lo (.slice (some ⟨ga, 0, none⟩) xs.length cA) xs := Row.keep hp1.1 fun j hj hjl => hg.block j hjl (fun e => by simp [Value.ownBlock] at hj e; omega)
        have c1 := hP2.cell (j := 2 * k) (by omega)
        have c2 := hP2.cell (j := 2 * k + 1) (by omega)
        rw [(ptsTo_get W xs.length k hlt).1] at c1
        rw [(ptsTo_get W xs.length k hlt).2] at c2
        rw [Nat.mul_comm 2 k] at c1 c2
        have c3 := Ints.cell hp2 (k := k) hlt
        have i0 : (0 : Int) ≤ (k : Int) := by omega
        have i1 : (k : Int) < (xs.length : Int) := by omega
        obtain ⟨pi1, pi2, pi3, pi4, pi5⟩ := pt_in (H := H) W1 W8 i0 (by rw [HN.out]; exact i1)
        obtain ⟨mi1, mi2, mi3, mi4, mi5⟩ := mapX_in pi1 pi2 pi3 pi4 pi5 s0 s7
        obtain ⟨u0, u1, hu⟩ : ∃ u0 u1, mapX W H (ptX W k) (ptY W k) s = (u0, u1) := ⟨_, _, rfl⟩
        obtain ⟨N, hNN⟩ : ∃ N, mapN W H s k = N := ⟨_, rfl⟩
        obtain ⟨q, hq⟩ : ∃ q, kindX (gI xs k) s = q := ⟨_, rfl⟩
        have nf := HNF.out k i0 i1
        rw [hNN] at nf
        obtain ⟨nf0, nf1⟩ := nf
        have HZ : Hid ((mapTo W H s xs xs.length k).set N.toNat q = mapTo W H s xs xs.length (k + 1)) := Lib.hid (by rw [mapTo, hNN, hq])
        have HNM : Hid (rowOf W u1 + (u0 - 1) / 2 = N) := Lib.hid (by rw [← hNN]; unfold mapN; rw [hu, HMW.out])
        rw [hu, HMW.out] at mi2
        rw [hu, HMH.out] at mi4
        rw [hu] at mi1 mi3 mi5
        simp only [] at mi1 mi2 mi3 mi4 mi5
        have HU := Lib.hid hu
        have HQ := Lib.hid hq
        have HKK := Lib.hid (HK.out k hlt)
        have HM5 := Lib.hid mi5
        have HIO := Lib.hid hI
        have HG := Lib.hid hg
        have HX : Hid (0 ≤ ptX W k ∧ ptX W k ≤ 2 * W) := Lib.hid ⟨by omega, by omega⟩
        have HY : Hid (0 ≤ ptY W k ∧ ptY W k ≤ 2 * H) := Lib.hid ⟨by omega, by omega⟩
        have wz := hg.size
        have hS : Hid (Ints (wr.alloc (.cells #[.int .i64 (ptX W k), .int .i64 (ptY W k)] 36)) (w.heap.size + 2) (.slice (some ⟨g, 0, none⟩) xs.length xs.length) (mapTo W H s xs xs.length k)) := Lib.hid (Row.alloc hI _)
        have hGA : Hid (w4.grownBy (wr.alloc (.cells #[.int .i64 (ptX W k), .int .i64 (ptY W k)] 36)) (some g)) := Lib.hid (gb_below hg (Joins.below_alloc1 _ _))
        have c4 : (wr.alloc (.cells #[.int .i64 (ptX W k), .int .i64 (ptY W k)] 36)).cell? ⟨ga, k, none⟩ = some (.int .i64 (gI xs k)) := cell_b (Joins.below_alloc1 _ _) c3
        replace ba := ba.alloc (.cells #[.int .i64 (ptX W k), .int .i64 (ptY W k)] 36)
        replace bo := bo.alloc (.cells #[.int .i64 (ptX W k), .int .i64 (ptY W k)] 36)
        have bt := Box.new wr 36 #[.int .i64 (ptX W k), .int .i64 (ptY W k)]
        have gt : wr.heap.size ≠ g := by omega
        have nl := mapTo_length W H s xs xs.length k
        have HNL := Lib.hid nl
        clear hI hg hu hNN hq hP2 hp2 c3 hP hp1 nl mi5
        go_wp2
        generalize (wr.alloc (.cells #[.int .i64 (ptX W k), .int .i64 (ptY W k)] 36)) = V at ba bo bt hS hGA c4 ⊢
        have a0 := ba.cell 0
        have a1 := ba.cell 1
        have a2 := ba.cell 2
        have an := ba.lt
        have o0 := bo.cell 0
        have o1 := bo.cell 1
        have o2 := bo.cell 2
        have on := bo.lt
        have t0 := bt.cell 0
        have t1 := bt.cell 1
        have tn := bt.lt
        simp only [List.getElem?_toArray, List.getElem?_cons_zero, List.getElem?_cons_succ] at a0 a1 a2 o0 o1 o2 t0 t1
        have gwa : (⟨w.heap.size, 0, none⟩ : Addr).block ≠ g := gA
        have gwo : (⟨w2.heap.size, 0, none⟩ : Addr).block ≠ g := gO
        have gwt : (⟨wr.heap.size, 0, none⟩ : Addr).block ≠ g := gt
        have gwp : (⟨ga, 0, none⟩ : Addr).block ≠ g := gB
        clear ba bo bt c1 c2
        go_region_held3 (fun w' => w'.cell? ⟨w.heap.size, 0, none⟩ = some (.int .i64 W) ∧ w'.cell? ⟨w.heap.size, 1, none⟩ = some (.int .i64 H) ∧ w'.cell? ⟨w.heap.size, 2, none⟩ = some (.slice (some ⟨ga, 0, none⟩) xs.length cA) ∧
            w'.cell? ⟨w2.heap.size, 0, none⟩ = some (.int .i64 W) ∧ w'.cell? ⟨w2.heap.size, 1, none⟩ = some (.int .i64 H) ∧ w'.cell? ⟨w2.heap.size, 2, none⟩ = some (.slice (some ⟨g, 0, none⟩) xs.length xs.length) ∧
            w'.cell? ⟨wr.heap.size, 0, none⟩ = some (.int .i64 (ptX W k)) ∧ w'.cell? ⟨wr.heap.size, 1, none⟩ = some (.int .i64 (ptY W k)) ∧ w'.cell? ⟨ga, k, none⟩ = some (.int .i64 (gI xs k)))
          (first | exact ⟨a0, a1, a2, o0, o1, o2, t0, t1, c4⟩
                 | (go_split_ands; exact ⟨cell_f gwa (by assumption), cell_f gwa (by assumption), cell_f gwa (by assumption), cell_f gwo (by assumption), cell_f gwo (by assumption), cell_f gwo (by assumption), cell_f gwt (by assumption), cell_f gwt (by assumption), cell_f gwp (by assumption)⟩)
                 | (go_split_ands; exact ⟨cell_b hb2 (by assumption), cell_b hb2 (by assumption), cell_b hb2 (by assumption), cell_b hb2 (by assumption), cell_b hb2 (by assumption), cell_b hb2 (by assumption), cell_b hb2 (by assumption), cell_b hb2 (by assumption), cell_b hb2 (by assumption)⟩)
                 | (go_split_ands; exact ⟨cell_b hb1 (by assumption), cell_b hb1 (by assumption), cell_b hb1 (by assumption), cell_b hb1 (by assumption), cell_b hb1 (by assumption), cell_b hb1 (by assumption), cell_b hb1 (by assumption), cell_b hb1 (by assumption), cell_b hb1 (by assumption)⟩)
                 | (go_split_ands; exact ⟨by assumption, by assumption, by assumption, by assumption, by assumption, by assumption, by assumption, by assumption, by assumption⟩))
          (first | (go_at_call 82; (with_reducible refine (mapPoint_any ⟨by omega, by omega⟩ ⟨by omega, by omega⟩ HX.out HY.out HS.out HU.out).mono ?_); rintro e w5 ⟨rfl, hb1⟩)
                 | (go_at_call 93; (with_reducible refine (number_any (W := W) (H := H) (x := u0) (y := u1) ⟨by omega, by omega⟩ ⟨by omega, by omega⟩ ⟨by omega, by omega⟩ HM5.out HNM.out).mono ?_); rintro e w6 ⟨rfl, hb2⟩; have io6 := Row.below (Row.below (Row.drew hS.out) hb1) hb2; have z1 := Ints.cellI io6 (i := N) nf0 (by rw [HNL.out]; exact nf1); have z2 := Row.free io6 N.toNat; have g6 := gb_below (gb_below (gb_below hGA.out (below_drewN _ _ 1)) hb1) hb2)
                 | (go_at_call 94; (with_reducible refine (mapBreak_any HKK.out HQ.out).mono ?_); rintro e w' ⟨rfl, rfl⟩))
        have io7 := Row.set_ io6 N.toNat q
        rw [HZ.out] at io7
        have g7 := gb_set (j := N.toNat) (u := .int .i64 q) g6
        have HI7 : Hid (Ints _ _ _ _) := Lib.hid io7
        have HG7 := Lib.hid g7
        clear io6 io7 g6 g7 hb1 hb2 z1 z2 a0 a1 a2 o0 o1 o2 t0 t1 c4
        go_split_ands
        go_wp2
        go_roundw
        case rel => exact ⟨k + 1, by omega, by go_num, HI7.out, HG7.out⟩
        case measure => simp [intOf]; omega
      · have e : k = xs.length := by omega
        subst e
        have HMT := mapTo_length W H s xs xs.length xs.length
        have HI7 := Lib.hid hI
        have hgl := (Row.lt hI (g := g) rfl)
        have bl2 : Below w.heap.size w wr := bl.grown hg bl.size (fun j hj => by simp [Value.ownBlock] at hj; omega)
        have HBL := Lib.hid bl2
        have o0 := bo.cell 0
        have o1 := bo.cell 1
        have o2 := bo.cell 2
        have on := bo.lt
        have r0 := br.cell 0
        have r1 := br.cell 1
        have r2 := br.cell 2
        have rf0 := br.free 0
        have rf1 := br.free 1
        have rf2 := br.free 2
        have rn := br.lt
        clear ba bo br hI hg
        go_wp2
        rw [HMW.out, HMH.out]
        refine bodyPost_ret (v := .agg #[.int .i64 W, .int .i64 H, .slice (some ⟨g, 0, none⟩) xs.length xs.length]) (by simp [results, Try.results84, go_sem, r0, r1, r2, rf0, rf1, rf2, rn]) rfl ⟨_, _, rfl, ?_, ?_⟩
        · have i2 := IntsIn.ofInts HI7.out (by rw [HMT]; exact hl)
          exact (((i2.at_store (p := ⟨w.heap.size + 1, 0, none⟩) (by simp) _).at_store (p := ⟨w.heap.size + 1, 1, none⟩) (by simp) _).at_store (p := ⟨w.heap.size + 1, 2, none⟩) (by simp) _).wider (by omega) (by simp) (Nat.le_refl _)
        · exact ((HBL.out.setCell (p := ⟨w.heap.size + 1, 0, none⟩) (by simp) _).setCell (p := ⟨w.heap.size + 1, 1, none⟩) (by simp) _).setCell (p := ⟨w.heap.size + 1, 2, none⟩) (by simp) _

end Go.Proofs.Ytihfdgnocdphcaa
