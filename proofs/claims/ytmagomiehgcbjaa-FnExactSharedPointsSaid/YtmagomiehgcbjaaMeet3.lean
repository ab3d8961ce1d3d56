/-
  The points at which some curves meet, by the program and by the reference.
-/
import Derived.Test.YtmagomiehgcbjaaMeet2
import Derived.Test.YtmagomiehgcbjaaBMap
import Derived.Test.YtmagomiehgcbjaaAppAt
import Derived.Deep.RegionHeld3
namespace Go.Proofs.Ytmagomiehgcbjaa
open Go.RowKit Knot Go.Maps

/-- The curves of the segments at the inner point with number k. -/
def meetL (p : Pan) (k : Int) : List Int :=
  [ownQ p (ptX p.W k) (ptY p.W k) (-1) (-1), ownQ p (ptX p.W k) (ptY p.W k) 1 (-1), ownQ p (ptX p.W k) (ptY p.W k) (-1) 1, ownQ p (ptX p.W k) (ptY p.W k) 1 1]
/-- Of the first k inner points those at which all of some curves are. -/
def meetTo (p : Pan) (cs : List Int) : Nat → List Int
  | 0 => []
  | k + 1 => if cs.all (fun c => decide (c ∈ meetL p k)) then meetTo p cs k ++ [(k : Int)] else meetTo p cs k
theorem meetTo_len (p : Pan) (cs : List Int) : ∀ k, (meetTo p cs k).length ≤ k
  | 0 => Nat.le_refl _
  | k + 1 => by
    have := meetTo_len p cs k
    unfold meetTo
    split
    · simp; omega
    · omega
theorem meetTo_two (p : Pan) (c : Int) : ∀ k, meetTo p [c, c] k = meetTo p [c] k
  | 0 => rfl
  | k + 1 => by
    unfold meetTo
    rw [meetTo_two p c k]
    simp
/-- What the map says after the first j segments. -/
def SM (ow : List Int) (s : Nat → Int) : Nat → Int → Bool
  | 0 => fun _ => false
  | j + 1 => fun z => if z = gI ow (s j) then true else SM ow s j z
theorem SM_four {p : Pan} {k : Int} (z : Int) : SM (traceP p (segN p)).2 (fun j => segI p ⟨ptX p.W k, ptY p.W k, dirX j, dirY j⟩) 4 z = decide (z ∈ meetL p k) := by
  have d0 : dirX 0 = -1 ∧ dirY 0 = -1 := by decide
  have d1 : dirX 1 = -1 ∧ dirY 1 = 1 := by decide
  have d2 : dirX 2 = 1 ∧ dirY 2 = -1 := by decide
  have d3 : dirX 3 = 1 ∧ dirY 3 = 1 := by decide
  simp only [SM, meetL, ownQ, d0.1, d0.2, d1.1, d1.2, d2.1, d2.2, d3.1, d3.2, List.mem_cons, List.not_mem_nil, or_false]
  generalize gI _ (segI p ⟨_, _, -1, -1⟩) = a
  generalize gI _ (segI p ⟨_, _, -1, 1⟩) = b
  generalize gI _ (segI p ⟨_, _, 1, -1⟩) = c
  generalize gI _ (segI p ⟨_, _, 1, 1⟩) = d
  by_cases h1 : z = d <;> by_cases h2 : z = c <;> by_cases h3 : z = b <;> by_cases h4 : z = a <;> simp [h1, h2, h3, h4]
theorem index_arr (s : Nat → Int) (j : Nat) (hj : j < 4) (w : World) : (Instr.index 90 (.agg (arrTo s 4)) (.int .i64 j)).run Try.prog w = .ok (.int .i64 (s j)) w := by
  rcases (show j = 0 ∨ j = 1 ∨ j = 2 ∨ j = 3 by omega) with rfl | rfl | rfl | rfl <;> kernel_rfl
theorem pt_has {p : Pan} (hp : Ok p) {k : Int} (k0 : 0 ≤ k) (k1 : k < p.B.length) : Has p (ptX p.W k) (ptY p.W k) ∧ ¬ Knot.Edge p (ptX p.W k) (ptY p.W k) := by
  have hl := hp.len
  obtain ⟨a, b, c, d, e⟩ := pt_in hp.w1 hp.w8 k0 (show k < inner p.W p.H by omega)
  refine ⟨⟨by omega, by omega, by omega, by omega, e⟩, ?_⟩
  unfold Knot.Edge
  omega
/-- The owners are numbers of curves. -/
theorem own_bd {p : Pan} (hp : Ok p) (i : Int) : -1 ≤ gI (traceP p (segN p)).2 i ∧ gI (traceP p (segN p)).2 i ≤ 256 := by
  obtain ⟨reps, h⟩ := (Knot.sys p hp).traced (segN p) (Nat.le_refl _)
  have hc := traceP_count p (segN p)
  have hN := segN_le hp
  by_cases hi : i.toNat < segN p
  · rcases h.own i.toNat hi with ⟨e, _⟩ | ⟨j, s, hj, _, e⟩
    · have e' : gI (traceP p (segN p)).2 i = -1 := e
      omega
    · have e' : gI (traceP p (segN p)).2 i = (j : Int) := e
      have h1 := (List.getElem?_eq_some_iff.1 hj).1
      have h2 : (traceP p (segN p)).1.length = reps.length := h.len
      omega
  · have h3 : (traceP p (segN p)).2.length = segN p := traceP_len p (segN p)
    have : gI (traceP p (segN p)).2 i = 0 := by
      unfold gI
      simp [List.getD, List.getElem?_eq_none (show (traceP p (segN p)).2.length ≤ i.toNat by omega)]
    omega
theorem gbk_append {V wr w' : World} {r : Nat} {row : Option Nat} (h : V.grownBy wr (some r)) (g : wr.grownBy w' row) (hr : ∀ j, row = some j → j = r ∨ V.heap.size ≤ j) : V.grownBy w' (some r) :=
  ⟨g.os.trans h.os, g.tape.trans h.tape, g.output.trans h.output, Nat.le_trans h.size g.size, fun k hk hne => (g.block k (Nat.lt_of_lt_of_le hk h.size) (fun e => by
    rcases hr k e.symm with h1 | h1
    · exact hne (by rw [h1])
    · omega)).trans (h.block k hk hne)⟩
theorem gbk_below {V wr w' : World} {r : Option Nat} (h : V.grownBy wr r) (g : Below wr.heap.size wr w') : V.grownBy w' r :=
  ⟨g.os.trans h.os, g.tape.trans h.tape, g.output.trans h.output, Nat.le_trans h.size g.size, fun k hk hne => (g.block k (Nat.lt_of_lt_of_le hk h.size)).trans (h.block k hk hne)⟩
theorem gbk_refl (V : World) (r : Option Nat) : V.grownBy V r := ⟨rfl, rfl, rfl, Nat.le_refl _, fun _ _ _ => rfl⟩
set_option maxHeartbeats 16000000 in
theorem meeting_any {w : World} {lo hi lo' hi' : Nat} {W H : Int} {v u : Value} {B cs : List Int} (hI : IntsIn w lo hi v B) (hx : IntsIn w lo' hi' u cs) (hp : Ok ⟨W, H, B⟩) (hcs : ∀ c ∈ cs, (Lit.int .i64 c).wf = true) :
    Calls Try.prog 54 #[.agg #[.int .i64 W, .int .i64 H, v], u] w fun e w' => ∃ E f, e = .returned (.slice E (meetTo ⟨W, H, B⟩ cs B.length).length f) ∧ IntsIn w' w.heap.size w'.heap.size (.slice E (meetTo ⟨W, H, B⟩ cs B.length).length f) (meetTo ⟨W, H, B⟩ cs B.length) ∧ Below w.heap.size w w' := by
  obtain ⟨A, cA, rfl, _, hA⟩ := hI.1.open_
  obtain ⟨D, cD, rfl, lD, hD⟩ := hx.1.open_
  unfold maxLen at lD
  have hmm := @run_makeMap Try.prog
  have bl := Joins.below_alloc2 w (.cells #[.int .i64 W, .int .i64 H, .slice A B.length cA] 28) (.cells #[] 2)
  have ba := (Box.new w 28 #[.int .i64 W, .int .i64 H, .slice A B.length cA]).alloc (.cells #[] 2)
  have hO := Row.none_ (enc := Value.int .i64) (E := 2) (w.alloc (.cells #[.int .i64 W, .int .i64 H, .slice A B.length cA] 28))
  simp only [World.size_alloc] at hO
  have HLT : Hid ((∀ g, (Value.slice A B.length cA).ownBlock = some g → g < w.heap.size) ∧ ∀ g, (Value.slice D cs.length cD).ownBlock = some g → g < w.heap.size) := Lib.hid ⟨fun g hg => (Row.lt hI.1 hg).2, fun g hg => (Row.lt hx.1 hg).2⟩
  have hv := hI.below bl
  have hu := hx.below bl
  have hN := hp.len
  have HP := Lib.hid hp
  have HW : Hid (1 ≤ W ∧ W ≤ 8) := Lib.hid ⟨hp.w1, hp.w8⟩
  have HH : Hid (1 ≤ H ∧ H ≤ 8) := Lib.hid ⟨hp.h1, hp.h8⟩
  have HN : Hid (inner W H = (B.length : Int)) := Lib.hid hN.symm
  have hBl : B.length ≤ 200 := by
    have := inner_bd hp.w1 hp.w8 hp.h1 hp.h8
    simp only [] at this hN
    unfold inner at hN
    omega
  have HCS := Lib.hid hcs
  clear hI hx hp hN hcs hA
  have p0 := ba.cell 0
  have p1 := ba.cell 1
  have p2 := ba.cell 2
  have pn := ba.lt
  simp only [List.getElem?_toArray, List.getElem?_cons_zero, List.getElem?_cons_succ] at p0 p1 p2
  go_enter Try.func54, Try.ntmps54
  go_wp2_with fail
  refine (trace_any hv.1 HP.out).mono ?_
  rintro e w2 ⟨D2, d2, go, rfl, hOw, hb2⟩
  replace hOw := Row.le hOw (C := w.heap.size + 1 + 1) (by simp)
  have sz2 := hb2.size
  simp only [World.size_alloc] at sz2
  replace ba := ba.below hb2
  replace hv := hv.below hb2
  replace hu := hu.below hb2
  replace hO := Row.below hO hb2
  replace bl := bnext bl hb2
  clear hb2 p0 p1 p2 pn
  have hOlen : (traceP ⟨W, H, B⟩ (segN ⟨W, H, B⟩)).2.length = segN ⟨W, H, B⟩ := traceP_len _ _
  obtain ⟨m1, hm1⟩ : ∃ m, (traceP ⟨W, H, B⟩ (segN ⟨W, H, B⟩)).1.length = m := ⟨_, rfl⟩
  rw [hm1]
  clear hm1
  have p0 := ba.cell 0
  have p1 := ba.cell 1
  have p2 := ba.cell 2
  have pn := ba.lt
  simp only [List.getElem?_toArray, List.getElem?_cons_zero, List.getElem?_cons_succ] at p0 p1 p2
  go_wp2_with fail
  refine (points_any HW.out HH.out HN.out rfl).mono ?_
  rintro e w3 ⟨G, cG, rfl, hPt, hb3⟩
  have sz3 := hb3.size
  replace ba := ba.below hb3
  replace hv := hv.below hb3
  replace hu := hu.below hb3
  replace hO := Row.below hO hb3
  replace hOw := Row.below hOw hb3
  replace bl := bnext bl hb3
  clear hb3 p0 p1 p2 pn
  obtain ⟨G', cG', hGv, _, hG⟩ := hPt.open_
  obtain ⟨rfl, rfl⟩ : G' = G ∧ cG' = cG := by injection hGv with h1 h2 h3; exact ⟨h1.symm, h3.symm⟩
  clear hGv
  have gow : go < w3.heap.size := (Row.lt hOw (g := go) rfl).2
  have HK3 : Hid (∀ wr, w3.grownBy wr (some (w.heap.size + 1)) → (Box wr w.heap.size 28 #[.int .i64 W, .int .i64 H, .slice A B.length cA] ∧ Ints wr lo (.slice A B.length cA) B ∧ Ints wr lo' (.slice D cs.length cD) cs) ∧
      Ints wr (w.heap.size + 1 + 1) (.slice (some ⟨go, 0, none⟩) (segN ⟨W, H, B⟩) (segN ⟨W, H, B⟩)) (traceP ⟨W, H, B⟩ (segN ⟨W, H, B⟩)).2 ∧ PRow wr w2.heap.size (.slice G' B.length cG') B.length (ptsTo W B.length)) :=
    Lib.hid (fun x hx => ⟨⟨ba.grown hx (by simp; try omega), Row.grown hv.1 hx (fun g hg => by have := HLT.out.1 g hg; simp; omega), Row.grown hu.1 hx (fun g hg => by have := HLT.out.2 g hg; simp; omega)⟩,
      Row.grown hOw hx (fun g hg => by have := (Row.lt hOw hg).1; simp; omega), hPt.keep fun g hg hl => hx.block g hl (by have := (hPt.lt hg).1; simp; omega)⟩)
  clear ba hv hu hOw hPt
  go_wp2
  have hHO := hO
  have hBL := bl
  clear hO bl
  have br := gbk_refl w3 (some (w.heap.size + 1))
  go_loopw [5, 25] (fun t i wr => ∃ (k : Nat) (E : Option Addr) (f : Nat), k ≤ B.length ∧ t = .slice E (meetTo ⟨W, H, B⟩ cs k).length f ∧ i = .int .i64 k ∧ Ints wr (w.heap.size + 1) (.slice E (meetTo ⟨W, H, B⟩ cs k).length f) (meetTo ⟨W, H, B⟩ cs k) ∧ (∀ g, E = some ⟨g, 0, none⟩ → g = w.heap.size + 1 ∨ w3.heap.size ≤ g) ∧ Below w.heap.size w wr ∧ w3.grownBy wr (some (w.heap.size + 1)))
    (fun _ i _ => B.length - (intOf i).toNat)
  case atStart => exact ⟨0, _, _, by omega, rfl, rfl, hHO, (fun g hg => .inl (by injection hg with hg; injection hg with hg; exact hg.symm)), hBL, br⟩
  case round =>
    obtain ⟨k, E, f, hk, rfl, rfl, hE, hloc, bl, hk3⟩ := hrel
    clear hHO hBL br
    by_cases hlt : k < B.length
    · obtain ⟨gp, rfl, gp0, gp1⟩ := hG (by omega)
      obtain ⟨⟨ba, _, _⟩, _, hPt⟩ := HK3.out wr hk3
      have hlenM := meetTo_len ⟨W, H, B⟩ cs k
      have HM1 : Hid (cs.all (fun c => decide (c ∈ meetL ⟨W, H, B⟩ k)) = true → meetTo ⟨W, H, B⟩ cs (k + 1) = meetTo ⟨W, H, B⟩ cs k ++ [(k : Int)]) := Lib.hid (fun h => by rw [meetTo, if_pos h])
      have HM0 : Hid (cs.all (fun c => decide (c ∈ meetL ⟨W, H, B⟩ k)) = false → meetTo ⟨W, H, B⟩ cs (k + 1) = meetTo ⟨W, H, B⟩ cs k) := Lib.hid (fun h => by rw [meetTo, if_neg (by rw [h]; simp)])
      obtain ⟨M1, hM1⟩ : ∃ M1, meetTo ⟨W, H, B⟩ cs (k + 1) = M1 := ⟨_, rfl⟩
      obtain ⟨M0, hM0⟩ : ∃ M0, meetTo ⟨W, H, B⟩ cs k = M0 := ⟨_, rfl⟩
      rw [hM1, hM0] at HM1
      rw [hM1, hM0] at HM0
      rw [hM0] at hE hlenM ⊢
      have HMM := Lib.hid hM1
      clear hM1 hM0
      obtain ⟨hpt1, hpt2⟩ := pt_has HP.out (k := (k : Int)) (by omega) (by simp only []; omega)
      have hS4 : ∀ z, SM (traceP ⟨W, H, B⟩ (segN ⟨W, H, B⟩)).2 (fun j => segI ⟨W, H, B⟩ ⟨ptX W k, ptY W k, dirX j, dirY j⟩) 4 z = decide (z ∈ meetL ⟨W, H, B⟩ k) := fun z => SM_four (p := ⟨W, H, B⟩) z
      have hsb : ∀ j : Nat, 0 ≤ segI ⟨W, H, B⟩ ⟨ptX W k, ptY W k, dirX j, dirY j⟩ ∧ segI ⟨W, H, B⟩ ⟨ptX W k, ptY W k, dirX j, dirY j⟩ < segN ⟨W, H, B⟩ := fun j => by
        have h1 := seg_bounds (inner_okw hpt1 hpt2 (dx := dirX j) (dy := dirY j) (by unfold dirX; split <;> simp) (by unfold dirY; split <;> simp))
        have h2 : segN ⟨W, H, B⟩ = (4 * W * H).toNat := rfl
        simp only [] at h1
        omega
      obtain ⟨g1, g2⟩ := ptsTo_get W B.length k hlt
      have c1 := hPt.cell (j := k * 2) (by omega)
      have c2 := hPt.cell (j := k * 2 + 1) (by omega)
      rw [show k * 2 = 2 * k by omega, g1, show 2 * k = k * 2 by omega] at c1
      rw [show k * 2 + 1 = 2 * k + 1 by omega, g2, show 2 * k + 1 = k * 2 + 1 by omega] at c2
      clear g1 g2 hPt
      have HPT1 := Lib.hid hpt1
      have HPT2 := Lib.hid hpt2
      clear hpt1 hpt2
      simp only [] at HPT1 HPT2
      obtain ⟨px, hpx⟩ : ∃ z, ptX W k = z := ⟨_, rfl⟩
      obtain ⟨py, hpy⟩ : ∃ z, ptY W k = z := ⟨_, rfl⟩
      rw [hpx] at c1 HPT1 HPT2 hS4 hsb
      rw [hpy] at c2 HPT1 HPT2 hS4 hsb
      clear hpx hpy
      obtain ⟨ow, how⟩ : ∃ ow, (traceP ⟨W, H, B⟩ (segN ⟨W, H, B⟩)).2 = ow := ⟨_, rfl⟩
      have HOB : Hid (∀ i, (Lit.int .i64 (gI ow i)).wf = true) := Lib.hid (fun i => by
        have := own_bd HP.out i
        rw [how] at this
        exact WalkArith.wf_i64 (by omega))
      rw [how] at hS4
      have HOW := Lib.hid how
      have hol := hOlen
      rw [how] at hol
      clear how
      have bl2 := Joins.below_alloc2 wr (.cells #[.int .i64 px, .int .i64 py] 35) (.map #[] 0)
      have hk4 := gbk_below hk3 bl2
      have hE2 := Row.below hE bl2
      have bl4 := bnext bl bl2
      have bq := (Box.new wr 35 #[.int .i64 px, .int .i64 py]).alloc (.map #[] 0)
      have hM := BMap.made (wr.alloc (.cells #[.int .i64 px, .int .i64 py] 35))
      simp only [World.size_alloc] at hM
      replace ba := ba.below bl2
      have hlwE : w.heap.size + 1 ≤ wr.heap.size := by have := hk3.size; omega
      have hsz3 := hk3.size
      clear hE bl hk3 bl2
      have p0 := ba.cell 0
      have p1 := ba.cell 1
      have p2 := ba.cell 2
      have pn := ba.lt
      simp only [List.getElem?_toArray, List.getElem?_cons_zero, List.getElem?_cons_succ] at p0 p1 p2
      have q0 := bq.cell 0
      have q1 := bq.cell 1
      have qn := bq.lt
      simp only [List.getElem?_toArray, List.getElem?_cons_zero, List.getElem?_cons_succ] at q0 q1
      have hIv := (HK3.out _ hk4).1.2.1
      have hPX : Hid (∀ w', Below w'.heap.size w' w' → True) := Lib.hid (fun _ _ => trivial)
      go_wp2_with fail
      refine (around_any hIv HW.out HH.out HPT1.out HPT2.out).mono ?_
      rintro e w4 ⟨rfl, hb4⟩
      have sz4 := hb4.size
      simp only [World.size_alloc] at sz4
      replace hk4 := gbk_below hk4 hb4
      replace hE2 := Row.below hE2 hb4
      replace bl4 := bnext bl4 hb4
      replace hM := hM.below hb4
      clear hb4 hIv hPX p0 p1 p2 pn q0 q1 qn ba bq c1 c2
      generalize hss : (fun j => segI ⟨W, H, B⟩ ⟨px, py, dirX j, dirY j⟩) = s at *
      have hsb2 : ∀ j : Nat, 0 ≤ s j ∧ s j < segN ⟨W, H, B⟩ := fun j => by rw [← hss]; exact hsb j
      have HSB := Lib.hid hsb2
      have HS4 := Lib.hid hS4
      clear hsb hsb2 hS4 hss
      obtain ⟨bm, hbm⟩ : ∃ bm, wr.heap.size + 1 = bm := ⟨_, rfl⟩
      rw [hbm] at hM
      have bmlt : w3.heap.size ≤ bm := by omega
      have bE0 : E = E := rfl
      go_wp2
      have hE4 := hE2
      have hk5 := hk4
      have bl5 := bl4
      clear hE2 hk4 bl4 bE0
      go_loopw [12, 34] (fun _ i w5 => ∃ j : Nat, j ≤ 4 ∧ i = .int .i64 j ∧ BMap w5 bm j (SM ow s j) ∧ Ints w5 (w.heap.size + 1) (.slice E M0.length f) M0 ∧ Below w.heap.size w w5 ∧ w3.grownBy w5 (some (w.heap.size + 1))) (fun _ i _ => 4 - (intOf i).toNat)
      case atStart => exact ⟨0, by omega, rfl, hM, hE4, bl5, hk5⟩
      case round =>
        obtain ⟨j, hj, rfl, hMj, hE, bl, hk⟩ := hrel
        clear hE4 hk5 bl5 hM
        by_cases hj4 : j < 4
        · have hix := index_arr s j hj4
          have hOw := (HK3.out _ hk).2.1
          have hsj := HSB.out j
          obtain ⟨sj0, sj1⟩ := hsj
          rw [HOW.out] at hOw
          have co := Ints.cellI hOw (i := s j) sj0 (by omega)
          have HWF := Lib.hid (HOB.out (s j))
          have HSM : Hid (SM ow s (j + 1) = fun z => if z = gI ow (s j) then true else SM ow s j z) := Lib.hid rfl
          generalize gI ow (s j) = z at *
          generalize s j = sj at *
          clear hOw
          go_wp2_with (at_mapUpdate; refine wpList_bput _ rfl _ _ _ rfl bm j (SM ow s j) rfl hMj (by omega) z HWF.out rfl rfl ?_)
          intro w6 hM6 hg6
          have hk6 := gbk_append hk hg6 (fun q hq => .inr (by injection hq with hq; omega))
          have bl6 := bl.grown hg6 bl.size (fun q hq => by injection hq with hq; omega)
          have hE6 := Row.grown hE hg6 (fun q hq e => hMj.apart hE hq (by injection e))
          have HM6 : Hid (BMap w6 bm (j + 1) (SM ow s (j + 1))) := Lib.hid (by
            rw [HSM.out]
            have e : (fun y => if y = z then true else SM ow s j y) = (fun y => decide (y = z) || SM ow s j y) := funext fun y => by by_cases h : y = z <;> simp [h]
            rw [e]
            exact hM6)
          clear hk bl hE hg6 hM6 hMj co hix
          go_wp2
          go_roundw
          case rel => exact ⟨j + 1, by omega, by go_num, HM6.out, hE6, bl6, hk6⟩
          case measure => simp [intOf]; omega
        · have e : j = 4 := by omega
          subst e
          obtain ⟨W5, hW5⟩ : ∃ x, x = wr := ⟨wr, rfl⟩
          subst hW5
          have hcs := (HK3.out _ hk).1.2.2
          have h0 : Hid ((cs.take 0).all (fun c => decide (c ∈ meetL ⟨W, H, B⟩ k)) = true) := Lib.hid rfl
          go_wp2
          go_loop [13, 45] (fun t i => ∃ (m : Nat) (r : Bool), m ≤ cs.length ∧ t = .bool r ∧ i = .int .i64 m ∧ Hid ((cs.take m).all (fun c => decide (c ∈ meetL ⟨W, H, B⟩ k)) = r)) (fun _ i => cs.length - (intOf i).toNat)
          case atStart => exact ⟨0, true, Nat.zero_le _, rfl, rfl, h0⟩
          case round =>
            obtain ⟨m, r, hm, rfl, rfl, hr⟩ := hrel
            clear h0
            by_cases hmlt : m < cs.length
            · obtain ⟨gc, rfl, _, _⟩ := hD (by omega)
              have i1 : (m : Int) < (cs.length : Int) := by omega
              have cc := Ints.cell hcs (k := m) hmlt
              have hz : cs[m] = gI cs m := (gI_nat cs m hmlt).symm
              have HW2 := Lib.hid (HCS.out _ (List.getElem_mem hmlt))
              have HR : Hid ((cs.take (m + 1)).all (fun c => decide (c ∈ meetL ⟨W, H, B⟩ k)) = (r && decide (gI cs m ∈ meetL ⟨W, H, B⟩ k))) := Lib.hid (by
                rw [← hz, List.take_succ_eq_append_getElem hmlt, List.all_append, hr.out]; simp)
              rw [hz] at HW2
              have hlk := hMj.look HW2.out
              rw [HS4.out] at hlk
              clear hz hr hcs
              generalize gI cs m = z at *
              obtain ⟨q, hq⟩ : ∃ q, decide (z ∈ meetL ⟨W, H, B⟩ k) = q := ⟨_, rfl⟩
              rw [hq] at hlk
              have HR2 : Hid ((cs.take (m + 1)).all (fun c => decide (c ∈ meetL ⟨W, H, B⟩ k)) = (r && q)) := Lib.hid (by rw [HR.out, hq])
              clear hq HR HW2
              cases r with
              | true =>
                go_wp2
                go_round
                case rel => exact ⟨m + 1, q, by omega, rfl, by go_num, Lib.hid (by rw [HR2.out]; rfl)⟩
                case measure => simp [intOf]; omega
              | false =>
                clear hlk
                go_wp2
                go_round
                case rel => exact ⟨m + 1, false, by omega, rfl, by go_num, Lib.hid (by rw [HR2.out]; rfl)⟩
                case measure => simp [intOf]; omega
            · have e : m = cs.length := by omega
              subst e
              have hr2 := hr.out
              rw [List.take_length] at hr2
              clear hcs hr
              cases r with
              | true =>
                have HA := Lib.hid (HM1.out hr2)
                clear hr2 HM1 HM0
                have hlw : w.heap.size + 1 ≤ W5.heap.size := by have := hk.size; omega
                have hlM : M0.length < 1000000000 := by omega
                go_wp2_with (at_builtin; refine append_one_at rfl _ _ rfl (w.heap.size + 1) _ (.slice E M0.length f) M0 k hE rfl rfl rfl hlM hlw ?_)
                intro g7 f7 w7 hE7 hg7 hl7
                have hown : ∀ q, (Value.slice E M0.length f).ownBlock = some q → q = w.heap.size + 1 ∨ w3.heap.size ≤ q := fun q hq => by
                  rcases hE.form with ⟨hv, _⟩ | ⟨g', c', hv, _⟩
                  · rw [hv] at hq; cases hq
                  · have hE' : E = some ⟨g', 0, none⟩ := by injection hv
                    have hqg : q = g' := by rw [hv] at hq; injection hq with hq; exact hq.symm
                    rw [hqg]
                    exact hloc g' hE'
                have hk7 := gbk_append hk hg7 hown
                have bl7 := bl.grown hg7 bl.size (fun q hq => by have := (Row.lt hE hq).1; omega)
                have hs7 := hk.size
                have hloc7 : ∀ g, (some ⟨g7, 0, none⟩ : Option Addr) = some ⟨g, 0, none⟩ → g = w.heap.size + 1 ∨ w3.heap.size ≤ g := fun g hg => by
                  have hgg : g7 = g := by injection hg with hg; injection hg
                  rw [← hgg]
                  rcases hl7 with h7 | h7
                  · exact hown g7 h7
                  · exact .inr (by omega)
                have HE7 : Hid (Ints w7 (w.heap.size + 1) (.slice (some ⟨g7, 0, none⟩) M1.length f7) M1) := Lib.hid (by rw [HA.out]; simpa using hE7)
                have HL7 : Hid (M1.length = M0.length + 1) := Lib.hid (by rw [HA.out]; simp)
                have HLC := Lib.hid hloc7
                clear hE hE7 hk bl hg7 hown hloc hl7 hloc7 hMj
                go_wp2
                go_roundw
                case rel => exact ⟨k + 1, some ⟨g7, 0, none⟩, f7, by omega, by rw [HMM.out, HL7.out], by go_num, by rw [HMM.out]; exact HE7.out, HLC.out, bl7, hk7⟩
                case measure => simp [intOf]; omega
              | false =>
                have HA := Lib.hid (HM0.out hr2)
                clear hr2 HM1 HM0
                go_wp2
                go_roundw
                case rel => exact ⟨k + 1, E, f, by omega, by rw [HMM.out, HA.out], by go_num, by rw [HMM.out, HA.out]; exact hE, hloc, bl, hk⟩
                case measure => simp [intOf]; omega
    · have e : k = B.length := by omega
      subst e
      have I2 := Lib.hid (IntsIn.ofInts (Row.le hE (C := w.heap.size) (by omega)) (by have := meetTo_len ⟨W, H, B⟩ cs B.length; omega))
      clear hk3
      go_wp2
      go_ret
      exact ⟨E, f, rfl, I2.out, bl⟩
end Go.Proofs.Ytmagomiehgcbjaa
