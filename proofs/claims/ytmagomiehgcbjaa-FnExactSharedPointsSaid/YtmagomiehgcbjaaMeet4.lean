/-
  The points at which curves meet, by the reference; CurvePoints and SharedPoints.
-/
import Derived.Test.YtmagomiehgcbjaaMeet3
namespace Go.Proofs.Ytmagomiehgcbjaa
open Go.RowKit Knot

set_option maxHeartbeats 16000000 in
theorem l04Meet_any {w : World} {b Bo : Nat} {W H x y : Int} {v vo : Value} {B : List Int} (bp : Box w b 28 #[.int .i64 W, .int .i64 H, v]) (hO : Ints w Bo vo (traceP ⟨W, H, B⟩ (segN ⟨W, H, B⟩)).2) (hW : 1 ≤ W ∧ W ≤ 8) (hH : 1 ≤ H ∧ H ≤ 8)
    (hh : Has ⟨W, H, B⟩ x y) (he : ¬ Knot.Edge ⟨W, H, B⟩ x y) :
    Calls Try.prog 71 #[.pointer (some ⟨b, 0, none⟩), vo, .agg #[.int .i64 x, .int .i64 y]] w fun e w' => ∃ E f, e = .returned (.slice E 4 f) ∧
      IntsIn w' w.heap.size w'.heap.size (.slice E 4 f) [ownQ ⟨W, H, B⟩ x y (-1) (-1), ownQ ⟨W, H, B⟩ x y 1 (-1), ownQ ⟨W, H, B⟩ x y (-1) 1, ownQ ⟨W, H, B⟩ x y 1 1] ∧ Below w.heap.size w w' := by
  obtain ⟨D, cD, rfl, lD, hD⟩ := hO.open_
  have hol := traceP_len ⟨W, H, B⟩ (segN ⟨W, H, B⟩)
  have hsN : segN ⟨W, H, B⟩ = (4 * W * H).toNat := rfl
  have HO : Hid (∀ dx dy : Int, (dx = 1 ∨ dx = -1) → (dy = 1 ∨ dy = -1) → OkW ⟨W, H, B⟩ ⟨x, y, dx, dy⟩ ∧ 0 ≤ segI ⟨W, H, B⟩ ⟨x, y, dx, dy⟩ ∧ segI ⟨W, H, B⟩ ⟨x, y, dx, dy⟩ < ((traceP ⟨W, H, B⟩ (segN ⟨W, H, B⟩)).2.length : Int)) := Lib.hid (fun dx dy h1 h2 => by
    have ho := inner_okw hh he h1 h2
    have hb := seg_bounds ho
    simp only [] at hb
    exact ⟨ho, hb.1, by rw [hol, hsN]; omega⟩)
  have hn0 : 0 < (traceP ⟨W, H, B⟩ (segN ⟨W, H, B⟩)).2.length := by
    have := (HO.out 1 1 (.inl rfl) (.inl rfl)).2
    omega
  obtain ⟨go, rfl, go0, go1⟩ := hD hn0
  clear hD hn0 hh he hsN hol
  obtain ⟨a0, ha0⟩ : ∃ z, ownQ ⟨W, H, B⟩ x y (-1) (-1) = z := ⟨_, rfl⟩
  obtain ⟨a1, ha1⟩ : ∃ z, ownQ ⟨W, H, B⟩ x y 1 (-1) = z := ⟨_, rfl⟩
  obtain ⟨a2, ha2⟩ : ∃ z, ownQ ⟨W, H, B⟩ x y (-1) 1 = z := ⟨_, rfl⟩
  obtain ⟨a3, ha3⟩ : ∃ z, ownQ ⟨W, H, B⟩ x y 1 1 = z := ⟨_, rfl⟩
  rw [ha0, ha1, ha2, ha3]
  have H0 := Lib.hid ha0
  have H1 := Lib.hid ha1
  have H2 := Lib.hid ha2
  have H3 := Lib.hid ha3
  have HW := Lib.hid hW
  have HH := Lib.hid hH
  clear ha0 ha1 ha2 ha3 hW hH
  unfold ownQ at H0 H1 H2 H3
  generalize hoe : (traceP ⟨W, H, B⟩ (segN ⟨W, H, B⟩)).2 = ow at *
  clear hoe
  have bl := Joins.below_alloc2 w (.cells #[.int .i64 x, .int .i64 y] 35) (.cells #[] 2)
  have bb := (Box.new w 35 #[.int .i64 x, .int .i64 y]).alloc (.cells #[] 2)
  have hE := Row.none_ (enc := Value.int .i64) (E := 2) (w.alloc (.cells #[.int .i64 x, .int .i64 y] 35))
  simp only [World.size_alloc] at hE
  have KB : Hid (∀ w', Below w.heap.size w w' → Box w' b 28 #[.int .i64 W, .int .i64 H, v] ∧ Ints w' Bo (.slice (some ⟨go, 0, none⟩) ow.length cD) ow) := Lib.hid (fun w' hx => ⟨(hx.block b bp.lt).trans bp, Row.keep hO fun g hg hl => hx.block g hl⟩)
  have blt := bp.lt
  clear bp hO
  go_enter Try.func71, Try.ntmps71
  go_wp2
  go_loopw [7, 8] (fun t i wr => ∃ (k : Nat) (E : Option Addr) (f : Nat), k ≤ 4 ∧ t = .slice E ([a0, a1, a2, a3].take k).length f ∧ i = .int .i64 k ∧ Ints wr (w.heap.size + 1) (.slice E ([a0, a1, a2, a3].take k).length f) ([a0, a1, a2, a3].take k) ∧ Box wr w.heap.size 35 #[.int .i64 x, .int .i64 y] ∧ Below w.heap.size w wr ∧ w.heap.size + 1 < wr.heap.size) (fun _ i _ => 4 - (intOf i).toNat)
  case atStart => exact ⟨0, _, _, by omega, rfl, rfl, hE, bb, bl, by simp⟩
  case round =>
    obtain ⟨k, E, f, hk, rfl, rfl, hE, bb, bl, hs⟩ := hrel
    by_cases hlt : k < 4
    · rcases (show k = 0 ∨ k = 1 ∨ k = 2 ∨ k = 3 by omega) with rfl | rfl | rfl | rfl
      · obtain ⟨HOK, s0, s1⟩ := HO.out (-1) (-1) (by simp) (by simp)
        have HOKH := Lib.hid HOK
        have HSV := H0
        have ek : [a0, a1, a2, a3].take 0 = ([] : List Int) := rfl
        rw [ek] at hE
        clear HOK
        obtain ⟨sv, hsv⟩ : ∃ z, segI ⟨W, H, B⟩ ⟨x, y, (-1), (-1)⟩ = z := ⟨_, rfl⟩
        rw [hsv] at s0 s1 HSV
        have HSG := Lib.hid hsv
        clear hsv
        have bl2 := Joins.below_alloc1 wr (.cells #[.int .i64 x, .int .i64 y, .int .i64 (-1), .int .i64 (-1)] 95)
        have bw := Box.new wr 95 #[.int .i64 x, .int .i64 y, .int .i64 (-1), .int .i64 (-1)]
        have q0 := bb.cell 0
        have q1 := bb.cell 1
        have qn := bb.lt
        simp only [List.getElem?_toArray, List.getElem?_cons_zero, List.getElem?_cons_succ] at q0 q1
        replace bb := bb.below bl2
        replace hE := Row.below hE bl2
        replace bl := bnext bl bl2
        clear bl2
        obtain ⟨bp, hOw⟩ := KB.out _ bl
        have d0 := bw.cell 0
        have d1 := bw.cell 1
        have d2 := bw.cell 2
        have d3 := bw.cell 3
        have dn := bw.lt
        simp only [List.getElem?_toArray, List.getElem?_cons_zero, List.getElem?_cons_succ] at d0 d1 d2 d3
        go_wp2_with fail
        refine (l03Segment_any bp HW.out HH.out HOKH.out HSG.out).mono ?_
        rintro e w3 ⟨rfl, hb3⟩
        have sz3 := hb3.size
        simp only [World.size_alloc] at sz3
        replace bb := bb.below hb3
        replace hE := Row.below hE hb3
        replace hOw := Row.below hOw hb3
        replace bl := bnext bl hb3
        have co := Ints.cellI hOw (i := sv) s0 s1
        rw [HSV.out] at co
        clear bp hOw hb3 q0 q1 qn d0 d1 d2 d3 dn bw
        have hlw : w.heap.size + 1 ≤ w3.heap.size := by omega
        have hlen : ([] : List Int).length < 1000000000 := by simp
        go_wp2_with (at_builtin; refine append_one_at rfl _ _ rfl (w.heap.size + 1) _ (.slice E 0 f) ([] : List Int) a0 hE rfl rfl rfl hlen hlw ?_)
        intro g7 f7 w7 hE7 hg7 _
        have bb7 := bb.grown hg7 (fun e => by have := (Row.lt hE e.symm).1; omega)
        have bl7 := bl.grown hg7 bl.size (fun q hq => by have := (Row.lt hE hq).1; omega)
        have sz7 := hg7.size
        have hE8 : Ints w7 (w.heap.size + 1) (.slice (some ⟨g7, 0, none⟩) ([a0, a1, a2, a3].take (0 + 1)).length f7) ([a0, a1, a2, a3].take (0 + 1)) := hE7
        clear hE bb bl hg7 hE7 co
        go_wp2
        go_roundw
        case rel => exact ⟨0 + 1, _, f7, by omega, rfl, by go_num, hE8, bb7, bl7, by omega⟩
        case measure => simp [intOf]
      · obtain ⟨HOK, s0, s1⟩ := HO.out 1 (-1) (by simp) (by simp)
        have HOKH := Lib.hid HOK
        have HSV := H1
        have ek : [a0, a1, a2, a3].take 1 = ([a0] : List Int) := rfl
        rw [ek] at hE
        clear HOK
        obtain ⟨sv, hsv⟩ : ∃ z, segI ⟨W, H, B⟩ ⟨x, y, 1, (-1)⟩ = z := ⟨_, rfl⟩
        rw [hsv] at s0 s1 HSV
        have HSG := Lib.hid hsv
        clear hsv
        have bl2 := Joins.below_alloc1 wr (.cells #[.int .i64 x, .int .i64 y, .int .i64 1, .int .i64 (-1)] 95)
        have bw := Box.new wr 95 #[.int .i64 x, .int .i64 y, .int .i64 1, .int .i64 (-1)]
        have q0 := bb.cell 0
        have q1 := bb.cell 1
        have qn := bb.lt
        simp only [List.getElem?_toArray, List.getElem?_cons_zero, List.getElem?_cons_succ] at q0 q1
        replace bb := bb.below bl2
        replace hE := Row.below hE bl2
        replace bl := bnext bl bl2
        clear bl2
        obtain ⟨bp, hOw⟩ := KB.out _ bl
        have d0 := bw.cell 0
        have d1 := bw.cell 1
        have d2 := bw.cell 2
        have d3 := bw.cell 3
        have dn := bw.lt
        simp only [List.getElem?_toArray, List.getElem?_cons_zero, List.getElem?_cons_succ] at d0 d1 d2 d3
        go_wp2_with fail
        refine (l03Segment_any bp HW.out HH.out HOKH.out HSG.out).mono ?_
        rintro e w3 ⟨rfl, hb3⟩
        have sz3 := hb3.size
        simp only [World.size_alloc] at sz3
        replace bb := bb.below hb3
        replace hE := Row.below hE hb3
        replace hOw := Row.below hOw hb3
        replace bl := bnext bl hb3
        have co := Ints.cellI hOw (i := sv) s0 s1
        rw [HSV.out] at co
        clear bp hOw hb3 q0 q1 qn d0 d1 d2 d3 dn bw
        have hlw : w.heap.size + 1 ≤ w3.heap.size := by omega
        have hlen : ([a0] : List Int).length < 1000000000 := by simp
        go_wp2_with (at_builtin; refine append_one_at rfl _ _ rfl (w.heap.size + 1) _ (.slice E 1 f) ([a0] : List Int) a1 hE rfl rfl rfl hlen hlw ?_)
        intro g7 f7 w7 hE7 hg7 _
        have bb7 := bb.grown hg7 (fun e => by have := (Row.lt hE e.symm).1; omega)
        have bl7 := bl.grown hg7 bl.size (fun q hq => by have := (Row.lt hE hq).1; omega)
        have sz7 := hg7.size
        have hE8 : Ints w7 (w.heap.size + 1) (.slice (some ⟨g7, 0, none⟩) ([a0, a1, a2, a3].take (1 + 1)).length f7) ([a0, a1, a2, a3].take (1 + 1)) := hE7
        clear hE bb bl hg7 hE7 co
        go_wp2
        go_roundw
        case rel => exact ⟨1 + 1, _, f7, by omega, rfl, by go_num, hE8, bb7, bl7, by omega⟩
        case measure => simp [intOf]
      · obtain ⟨HOK, s0, s1⟩ := HO.out (-1) 1 (by simp) (by simp)
        have HOKH := Lib.hid HOK
        have HSV := H2
        have ek : [a0, a1, a2, a3].take 2 = ([a0, a1] : List Int) := rfl
        rw [ek] at hE
        clear HOK
        obtain ⟨sv, hsv⟩ : ∃ z, segI ⟨W, H, B⟩ ⟨x, y, (-1), 1⟩ = z := ⟨_, rfl⟩
        rw [hsv] at s0 s1 HSV
        have HSG := Lib.hid hsv
        clear hsv
        have bl2 := Joins.below_alloc1 wr (.cells #[.int .i64 x, .int .i64 y, .int .i64 (-1), .int .i64 1] 95)
        have bw := Box.new wr 95 #[.int .i64 x, .int .i64 y, .int .i64 (-1), .int .i64 1]
        have q0 := bb.cell 0
        have q1 := bb.cell 1
        have qn := bb.lt
        simp only [List.getElem?_toArray, List.getElem?_cons_zero, List.getElem?_cons_succ] at q0 q1
        replace bb := bb.below bl2
        replace hE := Row.below hE bl2
        replace bl := bnext bl bl2
        clear bl2
        obtain ⟨bp, hOw⟩ := KB.out _ bl
        have d0 := bw.cell 0
        have d1 := bw.cell 1
        have d2 := bw.cell 2
        have d3 := bw.cell 3
        have dn := bw.lt
        simp only [List.getElem?_toArray, List.getElem?_cons_zero, List.getElem?_cons_succ] at d0 d1 d2 d3
        go_wp2_with fail
        refine (l03Segment_any bp HW.out HH.out HOKH.out HSG.out).mono ?_
        rintro e w3 ⟨rfl, hb3⟩
        have sz3 := hb3.size
        simp only [World.size_alloc] at sz3
        replace bb := bb.below hb3
        replace hE := Row.below hE hb3
        replace hOw := Row.below hOw hb3
        replace bl := bnext bl hb3
        have co := Ints.cellI hOw (i := sv) s0 s1
        rw [HSV.out] at co
        clear bp hOw hb3 q0 q1 qn d0 d1 d2 d3 dn bw
        have hlw : w.heap.size + 1 ≤ w3.heap.size := by omega
        have hlen : ([a0, a1] : List Int).length < 1000000000 := by simp
        go_wp2_with (at_builtin; refine append_one_at rfl _ _ rfl (w.heap.size + 1) _ (.slice E 2 f) ([a0, a1] : List Int) a2 hE rfl rfl rfl hlen hlw ?_)
        intro g7 f7 w7 hE7 hg7 _
        have bb7 := bb.grown hg7 (fun e => by have := (Row.lt hE e.symm).1; omega)
        have bl7 := bl.grown hg7 bl.size (fun q hq => by have := (Row.lt hE hq).1; omega)
        have sz7 := hg7.size
        have hE8 : Ints w7 (w.heap.size + 1) (.slice (some ⟨g7, 0, none⟩) ([a0, a1, a2, a3].take (2 + 1)).length f7) ([a0, a1, a2, a3].take (2 + 1)) := hE7
        clear hE bb bl hg7 hE7 co
        go_wp2
        go_roundw
        case rel => exact ⟨2 + 1, _, f7, by omega, rfl, by go_num, hE8, bb7, bl7, by omega⟩
        case measure => simp [intOf]
      · obtain ⟨HOK, s0, s1⟩ := HO.out 1 1 (by simp) (by simp)
        have HOKH := Lib.hid HOK
        have HSV := H3
        have ek : [a0, a1, a2, a3].take 3 = ([a0, a1, a2] : List Int) := rfl
        rw [ek] at hE
        clear HOK
        obtain ⟨sv, hsv⟩ : ∃ z, segI ⟨W, H, B⟩ ⟨x, y, 1, 1⟩ = z := ⟨_, rfl⟩
        rw [hsv] at s0 s1 HSV
        have HSG := Lib.hid hsv
        clear hsv
        have bl2 := Joins.below_alloc1 wr (.cells #[.int .i64 x, .int .i64 y, .int .i64 1, .int .i64 1] 95)
        have bw := Box.new wr 95 #[.int .i64 x, .int .i64 y, .int .i64 1, .int .i64 1]
        have q0 := bb.cell 0
        have q1 := bb.cell 1
        have qn := bb.lt
        simp only [List.getElem?_toArray, List.getElem?_cons_zero, List.getElem?_cons_succ] at q0 q1
        replace bb := bb.below bl2
        replace hE := Row.below hE bl2
        replace bl := bnext bl bl2
        clear bl2
        obtain ⟨bp, hOw⟩ := KB.out _ bl
        have d0 := bw.cell 0
        have d1 := bw.cell 1
        have d2 := bw.cell 2
        have d3 := bw.cell 3
        have dn := bw.lt
        simp only [List.getElem?_toArray, List.getElem?_cons_zero, List.getElem?_cons_succ] at d0 d1 d2 d3
        go_wp2_with fail
        refine (l03Segment_any bp HW.out HH.out HOKH.out HSG.out).mono ?_
        rintro e w3 ⟨rfl, hb3⟩
        have sz3 := hb3.size
        simp only [World.size_alloc] at sz3
        replace bb := bb.below hb3
        replace hE := Row.below hE hb3
        replace hOw := Row.below hOw hb3
        replace bl := bnext bl hb3
        have co := Ints.cellI hOw (i := sv) s0 s1
        rw [HSV.out] at co
        clear bp hOw hb3 q0 q1 qn d0 d1 d2 d3 dn bw
        have hlw : w.heap.size + 1 ≤ w3.heap.size := by omega
        have hlen : ([a0, a1, a2] : List Int).length < 1000000000 := by simp
        go_wp2_with (at_builtin; refine append_one_at rfl _ _ rfl (w.heap.size + 1) _ (.slice E 3 f) ([a0, a1, a2] : List Int) a3 hE rfl rfl rfl hlen hlw ?_)
        intro g7 f7 w7 hE7 hg7 _
        have bb7 := bb.grown hg7 (fun e => by have := (Row.lt hE e.symm).1; omega)
        have bl7 := bl.grown hg7 bl.size (fun q hq => by have := (Row.lt hE hq).1; omega)
        have sz7 := hg7.size
        have hE8 : Ints w7 (w.heap.size + 1) (.slice (some ⟨g7, 0, none⟩) ([a0, a1, a2, a3].take (3 + 1)).length f7) ([a0, a1, a2, a3].take (3 + 1)) := hE7
        clear hE bb bl hg7 hE7 co
        go_wp2
        go_roundw
        case rel => exact ⟨3 + 1, _, f7, by omega, rfl, by go_num, hE8, bb7, bl7, by omega⟩
        case measure => simp [intOf]
    · have e : k = 4 := by omega
      subst e
      have e4 : [a0, a1, a2, a3].take 4 = [a0, a1, a2, a3] := rfl
      rw [e4] at hE
      have I2 := Lib.hid (IntsIn.ofInts (Row.le hE (C := w.heap.size) (by omega)) (by simp))
      clear hE bb
      go_wp2
      go_ret
      exact ⟨E, f, rfl, I2.out, bl⟩
set_option maxHeartbeats 16000000 in
theorem l10Meet_any {w : World} {b lo hi Bo : Nat} {W H a c : Int} {v vo : Value} {B : List Int} (bp : Box w b 28 #[.int .i64 W, .int .i64 H, v]) (hI : IntsIn w lo hi v B) (hO : Ints w Bo vo (traceP ⟨W, H, B⟩ (segN ⟨W, H, B⟩)).2) (hp : Ok ⟨W, H, B⟩) :
    Calls Try.prog 52 #[.pointer (some ⟨b, 0, none⟩), vo, .int .i64 a, .int .i64 c] w fun e w' => ∃ E f, e = .returned (.slice E (meetTo ⟨W, H, B⟩ [a, c] B.length).length f) ∧
      IntsIn w' w.heap.size w'.heap.size (.slice E (meetTo ⟨W, H, B⟩ [a, c] B.length).length f) (meetTo ⟨W, H, B⟩ [a, c] B.length) ∧ Below w.heap.size w w' := by
  obtain ⟨A, cA, rfl, _, _⟩ := hI.1.open_
  have hN := hp.len
  have HP := Lib.hid hp
  have HW : Hid (1 ≤ W ∧ W ≤ 8) := Lib.hid ⟨hp.w1, hp.w8⟩
  have HH : Hid (1 ≤ H ∧ H ≤ 8) := Lib.hid ⟨hp.h1, hp.h8⟩
  have HN : Hid (inner W H = (B.length : Int)) := Lib.hid hN.symm
  have hBl : B.length ≤ 200 := by
    have := inner_bd hp.w1 hp.w8 hp.h1 hp.h8
    simp only [] at this hN
    unfold inner at hN
    omega
  have bl := Joins.below_alloc1 w (.cells #[] 2)
  have hE := Row.none_ (enc := Value.int .i64) (E := 2) w
  have KB : Hid (∀ w', Below w.heap.size w w' → Box w' b 28 #[.int .i64 W, .int .i64 H, .slice A B.length cA] ∧ Ints w' Bo vo (traceP ⟨W, H, B⟩ (segN ⟨W, H, B⟩)).2) := Lib.hid (fun w' hx => ⟨(hx.block b bp.lt).trans bp, Row.keep hO fun g hg hl => hx.block g hl⟩)
  clear bp hO hI hp hN
  go_enter Try.func52, Try.ntmps52
  go_wp2
  go_loopw [9, 10] (fun t i wr => ∃ (k : Nat) (E : Option Addr) (f : Nat), k ≤ B.length ∧ t = .slice E (meetTo ⟨W, H, B⟩ [a, c] k).length f ∧ i = .int .i64 k ∧ Ints wr w.heap.size (.slice E (meetTo ⟨W, H, B⟩ [a, c] k).length f) (meetTo ⟨W, H, B⟩ [a, c] k) ∧ Below w.heap.size w wr) (fun _ i _ => B.length - (intOf i).toNat)
  case atStart => exact ⟨0, _, _, by omega, rfl, rfl, hE, bl⟩
  case round =>
    obtain ⟨k, E, f, hk, rfl, rfl, hE, bl⟩ := hrel
    obtain ⟨bp, hO⟩ := KB.out _ bl
    have p0 := bp.cell 0
    have p1 := bp.cell 1
    have p2 := bp.cell 2
    have pn := bp.lt
    simp only [List.getElem?_toArray, List.getElem?_cons_zero, List.getElem?_cons_succ] at p0 p1 p2
    by_cases hlt : k < B.length
    · have i1 : (k : Int) < (B.length : Int) := by omega
      have hlenM := meetTo_len ⟨W, H, B⟩ [a, c] k
      have HM1 : Hid ((decide (a ∈ meetL ⟨W, H, B⟩ k) && decide (c ∈ meetL ⟨W, H, B⟩ k)) = true → meetTo ⟨W, H, B⟩ [a, c] (k + 1) = meetTo ⟨W, H, B⟩ [a, c] k ++ [(k : Int)]) := Lib.hid (fun h => by rw [meetTo, if_pos (by simpa using h)])
      have HM0 : Hid ((decide (a ∈ meetL ⟨W, H, B⟩ k) && decide (c ∈ meetL ⟨W, H, B⟩ k)) = false → meetTo ⟨W, H, B⟩ [a, c] (k + 1) = meetTo ⟨W, H, B⟩ [a, c] k) := Lib.hid (fun h => by rw [meetTo, if_neg (by simpa using h)])
      obtain ⟨M1, hM1⟩ : ∃ M1, meetTo ⟨W, H, B⟩ [a, c] (k + 1) = M1 := ⟨_, rfl⟩
      obtain ⟨M0, hM0⟩ : ∃ M0, meetTo ⟨W, H, B⟩ [a, c] k = M0 := ⟨_, rfl⟩
      rw [hM1, hM0] at HM1
      rw [hM1, hM0] at HM0
      rw [hM0] at hE hlenM ⊢
      have HMM := Lib.hid hM1
      clear hM1 hM0
      obtain ⟨hpt1, hpt2⟩ := pt_has HP.out (k := (k : Int)) (by omega) (by simp only []; omega)
      have HPT1 := Lib.hid hpt1
      have HPT2 := Lib.hid hpt2
      have HK1 : Hid ((k : Int) < inner W H) := Lib.hid (by rw [HN.out]; omega)
      have HML : Hid (meetL ⟨W, H, B⟩ k = [ownQ ⟨W, H, B⟩ (ptX W k) (ptY W k) (-1) (-1), ownQ ⟨W, H, B⟩ (ptX W k) (ptY W k) 1 (-1), ownQ ⟨W, H, B⟩ (ptX W k) (ptY W k) (-1) 1, ownQ ⟨W, H, B⟩ (ptX W k) (ptY W k) 1 1]) := Lib.hid rfl
      clear hpt1 hpt2
      simp only [] at HPT1 HPT2
      go_wp2_with fail
      refine (l02Point_any bp HW.out HH.out (by omega) HK1.out).mono ?_
      rintro e w2 ⟨rfl, hb2⟩
      replace bp := bp.below hb2
      replace hO := Row.below hO hb2
      replace hE := Row.below hE hb2
      replace bl := bnext bl hb2
      clear hb2 p0 p1 p2 pn
      go_wp2_with fail
      refine (l04Meet_any bp hO HW.out HH.out HPT1.out HPT2.out).mono ?_
      rintro e w3 ⟨G, cG, rfl, hL, hb3⟩
      rw [← HML.out] at hL
      replace hE := Row.below hE hb3
      replace bl := bnext bl hb3
      clear hb3 bp hO
      obtain ⟨q, hq⟩ : ∃ q, decide (a ∈ meetL ⟨W, H, B⟩ k) = q := ⟨_, rfl⟩
      obtain ⟨r, hr⟩ : ∃ r, decide (c ∈ meetL ⟨W, H, B⟩ k) = r := ⟨_, rfl⟩
      rw [hq, hr] at HM1
      rw [hq, hr] at HM0
      have HQ := Lib.hid hq
      have HR := Lib.hid hr
      clear hq hr
      go_wp2_with fail
      refine (l00Has_any hL.1 HQ.out).mono ?_
      rintro e w' ⟨rfl, rfl⟩
      have fin : q = false ∨ r = false ∨ (q = true ∧ r = true) := by cases q <;> cases r <;> simp
      cases q with
      | false =>
        have HA := Lib.hid (HM0.out rfl)
        clear HM0 HM1 fin hL
        go_wp2
        go_roundw
        case rel => exact ⟨k + 1, E, f, by omega, by rw [HMM.out, HA.out], by go_num, by rw [HMM.out, HA.out]; exact hE, bl⟩
        case measure => simp [intOf]; omega
      | true =>
        go_wp2_with fail
        refine (l00Has_any hL.1 HR.out).mono ?_
        rintro e w' ⟨rfl, rfl⟩
        clear hL fin
        cases r with
        | false =>
          have HA := Lib.hid (HM0.out rfl)
          clear HM0 HM1
          go_wp2
          go_roundw
          case rel => exact ⟨k + 1, E, f, by omega, by rw [HMM.out, HA.out], by go_num, by rw [HMM.out, HA.out]; exact hE, bl⟩
          case measure => simp [intOf]; omega
        | true =>
          have HA := Lib.hid (HM1.out rfl)
          clear HM0 HM1
          have hlw : w.heap.size ≤ w3.heap.size := bl.size
          have hlen : M0.length < 1000000000 := by omega
          go_wp2_with (at_builtin; refine append_one_at rfl _ _ rfl w.heap.size _ (.slice E M0.length f) M0 k hE rfl rfl rfl hlen hlw ?_)
          intro g7 f7 w7 hE7 hg7 _
          have bl7 := bl.grown hg7 bl.size (fun q hq => (Row.lt hE hq).1)
          have HE7 : Hid (Ints w7 w.heap.size (.slice (some ⟨g7, 0, none⟩) M1.length f7) M1) := Lib.hid (by rw [HA.out]; simpa using hE7)
          have HL7 : Hid (M1.length = M0.length + 1) := Lib.hid (by rw [HA.out]; simp)
          clear hE hE7 bl hg7
          go_wp2
          go_roundw
          case rel => exact ⟨k + 1, some ⟨g7, 0, none⟩, f7, by omega, by rw [HMM.out, HL7.out], by go_num, by rw [HMM.out]; exact HE7.out, bl7⟩
          case measure => simp [intOf]; omega
    · have e : k = B.length := by omega
      subst e
      have I2 := Lib.hid (IntsIn.ofInts hE (by have := meetTo_len ⟨W, H, B⟩ [a, c] B.length; omega))
      clear hO
      go_wp2
      go_ret
      exact ⟨E, f, rfl, I2.out, bl⟩
set_option maxHeartbeats 4000000 in
theorem l04Code_any {w : World} {b lo hi : Nat} {W H a r : Int} {v : Value} {B : List Int} (bp : Box w b 28 #[.int .i64 W, .int .i64 H, v]) (hI : IntsIn w lo hi v B) (hr : codeC ⟨W, H, B⟩ [a] = r) :
    Calls Try.prog 51 #[.pointer (some ⟨b, 0, none⟩), .int .i64 a] w fun e w' => ∃ V, e = .returned (.tuple #[V, .int .i64 r]) ∧ (r = 0 → Ints w' w.heap.size V (traceP ⟨W, H, B⟩ (segN ⟨W, H, B⟩)).2) ∧ Below w.heap.size w w' := by
  obtain ⟨A, cA, rfl, _, _⟩ := hI.1.open_
  by_cases hp : Ok ⟨W, H, B⟩
  rotate_left
  · obtain rfl : 1 = r := by simpa [codeC, hp] using hr
    have HP := Lib.hid hp
    clear hr hp
    go_enter Try.func51, Try.ntmps51
    go_wp2_with fail
    refine (l02Ok_any _ W H _ B false (no_iff HP.out) _ ⟨bp, hI.ints⟩).mono ?_
    rintro e w2 ⟨rfl, hd⟩
    have hb := bdrawn hd
    clear hd
    go_wp2
    go_ret2
    exact ⟨_, rfl, fun h => absurd h (by decide), hb⟩
  have HC : Hid (((traceP ⟨W, H, B⟩ (segN ⟨W, H, B⟩)).1.length : Int) = cntP ⟨W, H, B⟩) := Lib.hid rfl
  have hcb := cntP_bd hp
  have HR : Hid ((if inR a 0 (cntP ⟨W, H, B⟩ - 1) = true then (0 : Int) else 2) = r) := Lib.hid (by simpa [codeC, hp] using hr)
  have HP := Lib.hid hp
  clear hr hp
  go_enter Try.func51, Try.ntmps51
  go_wp2_with fail
  refine (l02Ok_any _ W H _ B true (yes_iff HP.out) _ ⟨bp, hI.ints⟩).mono ?_
  rintro e w2 ⟨rfl, hd⟩
  have hb := bdrawn hd
  replace bp := bp.below hb
  replace hI := hI.below hb
  clear hd
  go_wp2_with fail
  refine (l04All_any bp hI.1 HP.out).mono ?_
  rintro e w3 ⟨D, d, g, rfl, _, hOw, hb3⟩
  replace hOw := Row.le hOw (C := w.heap.size) hb.size
  replace hb := bnext hb hb3
  clear hb3 bp hI
  obtain ⟨m, hm⟩ : ∃ m, (traceP ⟨W, H, B⟩ (segN ⟨W, H, B⟩)).1.length = m := ⟨_, rfl⟩
  rw [hm] at HC
  rw [hm]
  clear hm
  have hmb : (m : Int) ≤ 256 := by rw [HC.out]; exact hcb.2
  rw [← HC.out] at HR
  clear hcb
  obtain ⟨q, hq⟩ : ∃ q, inR a 0 ((m : Int) - 1) = q := ⟨_, rfl⟩
  rw [hq] at HR
  have HQ := Lib.hid hq
  clear hq
  go_wp2_with fail
  refine (l00In_any _ _ _ q HQ.out _).mono ?_
  rintro e w' ⟨rfl, rfl⟩
  cases q with
  | true =>
    obtain rfl : 0 = r := HR.out
    have HOW : Hid (Ints w3 w.heap.size (.slice (some ⟨g, 0, none⟩) (segN ⟨W, H, B⟩) (segN ⟨W, H, B⟩)) (traceP ⟨W, H, B⟩ (segN ⟨W, H, B⟩)).2) := Lib.hid hOw
    clear hOw
    go_wp2
    go_ret2
    exact ⟨.slice (some ⟨g, 0, none⟩) (segN ⟨W, H, B⟩) (segN ⟨W, H, B⟩), rfl, HOW.out, hb⟩
  | false =>
    obtain rfl : 2 = r := HR.out
    clear hOw
    go_wp2
    go_ret2
    exact ⟨_, rfl, fun h => absurd h (by decide), hb⟩
end Go.Proofs.Ytmagomiehgcbjaa
