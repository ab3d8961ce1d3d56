/-
  The pairs of segments at a point, by the program.
-/
import Derived.Test.YtnldahadldolpaaSegC
import Derived.Test.YtnldahadldolpaaNum
import Derived.Test.YtnldahadldolpaaCut
import Derived.Test.YtnldahadldolpaaAppAt
import Derived.Test.YtnldahadldolpaaPlAllB
import Derived.Deep.RegionHeld3
import Derived.Deep.LoopGhost
namespace Go.Proofs.Ytnldahadldolpaa
open Go.RowKit Knot

/-- A slice of pairs of int64, read as a flat list. -/
def TRow (w : World) (B : Nat) (v : Value) (n : Nat) (zs : List Int) : Prop := w.ownsRow B 109 2 v n (zs.map (Value.int .i64))
/-- The pairs, flat. -/
def flat2 (l : List (Int × Int)) : List Int := l.flatMap fun q => [q.1, q.2]
theorem made_pairs (w : World) (zs : List Int) (n : Nat) (h : zs.length = n * 2) (hm : n ≤ 2) : TRow (w.alloc (.cells (zs.map (Value.int .i64)).toArray 109)) w.heap.size (.slice (some ⟨w.heap.size, 0, none⟩) n n) n zs := by
  refine ⟨by simp [h], .inr ⟨w.heap.size, n, _, rfl, Nat.le_refl _, heap_alloc_new w _, Nat.le_refl _, by unfold maxLen; omega, ?_, ?_⟩⟩
  · simp [h]
  · rw [List.take_of_length_le (by simp [h])]
theorem TRow.le {w : World} {B C n : Nat} {v : Value} {zs : List Int} (h : TRow w B v n zs) (hc : C ≤ B) : TRow w C v n zs := by
  obtain ⟨h1, h2⟩ := h
  refine ⟨h1, ?_⟩
  rcases h2 with h2 | ⟨g, cap, cur, hv, hg, r⟩
  · exact .inl h2
  · exact .inr ⟨g, cap, cur, hv, by omega, r⟩
def dirX (k : Nat) : Int := if k < 2 then -1 else 1
def dirY (k : Nat) : Int := if k % 2 = 0 then -1 else 1
/-- The segments at a point in the first k directions that do not lead out. -/
def endsTo (p : Pan) (x y : Int) : Nat → List Int
  | 0 => []
  | k + 1 => if Has p (x + dirX k) (y + dirY k) then endsTo p x y k ++ [sg p x y (dirX k) (dirY k)] else endsTo p x y k
theorem ends_yes {p : Pan} {x y : Int} {k : Nat} (h : Has p (x + dirX k) (y + dirY k)) : endsTo p x y (k + 1) = endsTo p x y k ++ [sg p x y (dirX k) (dirY k)] := by rw [endsTo, if_pos h]
theorem ends_no {p : Pan} {x y : Int} {k : Nat} (h : ¬ Has p (x + dirX k) (y + dirY k)) : endsTo p x y (k + 1) = endsTo p x y k := by rw [endsTo, if_neg h]
theorem ends_len (p : Pan) (x y : Int) : ∀ k, (endsTo p x y k).length ≤ k
  | 0 => Nat.le_refl _
  | k + 1 => by
    have := ends_len p x y k
    unfold endsTo
    split
    · simp; omega
    · omega
theorem has_iff {p : Pan} {x y : Int} : Has p x y ↔ 0 ≤ x ∧ x ≤ 2 * p.W ∧ 0 ≤ y ∧ y ≤ 2 * p.H ∧ (x + y) % 2 = 1 := Iff.rfl
theorem ends_edge {p : Pan} (hp : Ok p) {x y : Int} (hh : Has p x y) (he : Knot.Edge p x y) : ∃ e0 e1, endsTo p x y 4 = [e0, e1] ∧ pairsP p x y = [(e0, e1)] := by
  have w1 := hp.w1
  have h1 := hp.h1
  obtain ⟨a1, a2, a3, a4, a5⟩ := hh
  have d0 : dirX 0 = -1 ∧ dirY 0 = -1 := by decide
  have d1 : dirX 1 = -1 ∧ dirY 1 = 1 := by decide
  have d2 : dirX 2 = 1 ∧ dirY 2 = -1 := by decide
  have d3 : dirX 3 = 1 ∧ dirY 3 = 1 := by decide
  unfold Knot.Edge at he
  unfold pairsP
  by_cases c1 : x = 0
  · refine ⟨sg p x y 1 (-1), sg p x y 1 1, ?_, by rw [if_pos c1]⟩
    rw [ends_yes (k := 3) (by rw [d3.1, d3.2, has_iff]; omega), ends_yes (k := 2) (by rw [d2.1, d2.2, has_iff]; omega), ends_no (k := 1) (by rw [d1.1, d1.2, has_iff]; omega), ends_no (k := 0) (by rw [d0.1, d0.2, has_iff]; omega), d2.1, d2.2, d3.1, d3.2]
    rfl
  rw [if_neg c1]
  by_cases c2 : x = 2 * p.W
  · refine ⟨sg p x y (-1) (-1), sg p x y (-1) 1, ?_, by rw [if_pos c2]⟩
    rw [ends_no (k := 3) (by rw [d3.1, d3.2, has_iff]; omega), ends_no (k := 2) (by rw [d2.1, d2.2, has_iff]; omega), ends_yes (k := 1) (by rw [d1.1, d1.2, has_iff]; omega), ends_yes (k := 0) (by rw [d0.1, d0.2, has_iff]; omega), d0.1, d0.2, d1.1, d1.2]
    rfl
  rw [if_neg c2]
  by_cases c3 : y = 0
  · refine ⟨sg p x y (-1) 1, sg p x y 1 1, ?_, by rw [if_pos c3]⟩
    rw [ends_yes (k := 3) (by rw [d3.1, d3.2, has_iff]; omega), ends_no (k := 2) (by rw [d2.1, d2.2, has_iff]; omega), ends_yes (k := 1) (by rw [d1.1, d1.2, has_iff]; omega), ends_no (k := 0) (by rw [d0.1, d0.2, has_iff]; omega), d1.1, d1.2, d3.1, d3.2]
    rfl
  rw [if_neg c3]
  · refine ⟨sg p x y (-1) (-1), sg p x y 1 (-1), ?_, by rw [if_pos (by omega)]⟩
    rw [ends_no (k := 3) (by rw [d3.1, d3.2, has_iff]; omega), ends_yes (k := 2) (by rw [d2.1, d2.2, has_iff]; omega), ends_no (k := 1) (by rw [d1.1, d1.2, has_iff]; omega), ends_yes (k := 0) (by rw [d0.1, d0.2, has_iff]; omega), d0.1, d0.2, d2.1, d2.2]
    rfl
theorem index_dir (k : Nat) (hk : k < 4) (w : World) : (Instr.index 121 (.agg #[.int .i64 (-1), .int .i64 (-1), .int .i64 (-1), .int .i64 1, .int .i64 1, .int .i64 (-1), .int .i64 1, .int .i64 1]) (.int .i64 k)).run Try.prog w = .ok (.agg #[.int .i64 (dirX k), .int .i64 (dirY k)]) w := by
  rcases (show k = 0 ∨ k = 1 ∨ k = 2 ∨ k = 3 by omega) with rfl | rfl | rfl | rfl <;> kernel_rfl
/-- At an inner point each direction leads on. -/
theorem inner_ok {p : Pan} {x y dx dy : Int} (hh : Has p x y) (he : ¬ Knot.Edge p x y) (h1 : dx = 1 ∨ dx = -1) (h2 : dy = 1 ∨ dy = -1) : OkW p ⟨x, y, dx, dy⟩ := by
  obtain ⟨a1, a2, a3, a4, a5⟩ := hh
  unfold Knot.Edge at he
  exact okW_mk h1 h2 ⟨a1, a2, a3, a4, a5⟩ ⟨by omega, by omega, by omega, by omega, by omega⟩

set_option maxHeartbeats 2000000 in
theorem pairSeg_any {w : World} {bp ba : Nat} {W H x y dx dy r : Int} {A : Option Addr} {n c : Nat} {B : List Int} (hb : Box w bp 41 #[.int .i64 W, .int .i64 H, .slice A n c]) (hq : Box w ba 108 #[.int .i64 x, .int .i64 y])
    (hW : 1 ≤ W ∧ W ≤ 8) (hH : 1 ≤ H ∧ H ≤ 8) (hk : OkW ⟨W, H, B⟩ ⟨x, y, dx, dy⟩) (hr : sg ⟨W, H, B⟩ x y dx dy = r) :
    Calls Try.prog 100 #[.int .i64 dx, .int .i64 dy, .pointer (some ⟨bp, 0, none⟩), .pointer (some ⟨ba, 0, none⟩)] w fun e w' => e = .returned (.int .i64 r) ∧ Below w.heap.size w w' := by
  have p0 := hb.cell 0
  have p1 := hb.cell 1
  have p2 := hb.cell 2
  have pn := hb.lt
  simp only [List.getElem?_toArray, List.getElem?_cons_zero, List.getElem?_cons_succ] at p0 p1 p2
  have q0 := hq.cell 0
  have q1 := hq.cell 1
  have qn := hq.lt
  simp only [List.getElem?_toArray, List.getElem?_cons_zero, List.getElem?_cons_succ] at q0 q1
  have HK := Lib.hid hk
  have HR := Lib.hid hr
  have HW := Lib.hid hW
  have HH := Lib.hid hH
  clear hb hq hk hr hW hH
  go_enter Try.func100, Try.ntmps100
  go_wp2_with fail
  refine (segment_any HW.out HH.out HK.out HR.out).mono ?_
  rintro e w2 ⟨rfl, hb2⟩
  go_wp2_with fail
  go_ret
  exact ⟨rfl, hb2⟩
set_option maxRecDepth 100000 in
set_option maxHeartbeats 8000000 in
theorem pairsAt_any {w : World} {Bd : Nat} {W H x y : Int} {v : Value} {B : List Int} (hI : Ints w Bd v B) (hp : Ok ⟨W, H, B⟩) (hh : Has ⟨W, H, B⟩ x y) :
    Calls Try.prog 96 #[.agg #[.int .i64 W, .int .i64 H, v], .agg #[.int .i64 x, .int .i64 y]] w fun e w' => ∃ g c, e = .returned (.slice (some ⟨g, 0, none⟩) (pairsP ⟨W, H, B⟩ x y).length c) ∧
      TRow w' w.heap.size (.slice (some ⟨g, 0, none⟩) (pairsP ⟨W, H, B⟩ x y).length c) (pairsP ⟨W, H, B⟩ x y).length (flat2 (pairsP ⟨W, H, B⟩ x y)) ∧ Below w.heap.size w w' := by
  obtain ⟨A, cA, rfl, _, hA⟩ := hI.open_
  have hmf : ∀ (fn : Fn) (first cap : Array Value) (w : World), (Instr.makeFunc fn first cap).run Try.prog w = .ok (.func fn first cap) w := fun _ _ _ _ => rfl
  have bl := Joins.below_alloc2 w (.cells #[.int .i64 W, .int .i64 H, .slice A B.length cA] 41) (.cells #[.int .i64 x, .int .i64 y] 108)
  have ba := (Box.new w 41 #[.int .i64 W, .int .i64 H, .slice A B.length cA]).alloc (.cells #[.int .i64 x, .int .i64 y] 108)
  have bb := Box.new (w.alloc (.cells #[.int .i64 W, .int .i64 H, .slice A B.length cA] 41)) 108 #[.int .i64 x, .int .i64 y]
  rw [World.size_alloc] at bb
  have hI2 := Row.below hI bl
  have HP := Lib.hid hp
  have HX := Lib.hid hh
  have HW : Hid (1 ≤ W ∧ W ≤ 8) := Lib.hid ⟨hp.w1, hp.w8⟩
  have HH : Hid (1 ≤ H ∧ H ≤ 8) := Lib.hid ⟨hp.h1, hp.h8⟩
  have HW0 : Hid (0 ≤ W ∧ W ≤ 1000000) := Lib.hid (by have := hp.w1; have := hp.w8; simp only [] at *; omega)
  have HH0 : Hid (0 ≤ H ∧ H ≤ 1000000) := Lib.hid (by have := hp.h1; have := hp.h8; simp only [] at *; omega)
  obtain ⟨x0, x16, y0, y16⟩ : 0 ≤ x ∧ x ≤ 16 ∧ 0 ≤ y ∧ y ≤ 16 := by
    obtain ⟨a1, a2, a3, a4, a5⟩ := hh
    have := hp.w8
    have := hp.h8
    simp only [] at *
    omega
  clear hI
  by_cases he : Knot.Edge ⟨W, H, B⟩ x y
  · obtain ⟨e0, e1, hE4, hP2⟩ := ends_edge hp hh he
    rw [hP2]
    show Calls _ _ _ _ fun e w' => ∃ g c, e = .returned (.slice (some ⟨g, 0, none⟩) 1 c) ∧ TRow w' w.heap.size (.slice (some ⟨g, 0, none⟩) 1 c) 1 [e0, e1] ∧ Below w.heap.size w w'
    have HE := Lib.hid he
    have HE4 := Lib.hid hE4
    clear he hE4 hP2 hp hh hA hI2
    have p0 := ba.cell 0
    have p1 := ba.cell 1
    have p2 := ba.cell 2
    have pn := ba.lt
    simp only [List.getElem?_toArray, List.getElem?_cons_zero, List.getElem?_cons_succ] at p0 p1 p2
    have q0 := bb.cell 0
    have q1 := bb.cell 1
    have qn := bb.lt
    simp only [List.getElem?_toArray, List.getElem?_cons_zero, List.getElem?_cons_succ] at q0 q1
    go_enter Try.func96, Try.ntmps96
    go_wp2_with fail
    refine (isBorder_any (B := B) HW.out HH.out (yes_iff HE.out)).mono ?_
    rintro e w2 ⟨rfl, hb2⟩
    have sz2 := hb2.size
    simp only [World.size_alloc] at sz2
    replace ba := (ba.below hb2).alloc (.cells #[] 2)
    replace bb := (bb.below hb2).alloc (.cells #[] 2)
    have h0 := Row.none_ (enc := Value.int .i64) (E := 2) w2
    replace bl := bnext (bnext bl hb2) (Joins.below_alloc1 _ (.cells #[] 2))
    clear hb2 p0 p1 p2 pn q0 q1 qn
    go_wp2_with fail
    have HB : Hid (∀ wr, Below (w2.alloc (.cells #[] 2)).heap.size (w2.alloc (.cells #[] 2)) wr → Box wr w.heap.size 41 #[.int .i64 W, .int .i64 H, .slice A B.length cA] ∧ Box wr (w.heap.size + 1) 108 #[.int .i64 x, .int .i64 y]) := Lib.hid (fun x hx => ⟨ba.below hx, bb.below hx⟩)
    clear ba bb
    go_loopw [6, 23] (fun t i wr => ∃ (k : Nat) (E : Option Addr) (f : Nat), k ≤ 4 ∧ t = .slice E (endsTo ⟨W, H, B⟩ x y k).length f ∧ i = .int .i64 k ∧ Ints wr w2.heap.size (.slice E (endsTo ⟨W, H, B⟩ x y k).length f) (endsTo ⟨W, H, B⟩ x y k) ∧
        Box wr w.heap.size 41 #[.int .i64 W, .int .i64 H, .slice A B.length cA] ∧ Box wr (w.heap.size + 1) 108 #[.int .i64 x, .int .i64 y] ∧ Below w.heap.size w wr ∧ w2.heap.size < wr.heap.size) (fun _ i _ => 4 - (intOf i).toNat)
    case atStart => exact ⟨0, _, _, by omega, rfl, rfl, h0, (HB.out _ (Below.refl _ _)).1, (HB.out _ (Below.refl _ _)).2, bl, by simp⟩
    case round =>
      obtain ⟨k, E, f, hk, rfl, rfl, hE, ba, bb, hb, hs⟩ := hrel
      clear h0 bl HB
      by_cases hlt : k < 4
      · have hlen := ends_len ⟨W, H, B⟩ x y k
        have HY : Hid (Has ⟨W, H, B⟩ (x + dirX k) (y + dirY k) → endsTo ⟨W, H, B⟩ x y (k + 1) = endsTo ⟨W, H, B⟩ x y k ++ [sg ⟨W, H, B⟩ x y (dirX k) (dirY k)]) := Lib.hid ends_yes
        have HN : Hid (¬ Has ⟨W, H, B⟩ (x + dirX k) (y + dirY k) → endsTo ⟨W, H, B⟩ x y (k + 1) = endsTo ⟨W, H, B⟩ x y k) := Lib.hid ends_no
        have HD : Hid ((dirX k = 1 ∨ dirX k = -1) ∧ (dirY k = 1 ∨ dirY k = -1)) := Lib.hid (by unfold dirX dirY; constructor <;> split <;> simp)
        obtain ⟨dx, hdx⟩ : ∃ dx, dirX k = dx := ⟨_, rfl⟩
        obtain ⟨dy, hdy⟩ : ∃ dy, dirY k = dy := ⟨_, rfl⟩
        obtain ⟨E1, hE1⟩ : ∃ E1, endsTo ⟨W, H, B⟩ x y (k + 1) = E1 := ⟨_, rfl⟩
        obtain ⟨E0, hE0⟩ : ∃ E0, endsTo ⟨W, H, B⟩ x y k = E0 := ⟨_, rfl⟩
        rw [hdx, hdy, hE1, hE0] at HY
        rw [hdx, hdy, hE1, hE0] at HN
        rw [hdx, hdy] at HD
        rw [hE0] at hE hlen ⊢
        obtain ⟨dx0, dx1⟩ : -1 ≤ dx ∧ dx ≤ 1 := by have := HD.out.1; omega
        obtain ⟨dy0, dy1⟩ : -1 ≤ dy ∧ dy ≤ 1 := by have := HD.out.2; omega
        have HE1 := Lib.hid hE1
        have hix := index_dir k hlt
        rw [hdx, hdy] at hix
        clear hE1 hE0
        have bd := Box.new wr 109 #[.int .i64 dx, .int .i64 dy]
        have bl2 := Joins.below_alloc1 wr (.cells #[.int .i64 dx, .int .i64 dy] 109)
        replace ba := ba.below bl2
        replace bb := bb.below bl2
        replace hE := Row.below hE bl2
        replace hb := bnext hb bl2
        have p0 := ba.cell 0
        have p1 := ba.cell 1
        have p2 := ba.cell 2
        have pn := ba.lt
        simp only [List.getElem?_toArray, List.getElem?_cons_zero, List.getElem?_cons_succ] at p0 p1 p2
        have q0 := bb.cell 0
        have q1 := bb.cell 1
        have qn := bb.lt
        simp only [List.getElem?_toArray, List.getElem?_cons_zero, List.getElem?_cons_succ] at q0 q1
        have d0 := bd.cell 0
        have d1 := bd.cell 1
        have dn := bd.lt
        simp only [List.getElem?_toArray, List.getElem?_cons_zero, List.getElem?_cons_succ] at d0 d1
        by_cases hin : Has ⟨W, H, B⟩ (x + dx) (y + dy)
        · have HI := Lib.hid hin
          have HOK : Hid (OkW ⟨W, H, B⟩ ⟨x, y, dx, dy⟩) := Lib.hid (okW_mk HD.out.1 HD.out.2 HX.out hin)
          have HY2 := Lib.hid (HY.out hin)
          clear hin HY HN
          clear hdx hdy
          go_wp2_with fail
          refine (isPoint_any (B := B) HW0.out HH0.out (yes_iff HI.out)).mono ?_
          rintro e w3 ⟨rfl, hb3⟩
          have sz3 := hb3.size
          simp only [World.size_alloc] at sz3
          replace ba := ba.below hb3
          replace bb := bb.below hb3
          replace bd := bd.below hb3
          replace hE := Row.below hE hb3
          replace hb := bnext hb hb3
          clear hb3 p0 p1 p2 pn q0 q1 qn d0 d1 dn
          have d0 := bd.cell 0
          have d1 := bd.cell 1
          have dn := bd.lt
          simp only [List.getElem?_toArray, List.getElem?_cons_zero, List.getElem?_cons_succ] at d0 d1
          go_wp2_with fail
          refine (pairSeg_any ba bb HW.out HH.out HOK.out rfl).mono ?_
          rintro e w4 ⟨rfl, hb4⟩
          have sz4 := hb4.size
          replace ba := ba.below hb4
          replace bb := bb.below hb4
          replace hE := Row.below hE hb4
          replace hb := bnext hb hb4
          generalize sg ⟨W, H, B⟩ x y dx dy = r at *
          have hlen2 : E0.length < 1000000000 := by omega
          have hlw : w2.heap.size ≤ w4.heap.size := by omega
          clear hb4 d0 d1 dn bd
          go_wp2_with (at_builtin; refine append_one_at rfl _ _ rfl w2.heap.size _ (.slice E E0.length f) E0 r hE rfl rfl rfl hlen2 hlw ?_)
          intro g5 f5 w5 hE5 hg5 _
          have ba5 := ba.grown hg5 (fun e => by have := (Row.lt hE e.symm).1; omega)
          have bb5 := bb.grown hg5 (fun e => by have := (Row.lt hE e.symm).1; omega)
          have hb5 := hb.grown hg5 hb.size (fun j hj => by have := (Row.lt hE hj).1; omega)
          have sz5 := hg5.size
          have HE2 : Hid (Ints w5 w2.heap.size (.slice (some ⟨g5, 0, none⟩) E1.length f5) E1) := Lib.hid (by rw [HY2.out]; simpa using hE5)
          have HL2 : Hid (E1.length = E0.length + 1) := Lib.hid (by rw [HY2.out]; simp)
          clear hE hE5 hb hg5 ba bb
          go_wp2
          go_roundw
          case rel => exact ⟨k + 1, some ⟨g5, 0, none⟩, f5, by omega, by rw [HE1.out, HL2.out], by go_num, by rw [HE1.out]; exact HE2.out, ba5, bb5, hb5, by omega⟩
          case measure => simp [intOf]; omega
        · have HI := Lib.hid hin
          have HN2 := Lib.hid (HN.out hin)
          clear hin HY HN hdx hdy
          go_wp2_with fail
          refine (isPoint_any (B := B) HW0.out HH0.out (no_iff HI.out)).mono ?_
          rintro e w3 ⟨rfl, hb3⟩
          have sz3 := hb3.size
          simp only [World.size_alloc] at sz3
          replace ba := ba.below hb3
          replace bb := bb.below hb3
          replace hE := Row.below hE hb3
          replace hb := bnext hb hb3
          clear hb3 p0 p1 p2 pn q0 q1 qn d0 d1 dn
          go_wp2
          go_roundw
          case rel => exact ⟨k + 1, E, f, by omega, by rw [HE1.out, HN2.out], by go_num, by rw [HE1.out, HN2.out]; exact hE, ba, bb, hb, by omega⟩
          case measure => simp [intOf]; omega
      · have e : k = 4 := by omega
        subst e
        rw [HE4.out] at hE ⊢
        obtain ⟨E', f', hv, _, hg⟩ := hE.open_
        obtain ⟨rfl, rfl⟩ : E' = E ∧ f' = f := by injection hv with h1 h2 h3; exact ⟨h1.symm, h3.symm⟩
        obtain ⟨g, rfl, g0, g1⟩ := hg (by simp)
        have c0 := Ints.cell hE (k := 0) (by simp)
        have c1 := Ints.cell hE (k := 1) (by simp)
        have v0 : gI [e0, e1] ((0 : Nat) : Int) = e0 := rfl
        have v1 : gI [e0, e1] ((1 : Nat) : Int) = e1 := rfl
        rw [v0] at c0
        rw [v1] at c1
        clear hE v0 v1 hv ba bb
        go_wp2
        go_region
        go_wp2
        go_ret
        exact ⟨_, _, rfl, (made_pairs wr [e0, e1] 1 rfl (by omega)).le (by omega), cut_alloc (bnext hb cut_drew) _ |>.trans (below_drewN _ _ 0)⟩
  · obtain ⟨m0, m1, hx, hy, ho, hm⟩ := num_in hp hh he
    have hbk : brk ⟨W, H, B⟩ x y = gI B (num ⟨W, H, B⟩ x y) := by unfold brk; rw [if_neg he]; rfl
    have hkd : gI B (num ⟨W, H, B⟩ x y) = 0 ∨ gI B (num ⟨W, H, B⟩ x y) = 1 ∨ gI B (num ⟨W, H, B⟩ x y) = 2 := by
      have hl : (num ⟨W, H, B⟩ x y).toNat < B.length := by simp only [] at *; omega
      have e1 : gI B (num ⟨W, H, B⟩ x y) = B[(num ⟨W, H, B⟩ x y).toNat] := by simp [gI, List.getD, hl]
      have := hp.kind _ (List.getElem_mem hl)
      rw [e1]
      simp only [] at *
      omega
    have hpp : pairsP ⟨W, H, B⟩ x y = if gI B (num ⟨W, H, B⟩ x y) = 1 then [(sg ⟨W, H, B⟩ x y (-1) (-1), sg ⟨W, H, B⟩ x y (-1) 1), (sg ⟨W, H, B⟩ x y 1 (-1), sg ⟨W, H, B⟩ x y 1 1)]
        else if gI B (num ⟨W, H, B⟩ x y) = 2 then [(sg ⟨W, H, B⟩ x y (-1) (-1), sg ⟨W, H, B⟩ x y 1 (-1)), (sg ⟨W, H, B⟩ x y (-1) 1, sg ⟨W, H, B⟩ x y 1 1)]
        else [(sg ⟨W, H, B⟩ x y (-1) (-1), sg ⟨W, H, B⟩ x y 1 1), (sg ⟨W, H, B⟩ x y 1 (-1), sg ⟨W, H, B⟩ x y (-1) 1)] := by
      unfold Knot.Edge at he
      unfold pairsP
      rw [if_neg (fun h => he (.inl h)), if_neg (fun h => he (.inr (.inl h))), if_neg (fun h => he (.inr (.inr (.inl h)))), if_neg (fun h => he (.inr (.inr (.inr h)))), hbk]
    have O1 := Lib.hid (inner_ok hh he (dx := -1) (dy := -1) (.inr rfl) (.inr rfl))
    have O2 := Lib.hid (inner_ok hh he (dx := -1) (dy := 1) (.inr rfl) (.inl rfl))
    have O3 := Lib.hid (inner_ok hh he (dx := 1) (dy := -1) (.inl rfl) (.inr rfl))
    have O4 := Lib.hid (inner_ok hh he (dx := 1) (dy := 1) (.inl rfl) (.inl rfl))
    have HE := Lib.hid he
    have HXX := Lib.hid hx
    have HYY := Lib.hid hy
    have HOD := Lib.hid ho
    simp only [] at m1
    obtain ⟨L, hL⟩ : ∃ L, pairsP ⟨W, H, B⟩ x y = L := ⟨_, rfl⟩
    rw [hL]
    rw [hL] at hpp
    have HL := Lib.hid hpp
    clear hpp hL hbk he hp hh hx hy ho
    generalize num ⟨W, H, B⟩ x y = m at *
    have HM : Hid (rowOf W y + (x - 1) / 2 = m) := Lib.hid hm
    obtain ⟨g, rfl, _, gl⟩ := hA (by omega)
    clear hm hA
    have p0 := ba.cell 0
    have p1 := ba.cell 1
    have p2 := ba.cell 2
    have pn := ba.lt
    simp only [List.getElem?_toArray, List.getElem?_cons_zero, List.getElem?_cons_succ] at p0 p1 p2
    have q0 := bb.cell 0
    have q1 := bb.cell 1
    have qn := bb.lt
    simp only [List.getElem?_toArray, List.getElem?_cons_zero, List.getElem?_cons_succ] at q0 q1
    go_enter Try.func96, Try.ntmps96
    go_wp2_with fail
    refine (isBorder_any (B := B) HW.out HH.out (no_iff HE.out)).mono ?_
    rintro e w2 ⟨rfl, hb2⟩
    have sz2 := hb2.size
    simp only [World.size_alloc] at sz2
    replace ba := ba.below hb2
    replace bb := bb.below hb2
    replace hI2 := Row.below hI2 hb2
    replace bl := bnext bl hb2
    clear hb2 p0 p1 p2 pn q0 q1 qn
    go_wp2_with fail
    refine (pairSeg_any ba bb HW.out HH.out O1.out rfl).mono ?_
    rintro e w3 ⟨rfl, hb3⟩
    have sz3 := hb3.size
    replace ba := ba.below hb3
    replace bb := bb.below hb3
    replace hI2 := Row.below hI2 hb3
    replace bl := bnext bl hb3
    clear hb3
    go_wp2_with fail
    refine (pairSeg_any ba bb HW.out HH.out O2.out rfl).mono ?_
    rintro e w4 ⟨rfl, hb4⟩
    have sz4 := hb4.size
    replace ba := ba.below hb4
    replace bb := bb.below hb4
    replace hI2 := Row.below hI2 hb4
    replace bl := bnext bl hb4
    clear hb4
    go_wp2_with fail
    refine (pairSeg_any ba bb HW.out HH.out O3.out rfl).mono ?_
    rintro e w5 ⟨rfl, hb5⟩
    have sz5 := hb5.size
    replace ba := ba.below hb5
    replace bb := bb.below hb5
    replace hI2 := Row.below hI2 hb5
    replace bl := bnext bl hb5
    clear hb5
    go_wp2_with fail
    refine (pairSeg_any ba bb HW.out HH.out O4.out rfl).mono ?_
    rintro e w6 ⟨rfl, hb6⟩
    have sz6 := hb6.size
    replace ba := ba.below hb6
    replace bb := bb.below hb6
    replace hI2 := Row.below hI2 hb6
    replace bl := bnext bl hb6
    clear hb6
    generalize sg ⟨W, H, B⟩ x y (-1) (-1) = a1 at *
    generalize sg ⟨W, H, B⟩ x y (-1) 1 = a2 at *
    generalize sg ⟨W, H, B⟩ x y 1 (-1) = a3 at *
    generalize sg ⟨W, H, B⟩ x y 1 1 = a4 at *
    have cc := Ints.cellI hI2 (i := m) m0 m1
    have p0 := ba.cell 0
    have p1 := ba.cell 1
    have p2 := ba.cell 2
    have pn := ba.lt
    simp only [List.getElem?_toArray, List.getElem?_cons_zero, List.getElem?_cons_succ] at p0 p1 p2
    have q0 := bb.cell 0
    have q1 := bb.cell 1
    have qn := bb.lt
    simp only [List.getElem?_toArray, List.getElem?_cons_zero, List.getElem?_cons_succ] at q0 q1
    have gl6 : g < w6.heap.size := (Row.lt hI2 rfl).2
    have HK := Lib.hid hkd
    clear hkd
    generalize gI B m = kd at *
    have KS : Hid (∀ w', Below w6.heap.size w6 w' → (Below w6.heap.size w6 w' ∧ w'.cell? ⟨w.heap.size, 0, none⟩ = some (.int .i64 W) ∧ w'.cell? ⟨w.heap.size, 1, none⟩ = some (.int .i64 H) ∧ w'.cell? ⟨w.heap.size, 2, none⟩ = some (.slice (some ⟨g, 0, none⟩) B.length cA) ∧ w'.cell? ⟨w.heap.size + 1, 0, none⟩ = some (.int .i64 x) ∧ w'.cell? ⟨w.heap.size + 1, 1, none⟩ = some (.int .i64 y) ∧ w'.cell? ⟨g, m.toNat, none⟩ = some (.int .i64 kd))) := Lib.hid (fun x hx => ⟨hx, (ba.below hx).cell 0, (ba.below hx).cell 1, (ba.below hx).cell 2, (bb.below hx).cell 0, (bb.below hx).cell 1, (hx.cell (p := ⟨g, m.toNat, none⟩) gl6).trans cc⟩)
    go_wp2
    go_region_held3 (fun w' => Below w6.heap.size w6 w' ∧ w'.cell? ⟨w.heap.size, 0, none⟩ = some (.int .i64 W) ∧ w'.cell? ⟨w.heap.size, 1, none⟩ = some (.int .i64 H) ∧ w'.cell? ⟨w.heap.size, 2, none⟩ = some (.slice (some ⟨g, 0, none⟩) B.length cA) ∧ w'.cell? ⟨w.heap.size + 1, 0, none⟩ = some (.int .i64 x) ∧ w'.cell? ⟨w.heap.size + 1, 1, none⟩ = some (.int .i64 y) ∧ w'.cell? ⟨g, m.toNat, none⟩ = some (.int .i64 kd))
      ((refine KS.out _ ?_; first | exact cut_drew | exact hBn))
      ((go_at_call 104; go_split_ands; (with_reducible refine (number_any HW.out HXX.out HYY.out HOD.out HM.out).mono ?_); rintro e w7 ⟨rfl, hb7⟩; have hBn := bnext (w := w6) (by assumption) hb7))
    go_split_ands
    clear p0 p1 p2 pn q0 q1 qn KS cc ba bb hI2
    replace bl := bnext bl hBn
    have sz7 := hBn.size
    clear hBn hb7
    rcases HK.out with rfl | rfl | rfl
    · have eL := HL.out
      rw [if_neg (show ¬ _ by decide), if_neg (show ¬ _ by decide)] at eL
      clear HK HL
      go_wp2
      go_ret
      subst eL
      exact ⟨_, _, rfl, (made_pairs w7 [a1, a4, a3, a2] 2 rfl (by omega)).le (by omega), cut_alloc bl _⟩
    · have eL := HL.out
      rw [if_pos rfl] at eL
      clear HK HL
      go_wp2
      go_ret
      subst eL
      exact ⟨_, _, rfl, (made_pairs w7 [a1, a2, a3, a4] 2 rfl (by omega)).le (by omega), cut_alloc bl _⟩
    · have eL := HL.out
      rw [if_neg (show ¬ _ by decide), if_pos rfl] at eL
      clear HK HL
      go_wp2
      go_ret
      subst eL
      exact ⟨_, _, rfl, (made_pairs w7 [a1, a3, a2, a4] 2 rfl (by omega)).le (by omega), cut_alloc bl _⟩
end Go.Proofs.Ytnldahadldolpaa
