/-
  The points at which curves meet, by the program and by the reference.
-/
import Derived.Test.YtmagomiehgcbjaaMeet
import Derived.Test.YtmagomiehgcbjaaPts
import Derived.Maps.OwnSet
namespace Go.Proofs.Ytmagomiehgcbjaa
open Go.RowKit Knot Go.Maps

def dirX (k : Nat) : Int := if k < 2 then -1 else 1
def dirY (k : Nat) : Int := if k % 2 = 0 then -1 else 1
/-- The curve of the segment at an inner point in a direction. -/
def ownQ (p : Pan) (x y dx dy : Int) : Int := gI (traceP p (segN p)).2 (segI p ⟨x, y, dx, dy⟩)
theorem inner_okw {p : Pan} {x y dx dy : Int} (hh : Has p x y) (he : ¬ Knot.Edge p x y) (h1 : dx = 1 ∨ dx = -1) (h2 : dy = 1 ∨ dy = -1) : OkW p ⟨x, y, dx, dy⟩ := by
  obtain ⟨a1, a2, a3, a4, a5⟩ := hh
  unfold Knot.Edge at he
  exact okW_mk h1 h2 ⟨a1, a2, a3, a4, a5⟩ ⟨by omega, by omega, by omega, by omega, by omega⟩
theorem index_dir (k : Nat) (hk : k < 4) (w : World) : (Instr.index 105 (.agg #[.int .i64 (-1), .int .i64 (-1), .int .i64 (-1), .int .i64 1, .int .i64 1, .int .i64 (-1), .int .i64 1, .int .i64 1]) (.int .i64 k)).run Try.prog w = .ok (.agg #[.int .i64 (dirX k), .int .i64 (dirY k)]) w := by
  rcases (show k = 0 ∨ k = 1 ∨ k = 2 ∨ k = 3 by omega) with rfl | rfl | rfl | rfl <;> kernel_rfl
/-- The first k of four cells filled. -/
def arrTo (s : Nat → Int) (k : Nat) : Array Value := #[.int .i64 (if 0 < k then s 0 else 0), .int .i64 (if 1 < k then s 1 else 0), .int .i64 (if 2 < k then s 2 else 0), .int .i64 (if 3 < k then s 3 else 0)]
theorem arrTo_set (s : Nat → Int) (k : Nat) (h : k < 4) : (arrTo s k).setIfInBounds k (.int .i64 (s k)) = arrTo s (k + 1) := by
  rcases (show k = 0 ∨ k = 1 ∨ k = 2 ∨ k = 3 by omega) with rfl | rfl | rfl | rfl <;> simp [arrTo]
theorem arrTo_get (s : Nat → Int) (k : Nat) (h : k < 4) : (arrTo s k)[k]? = some (.int .i64 0) := by
  rcases (show k = 0 ∨ k = 1 ∨ k = 2 ∨ k = 3 by omega) with rfl | rfl | rfl | rfl <;> simp [arrTo]
set_option maxHeartbeats 8000000 in
theorem around_any {w : World} {W H x y : Int} {v : Value} {B : List Int} {Bd : Nat} (hI : Ints w Bd v B) (hW : 1 ≤ W ∧ W ≤ 8) (hH : 1 ≤ H ∧ H ≤ 8) (hh : Has ⟨W, H, B⟩ x y) (he : ¬ Knot.Edge ⟨W, H, B⟩ x y) :
    Calls Try.prog 75 #[.agg #[.int .i64 W, .int .i64 H, v], .agg #[.int .i64 x, .int .i64 y]] w fun e w' => e = .returned (.agg (arrTo (fun k => segI ⟨W, H, B⟩ ⟨x, y, dirX k, dirY k⟩) 4)) ∧ Below w.heap.size w w' := by
  obtain ⟨A, cA, rfl, _, _⟩ := hI.open_
  clear hI
  have bl := bnext (Joins.below_alloc3 w (.cells #[.int .i64 W, .int .i64 H, .slice A B.length cA] 28) (.cells #[.int .i64 x, .int .i64 y] 35) (.cells #[.int .i64 0, .int .i64 0, .int .i64 0, .int .i64 0] 90)) (Joins.below_alloc1 _ (.cells #[.int .i64 0, .int .i64 0, .int .i64 0, .int .i64 0] 90))
  have ba := (((Box.new w 28 #[.int .i64 W, .int .i64 H, .slice A B.length cA]).alloc (.cells #[.int .i64 x, .int .i64 y] 35)).alloc (.cells #[.int .i64 0, .int .i64 0, .int .i64 0, .int .i64 0] 90)).alloc (.cells #[.int .i64 0, .int .i64 0, .int .i64 0, .int .i64 0] 90)
  have bb := ((Box.new (w.alloc (.cells #[.int .i64 W, .int .i64 H, .slice A B.length cA] 28)) 35 #[.int .i64 x, .int .i64 y]).alloc (.cells #[.int .i64 0, .int .i64 0, .int .i64 0, .int .i64 0] 90)).alloc (.cells #[.int .i64 0, .int .i64 0, .int .i64 0, .int .i64 0] 90)
  have br := (Box.new ((w.alloc (.cells #[.int .i64 W, .int .i64 H, .slice A B.length cA] 28)).alloc (.cells #[.int .i64 x, .int .i64 y] 35)) 90 #[.int .i64 0, .int .i64 0, .int .i64 0, .int .i64 0]).alloc (.cells #[.int .i64 0, .int .i64 0, .int .i64 0, .int .i64 0] 90)
  have bz := Box.new (((w.alloc (.cells #[.int .i64 W, .int .i64 H, .slice A B.length cA] 28)).alloc (.cells #[.int .i64 x, .int .i64 y] 35)).alloc (.cells #[.int .i64 0, .int .i64 0, .int .i64 0, .int .i64 0] 90)) 90 #[.int .i64 0, .int .i64 0, .int .i64 0, .int .i64 0]
  simp only [World.size_alloc] at bb br bz
  have HW := Lib.hid hW
  have HH := Lib.hid hH
  have HX := Lib.hid hh
  have HE := Lib.hid he
  obtain ⟨s, hs⟩ : ∃ s : Nat → Int, s = fun k => segI ⟨W, H, B⟩ ⟨x, y, dirX k, dirY k⟩ := ⟨_, rfl⟩
  have HS : Hid (∀ k, segI ⟨W, H, B⟩ ⟨x, y, dirX k, dirY k⟩ = s k) := Lib.hid (fun k => by rw [hs])
  rw [← hs]
  clear hs hh he hW hH
  have z0 := bz.cell 0
  have z1 := bz.cell 1
  have z2 := bz.cell 2
  have z3 := bz.cell 3
  have zn := bz.lt
  have y0 := bz.free 0
  have y1 := bz.free 1
  have y2 := bz.free 2
  have y3 := bz.free 3
  simp only [List.getElem?_toArray, List.getElem?_cons_zero, List.getElem?_cons_succ] at z0 z1 z2 z3
  go_enter Try.func75, Try.ntmps75
  go_wp2
  clear z0 z1 z2 z3 zn y0 y1 y2 y3
  have hba := ba
  have hbb := bb
  clear ba bb
  go_loopw [14] (fun i wr => ∃ k : Nat, k ≤ 4 ∧ i = .int .i64 k ∧ Box wr (w.heap.size + 1 + 1 + 1) 90 (arrTo s k) ∧ Box wr (w.heap.size + 1 + 1) 90 #[.int .i64 0, .int .i64 0, .int .i64 0, .int .i64 0] ∧
      Box wr w.heap.size 28 #[.int .i64 W, .int .i64 H, .slice A B.length cA] ∧ Box wr (w.heap.size + 1) 35 #[.int .i64 x, .int .i64 y] ∧ Below w.heap.size w wr ∧ w.heap.size + 1 + 1 + 1 < wr.heap.size) (fun i _ => 4 - (intOf i).toNat)
  case atStart => exact ⟨0, by omega, rfl, bz, br, hba, hbb, bl, bz.lt⟩
  case round =>
    obtain ⟨k, hk, rfl, bz, br, ba, bb, bl, hs⟩ := hrel
    clear hba hbb
    by_cases hlt : k < 4
    · have hix := index_dir k hlt
      have hset := bz.set_ k (.int .i64 (s k))
      rw [arrTo_set s k hlt] at hset
      have cz := bz.cell k
      rw [arrTo_get s k hlt] at cz
      have fz := bz.free k
      have HK := Lib.hid (HS.out k)
      have HD : Hid ((dirX k = 1 ∨ dirX k = -1) ∧ (dirY k = 1 ∨ dirY k = -1)) := Lib.hid (by unfold dirX dirY; constructor <;> split <;> simp)
      generalize dirX k = dx at *
      generalize dirY k = dy at *
      have HOK : Hid (OkW ⟨W, H, B⟩ ⟨x, y, dx, dy⟩) := Lib.hid (inner_okw HX.out HE.out HD.out.1 HD.out.2)
      have bd := Box.new wr 104 #[.int .i64 dx, .int .i64 dy]
      have bl2 := Joins.below_alloc1 wr (.cells #[.int .i64 dx, .int .i64 dy] 104)
      replace ba := ba.below bl2
      replace bb := bb.below bl2
      replace br := br.below bl2
      replace bz := bz.below bl2
      replace bl := bnext bl bl2
      clear hset cz fz
      have p0 := ba.cell 0
      have p1 := ba.cell 1
      have p2 := ba.cell 2
      have pn := ba.lt
      simp only [List.getElem?_toArray, List.getElem?_cons_zero, List.getElem?_cons_succ] at p0 p1 p2
      have q0 := bb.cell 0
      have q1 := bb.cell 1
      have qn := bb.lt
      simp only [List.getElem?_toArray, List.getElem?_cons_zero, List.getElem?_cons_succ] at q0 q1
      have d0 := bd.cell 0
      have d1 := bd.cell 1
      have dn := bd.lt
      simp only [List.getElem?_toArray, List.getElem?_cons_zero, List.getElem?_cons_succ] at d0 d1
      go_wp2_with fail
      refine (segment_any HW.out HH.out HOK.out HK.out).mono ?_
      rintro e w3 ⟨rfl, hb3⟩
      have sz3 := hb3.size
      simp only [World.size_alloc] at sz3
      replace ba := ba.below hb3
      replace bb := bb.below hb3
      replace br := br.below hb3
      replace bz := bz.below hb3
      replace bl := bnext bl hb3
      have cz := bz.cell k
      rw [arrTo_get s k hlt] at cz
      have fz := bz.free k
      have hset := bz.set_ k (.int .i64 (s k))
      rw [arrTo_set s k hlt] at hset
      have ba' := ba.far (p := ⟨w.heap.size + 1 + 1 + 1, k, none⟩) (by show _ ≠ w.heap.size + 1 + 1 + 1; omega) (.int .i64 (s k))
      have bb' := bb.far (p := ⟨w.heap.size + 1 + 1 + 1, k, none⟩) (by show _ ≠ w.heap.size + 1 + 1 + 1; omega) (.int .i64 (s k))
      have br' := br.far (p := ⟨w.heap.size + 1 + 1 + 1, k, none⟩) (by show _ ≠ w.heap.size + 1 + 1 + 1; omega) (.int .i64 (s k))
      have bl' := bl.setCell (p := ⟨w.heap.size + 1 + 1 + 1, k, none⟩) (by show w.heap.size ≤ w.heap.size + 1 + 1 + 1; omega) (.int .i64 (s k))
      have hsz : w.heap.size + 1 + 1 + 1 < (w3.setCell ⟨w.heap.size + 1 + 1 + 1, k, none⟩ (.int .i64 (s k))).heap.size := by simp [World.setCell]; omega
      clear ba bb br bz bl hb3 p0 p1 p2 pn q0 q1 qn d0 d1 dn bd hix
      go_wp2
      go_roundw
      case rel => exact ⟨k + 1, by omega, by go_num, hset, br', ba', bb', bl', hsz⟩
      case measure => simp [intOf]; omega
    · have e : k = 4 := by omega
      subst e
      have e4 : arrTo s 4 = #[.int .i64 (s 0), .int .i64 (s 1), .int .i64 (s 2), .int .i64 (s 3)] := rfl
      rw [e4] at bz
      have z0 := bz.cell 0
      have z1 := bz.cell 1
      have z2 := bz.cell 2
      have z3 := bz.cell 3
      have zn := bz.lt
      simp only [List.getElem?_toArray, List.getElem?_cons_zero, List.getElem?_cons_succ] at z0 z1 z2 z3
      have r0 := br.cell 0
      have r1 := br.cell 1
      have r2 := br.cell 2
      have r3 := br.cell 3
      have rf0 := br.free 0
      have rf1 := br.free 1
      have rf2 := br.free 2
      have rf3 := br.free 3
      have rn := br.lt
      simp only [List.getElem?_toArray, List.getElem?_cons_zero, List.getElem?_cons_succ] at r0 r1 r2 r3
      go_wp2
      refine bodyPost_ret (v := .agg #[.int .i64 (s 0), .int .i64 (s 1), .int .i64 (s 2), .int .i64 (s 3)]) (by simp [results, Try.results75, go_sem, r0, r1, r2, r3, rf0, rf1, rf2, rf3, rn]) rfl ⟨rfl, ?_⟩
      exact (((bl.setCell (p := ⟨w.heap.size + 1 + 1, 0, none⟩) (by show w.heap.size ≤ w.heap.size + 1 + 1; omega) _).setCell (p := ⟨w.heap.size + 1 + 1, 1, none⟩) (by show w.heap.size ≤ w.heap.size + 1 + 1; omega) _).setCell (p := ⟨w.heap.size + 1 + 1, 2, none⟩) (by show w.heap.size ≤ w.heap.size + 1 + 1; omega) _).setCell (p := ⟨w.heap.size + 1 + 1, 3, none⟩) (by show w.heap.size ≤ w.heap.size + 1 + 1; omega) _
end Go.Proofs.Ytmagomiehgcbjaa
