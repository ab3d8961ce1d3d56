/-
  The number of the segment of a walker, by the reference.
-/
import Derived.Test.YtihfdgnocdphcaaSegB
namespace Go.Proofs.Ytihfdgnocdphcaa
open Go.RowKit Knot

/-- The left end of a walker's segment, and the Y at its right end. -/
def leftI (x y dx dy : Int) : Int × Int × Int := if dx = 1 then (x, y, y + dy) else (x + dx, y + dy, y)
set_option maxHeartbeats 4000000 in
theorem l03Left_any {w : World} {x y dx dy a b d : Int} (HN : Hid ((0 ≤ x ∧ x ≤ 2000000) ∧ (0 ≤ y ∧ y ≤ 2000000) ∧ (dx = 1 ∨ dx = -1) ∧ (dy = 1 ∨ dy = -1))) (hr : leftI x y dx dy = (a, b, d)) :
    Calls Try.prog 166 #[.agg #[.int .i64 x, .int .i64 y, .int .i64 dx, .int .i64 dy]] w fun e w' => e = .returned (.tuple #[.agg #[.int .i64 a, .int .i64 b], .int .i64 d]) ∧ Below w.heap.size w w' := by
  have bl := Joins.below_alloc2 w (.cells #[.int .i64 x, .int .i64 y, .int .i64 dx, .int .i64 dy] 134) (.cells #[.int .i64 0, .int .i64 0] 36)
  have bb := (Box.new w 134 #[.int .i64 x, .int .i64 y, .int .i64 dx, .int .i64 dy]).alloc (.cells #[.int .i64 0, .int .i64 0] 36)
  have br := Box.new (w.alloc (.cells #[.int .i64 x, .int .i64 y, .int .i64 dx, .int .i64 dy] 134)) 36 #[.int .i64 0, .int .i64 0]
  rw [World.size_alloc] at br
  have p0 := bb.cell 0
  have p1 := bb.cell 1
  have p2 := bb.cell 2
  have p3 := bb.cell 3
  have pn := bb.lt
  simp only [List.getElem?_toArray, List.getElem?_cons_zero, List.getElem?_cons_succ] at p0 p1 p2 p3
  by_cases hd : dx = 1
  · obtain ⟨rfl, rfl, rfl⟩ : x = a ∧ y = b ∧ y + dy = d := by simpa [leftI, hd] using hr
    have t1 : (dx == 1) = true := eqb_t hd
    clear hd hr
    go_enter Try.func166, Try.ntmps166
    go_wp2_with fail
    refine (l03Next_any HN.out).mono ?_
    rintro e w2 ⟨rfl, hb2⟩
    have sz2 := hb2.size
    simp only [World.size_alloc] at sz2
    replace br := (br.below hb2).alloc (.cells #[.int .i64 (x + dx), .int .i64 (y + dy)] 36)
    replace bb := (bb.below hb2).alloc (.cells #[.int .i64 (x + dx), .int .i64 (y + dy)] 36)
    have bc := Box.new w2 36 #[.int .i64 (x + dx), .int .i64 (y + dy)]
    replace bl := bnext (bnext bl hb2) (Joins.below_alloc1 _ (.cells #[.int .i64 (x + dx), .int .i64 (y + dy)] 36))
    clear p0 p1 p2 p3 pn hb2
    have p0 := bb.cell 0
    have p1 := bb.cell 1
    have p2 := bb.cell 2
    have pn := bb.lt
    simp only [List.getElem?_toArray, List.getElem?_cons_zero, List.getElem?_cons_succ] at p0 p1 p2
    go_wp2
    generalize (w2.alloc (.cells #[.int .i64 (x + dx), .int .i64 (y + dy)] 36)) = V at *
    have s0 := bc.cell 0
    have s1 := bc.cell 1
    have sn := bc.lt
    have x0 := br.cell 0
    have x1 := br.cell 1
    have y0 := br.free 0
    have y1 := br.free 1
    have xn := br.lt
    simp only [List.getElem?_toArray, List.getElem?_cons_zero, List.getElem?_cons_succ] at s0 s1 x0 x1
    clear bb br bc
    have ne1 : (w.heap.size + 1 = w2.heap.size) = False := by simp; omega
    have ne2 : (w2.heap.size = w.heap.size + 1) = False := by simp; omega
    go_region
    go_wp2
    refine bodyPost_ret (v := .tuple #[.agg #[.int .i64 x, .int .i64 y], .int .i64 (y + dy)]) (by simp [results, Try.results166, go_sem, x0, x1, y0, y1, xn]) rfl ⟨rfl, ?_⟩
    exact ((bl.setCell (p := ⟨w.heap.size + 1, 0, none⟩) (by simp) _).setCell (p := ⟨w.heap.size + 1, 1, none⟩) (by simp) _).trans (below_drewN _ _ 1)
  · obtain ⟨rfl, rfl, rfl⟩ : x + dx = a ∧ y + dy = b ∧ y = d := by simpa [leftI, hd] using hr
    have t1 : (dx == 1) = false := eqb_f hd
    clear hd hr
    go_enter Try.func166, Try.ntmps166
    go_wp2_with fail
    refine (l03Next_any HN.out).mono ?_
    rintro e w2 ⟨rfl, hb2⟩
    have sz2 := hb2.size
    simp only [World.size_alloc] at sz2
    replace br := (br.below hb2).alloc (.cells #[.int .i64 (x + dx), .int .i64 (y + dy)] 36)
    replace bb := (bb.below hb2).alloc (.cells #[.int .i64 (x + dx), .int .i64 (y + dy)] 36)
    have bc := Box.new w2 36 #[.int .i64 (x + dx), .int .i64 (y + dy)]
    replace bl := bnext (bnext bl hb2) (Joins.below_alloc1 _ (.cells #[.int .i64 (x + dx), .int .i64 (y + dy)] 36))
    clear p0 p1 p2 p3 pn hb2
    have p0 := bb.cell 0
    have p1 := bb.cell 1
    have p2 := bb.cell 2
    have pn := bb.lt
    simp only [List.getElem?_toArray, List.getElem?_cons_zero, List.getElem?_cons_succ] at p0 p1 p2
    go_wp2
    generalize (w2.alloc (.cells #[.int .i64 (x + dx), .int .i64 (y + dy)] 36)) = V at *
    have s0 := bc.cell 0
    have s1 := bc.cell 1
    have sn := bc.lt
    have x0 := br.cell 0
    have x1 := br.cell 1
    have y0 := br.free 0
    have y1 := br.free 1
    have xn := br.lt
    simp only [List.getElem?_toArray, List.getElem?_cons_zero, List.getElem?_cons_succ] at s0 s1 x0 x1
    clear bb br bc
    have ne1 : (w.heap.size + 1 = w2.heap.size) = False := by simp; omega
    have ne2 : (w2.heap.size = w.heap.size + 1) = False := by simp; omega
    go_region
    go_wp2
    refine bodyPost_ret (v := .tuple #[.agg #[.int .i64 (x + dx), .int .i64 (y + dy)], .int .i64 y]) (by simp [results, Try.results166, go_sem, x0, x1, y0, y1, xn]) rfl ⟨rfl, ?_⟩
    exact ((bl.setCell (p := ⟨w.heap.size + 1, 0, none⟩) (by simp) _).setCell (p := ⟨w.heap.size + 1, 1, none⟩) (by simp) _).trans (below_drewN _ _ 1)
set_option maxHeartbeats 4000000 in
theorem l03Segment_any {w : World} {b : Nat} {W H x y dx dy r : Int} {v : Value} {B : List Int} (ba : Box w b 30 #[.int .i64 W, .int .i64 H, v]) (hW : 1 ≤ W ∧ W ≤ 8) (hH : 1 ≤ H ∧ H ≤ 8) (hk : OkW ⟨W, H, B⟩ ⟨x, y, dx, dy⟩) (hr : segI ⟨W, H, B⟩ ⟨x, y, dx, dy⟩ = r) :
    Calls Try.prog 156 #[.pointer (some ⟨b, 0, none⟩), .agg #[.int .i64 x, .int .i64 y, .int .i64 dx, .int .i64 dy]] w fun e w' => e = .returned (.int .i64 r) ∧ Below w.heap.size w w' := by
  have bl := Joins.below_alloc1 w (.cells #[.int .i64 x, .int .i64 y, .int .i64 dx, .int .i64 dy] 134)
  replace ba := ba.alloc (.cells #[.int .i64 x, .int .i64 y, .int .i64 dx, .int .i64 dy] 134)
  have bb := Box.new w 134 #[.int .i64 x, .int .i64 y, .int .i64 dx, .int .i64 dy]
  obtain ⟨hx, hy, hdx, hdy, hx2, hy2, hm1, hm2⟩ := okW_bd hk hW hH
  have HN : Hid ((0 ≤ x ∧ x ≤ 2000000) ∧ (0 ≤ y ∧ y ≤ 2000000) ∧ (dx = 1 ∨ dx = -1) ∧ (dy = 1 ∨ dy = -1)) := Lib.hid ⟨⟨hx.1, by omega⟩, ⟨hy.1, by omega⟩, hdx, hdy⟩
  obtain ⟨a, c, d, hl⟩ : ∃ a c d, leftI x y dx dy = (a, c, d) := ⟨_, _, _, rfl⟩
  have HL := Lib.hid hl
  have hac : (0 ≤ a ∧ a ≤ 16) ∧ (0 ≤ c ∧ c ≤ 16) ∧ (0 ≤ d ∧ d ≤ 16) ∧ (c < d → a * 2 * H + c - 1 + 1 = r) ∧ (¬ c < d → a * 2 * H + c - 1 = r) := by
    unfold segI at hr
    simp only [] at hr
    unfold leftI at hl
    rcases hdx with rfl | rfl <;> rcases hdy with rfl | rfl <;> simp at hl <;> obtain ⟨rfl, rfl, rfl⟩ := hl <;> rw [Int.mul_assoc] <;> simp only [Int.add_neg_one] at * <;> refine ⟨by omega, by omega, by omega, fun h => ?_, fun h => ?_⟩ <;> first | omega | (rw [← hr]; omega) | (rw [← hr]; congr 1; omega) | (rw [← hr, Int.min_eq_left (by omega), Int.min_eq_left (by omega)]; omega) | (rw [← hr, Int.min_eq_left (by omega), Int.min_eq_right (by omega)]; omega) | (rw [← hr, Int.min_eq_right (by omega), Int.min_eq_left (by omega)]; omega) | (rw [← hr, Int.min_eq_right (by omega), Int.min_eq_right (by omega)]; omega)
  obtain ⟨⟨a0, a16⟩, ⟨c0, c16⟩, ⟨d0, d16⟩, hlt, hge⟩ := hac
  have hb := mul_bd (m := a) ⟨a0, a16⟩ hH
  obtain ⟨b1, b2⟩ := hb
  have p0 := bb.cell 0
  have p1 := bb.cell 1
  have p2 := bb.cell 2
  have p3 := bb.cell 3
  have pn := bb.lt
  simp only [List.getElem?_toArray, List.getElem?_cons_zero, List.getElem?_cons_succ] at p0 p1 p2 p3
  clear hr hk hdx hdy hx hy hx2 hy2 hm1 hm2 hl
  by_cases hcd : c < d
  · have HEQ := Lib.hid (hlt hcd)
    clear hlt hge
    go_enter Try.func156, Try.ntmps156
    go_wp2_with fail
    refine (l03Left_any HN HL.out).mono ?_
    rintro e w2 ⟨rfl, hb2⟩
    replace ba := (ba.below hb2).alloc (.cells #[.int .i64 a, .int .i64 c] 36)
    have bc := Box.new w2 36 #[.int .i64 a, .int .i64 c]
    replace bl := bnext (bnext bl hb2) (Joins.below_alloc1 _ (.cells #[.int .i64 a, .int .i64 c] 36))
    clear p0 p1 p2 p3 pn hb2 bb
    go_wp2
    generalize (w2.alloc (.cells #[.int .i64 a, .int .i64 c] 36)) = V at *
    have q0 := ba.cell 0
    have q1 := ba.cell 1
    have qn := ba.lt
    have s0 := bc.cell 0
    have s1 := bc.cell 1
    have sn := bc.lt
    simp only [List.getElem?_toArray, List.getElem?_cons_zero, List.getElem?_cons_succ] at q0 q1 s0 s1
    clear ba bc
    go_quiet (fail)
    go_wp2
    go_ret
    exact ⟨ret_int (by have := HEQ.out; omega), bl.trans (below_drewN _ _ _)⟩
  · have HEQ := Lib.hid (hge hcd)
    clear hlt hge
    go_enter Try.func156, Try.ntmps156
    go_wp2_with fail
    refine (l03Left_any HN HL.out).mono ?_
    rintro e w2 ⟨rfl, hb2⟩
    replace ba := (ba.below hb2).alloc (.cells #[.int .i64 a, .int .i64 c] 36)
    have bc := Box.new w2 36 #[.int .i64 a, .int .i64 c]
    replace bl := bnext (bnext bl hb2) (Joins.below_alloc1 _ (.cells #[.int .i64 a, .int .i64 c] 36))
    clear p0 p1 p2 p3 pn hb2 bb
    go_wp2
    generalize (w2.alloc (.cells #[.int .i64 a, .int .i64 c] 36)) = V at *
    have q0 := ba.cell 0
    have q1 := ba.cell 1
    have qn := ba.lt
    have s0 := bc.cell 0
    have s1 := bc.cell 1
    have sn := bc.lt
    simp only [List.getElem?_toArray, List.getElem?_cons_zero, List.getElem?_cons_succ] at q0 q1 s0 s1
    clear ba bc
    go_quiet (fail)
    go_wp2
    go_ret
    exact ⟨ret_int (by have := HEQ.out; omega), bl.trans (below_drewN _ _ _)⟩
end Go.Proofs.Ytihfdgnocdphcaa
