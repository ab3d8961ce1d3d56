/-
  The number of the segment of a walker, by the program.
-/
import Derived.Test.YtihfdgnocdphcaaSeg
import Derived.Test.YtihfdgnocdphcaaPoint
namespace Go.Proofs.Ytihfdgnocdphcaa
open Go.RowKit Knot

theorem okW_bd {W H x y dx dy : Int} {B : List Int} (h : OkW ⟨W, H, B⟩ ⟨x, y, dx, dy⟩) (hW : 1 ≤ W ∧ W ≤ 8) (hH : 1 ≤ H ∧ H ≤ 8) :
    (0 ≤ x ∧ x ≤ 16) ∧ (0 ≤ y ∧ y ≤ 16) ∧ (dx = 1 ∨ dx = -1) ∧ (dy = 1 ∨ dy = -1) ∧ (0 ≤ x + dx ∧ x + dx ≤ 16) ∧ (0 ≤ y + dy ∧ y + dy ≤ 16) ∧ (0 ≤ min x (x + dx) ∧ min x (x + dx) ≤ 15) ∧ (0 ≤ min y (y + dy) ∧ min y (y + dy) ≤ 15) := by
  obtain ⟨h1, h2, ⟨a1, a2, a3, a4, a5⟩, ⟨b1, b2, b3, b4, b5⟩⟩ := h
  simp only [] at *
  omega
theorem mul_bd {m H : Int} (hm : 0 ≤ m ∧ m ≤ 16) (hH : 1 ≤ H ∧ H ≤ 8) : 0 ≤ m * 2 * H ∧ m * 2 * H ≤ 256 := by
  obtain ⟨m1, m2⟩ := hm
  rcases eight_cases hH.1 hH.2 with rfl | rfl | rfl | rfl | rfl | rfl | rfl | rfl <;> omega
theorem w64 {z : Int} (h : 0 ≤ z ∧ z ≤ 1000000) : wrap64 z = z := by unfold wrap64; omega
theorem wrap2 {a b : Int} (ha : 0 ≤ a ∧ a ≤ 300) (hb : 0 ≤ b ∧ b ≤ 300) : wrap64 (wrap64 a + b) = a + b := by rw [w64 (z := a) (by omega), w64 (z := a + b) (by omega)]
set_option maxHeartbeats 4000000 in
theorem segment_any {w : World} {W H x y dx dy r : Int} {A : Option Addr} {n c : Nat} {B : List Int} (hW : 1 ≤ W ∧ W ≤ 8) (hH : 1 ≤ H ∧ H ≤ 8) (hk : OkW ⟨W, H, B⟩ ⟨x, y, dx, dy⟩) (hr : segI ⟨W, H, B⟩ ⟨x, y, dx, dy⟩ = r) :
    Calls Try.prog 143 #[.agg #[.int .i64 W, .int .i64 H, .slice A n c], .agg #[.int .i64 x, .int .i64 y, .int .i64 dx, .int .i64 dy]] w fun e w' => e = .returned (.int .i64 r) ∧ Below w.heap.size w w' := by
  have bl := Joins.below_alloc2 w (.cells #[.int .i64 W, .int .i64 H, .slice A n c] 30) (.cells #[.int .i64 x, .int .i64 y, .int .i64 dx, .int .i64 dy] 134)
  have ba := (Box.new w 30 #[.int .i64 W, .int .i64 H, .slice A n c]).alloc (.cells #[.int .i64 x, .int .i64 y, .int .i64 dx, .int .i64 dy] 134)
  have bb := Box.new (w.alloc (.cells #[.int .i64 W, .int .i64 H, .slice A n c] 30)) 134 #[.int .i64 x, .int .i64 y, .int .i64 dx, .int .i64 dy]
  rw [World.size_alloc] at bb
  obtain ⟨hx, hy, hdx, hdy, hx2, hy2, hm1, hm2⟩ := okW_bd hk hW hH
  obtain ⟨m1, e1⟩ : ∃ m1, min x (x + dx) = m1 := ⟨_, rfl⟩
  obtain ⟨m2, e2⟩ : ∃ m2, min y (y + dy) = m2 := ⟨_, rfl⟩
  have hb := mul_bd (m := x) hx hH
  have hc := mul_bd (m := x + dx) hx2 hH
  have HR : Hid (m1 * 2 * H + m2 = r) := Lib.hid (by
    rw [← hr]
    unfold segI
    simp only []
    rw [e1, e2, Int.mul_assoc])
  have HN : Hid ((0 ≤ x ∧ x ≤ 2000000) ∧ (0 ≤ y ∧ y ≤ 2000000) ∧ (dx = 1 ∨ dx = -1) ∧ (dy = 1 ∨ dy = -1)) := Lib.hid ⟨⟨hx.1, by omega⟩, ⟨hy.1, by omega⟩, hdx, hdy⟩
  clear hr hk hdx hdy
  have p0 := bb.cell 0
  have p1 := bb.cell 1
  have p2 := bb.cell 2
  have p3 := bb.cell 3
  have pn := bb.lt
  simp only [List.getElem?_toArray, List.getElem?_cons_zero, List.getElem?_cons_succ] at p0 p1 p2 p3
  go_enter Try.func143, Try.ntmps143
  go_wp2_with fail
  refine (next_any HN.out).mono ?_
  rintro e w2 ⟨rfl, hb2⟩
  replace ba := (ba.below hb2).alloc (.cells #[.int .i64 (x + dx), .int .i64 (y + dy)] 36)
  replace bb := (bb.below hb2).alloc (.cells #[.int .i64 (x + dx), .int .i64 (y + dy)] 36)
  have bc := Box.new w2 36 #[.int .i64 (x + dx), .int .i64 (y + dy)]
  replace bl := bnext (bnext bl hb2) (Joins.below_alloc1 _ (.cells #[.int .i64 (x + dx), .int .i64 (y + dy)] 36))
  clear p0 p1 p2 p3 pn hb2
  have p0 := bb.cell 0
  have p1 := bb.cell 1
  have pn := bb.lt
  have q0 := ba.cell 0
  have q1 := ba.cell 1
  have qn := ba.lt
  have s0 := bc.cell 0
  have s1 := bc.cell 1
  have sn := bc.lt
  simp only [List.getElem?_toArray, List.getElem?_cons_zero, List.getElem?_cons_succ] at p0 p1 q0 q1 s0 s1
  obtain ⟨b1, b2⟩ := hb
  obtain ⟨b3, b4⟩ := hc
  obtain ⟨c1, c2⟩ := hx
  obtain ⟨c3, c4⟩ := hy
  obtain ⟨c5, c6⟩ := hx2
  obtain ⟨c7, c8⟩ := hy2
  clear ba bb bc hm1 hm2
  have E1 := Lib.hid e1
  have E2 := Lib.hid e2
  clear e1 e2
  go_wp2
  all_goals
    have e1 := E1.out
    have e2 := E2.out
    go_ret
    refine ⟨ret_int ?_, bl⟩
    rw [← HR.out]
    first
      | (have e3 : m1 = x := by omega
         have e4 : m2 = y := by omega
         rw [e3, e4]
         exact wrap2 (by omega) (by omega))
      | (have e3 : m1 = x := by omega
         have e4 : m2 = y + dy := by omega
         rw [e3, e4]
         exact wrap2 (by omega) (by omega))
      | (have e3 : m1 = x + dx := by omega
         have e4 : m2 = y := by omega
         rw [e3, e4]
         exact wrap2 (by omega) (by omega))
      | (have e3 : m1 = x + dx := by omega
         have e4 : m2 = y + dy := by omega
         rw [e3, e4]
         exact wrap2 (by omega) (by omega))
end Go.Proofs.Ytihfdgnocdphcaa
