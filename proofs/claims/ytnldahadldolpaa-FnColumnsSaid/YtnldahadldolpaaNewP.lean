/-
  New panels without breaks, by the reference.
-/
import Derived.Test.YtnldahadldolpaaOwn
import Derived.Test.YtnldahadldolpaaVal
namespace Go.Proofs.Ytnldahadldolpaa
open Go.RowKit Knot

set_option maxHeartbeats 2000000 in
theorem l02New_any {w : World} {x y : Int} {n : Nat} (hx : 1 ≤ x ∧ x ≤ 8) (hy : 1 ≤ y ∧ y ≤ 8) (hn : inner x y = n) :
    Calls Try.prog 97 #[.int .i64 x, .int .i64 y] w fun e w' => ∃ g, e = .returned (.agg #[.int .i64 x, .int .i64 y, .slice (some ⟨g, 0, none⟩) n n]) ∧
      IntsIn w' w.heap.size w'.heap.size (.slice (some ⟨g, 0, none⟩) n n) (List.replicate n 0) ∧ Below w.heap.size w w' := by
  obtain ⟨i0, hi, hz0, hz1, hz2⟩ := info_parts info_int
  have hb := inner_bd hx.1 hx.2 hy.1 hy.2
  have hn2 : n ≤ 200 := by unfold inner at hn; omega
  have HN := Lib.hid hn
  have bl := Joins.below_alloc1 w (.cells #[.int .i64 0, .int .i64 0, .slice none 0 0] 41)
  have br := Box.new w 41 #[.int .i64 0, .int .i64 0, .slice none 0 0]
  have HX := Lib.hid hx
  have HY := Lib.hid hy
  clear hn hb hx hy
  go_enter Try.func97, Try.ntmps97
  go_wp2_with fail
  refine (l02Inner_any x y HX.out.1 HX.out.2 HY.out.1 HY.out.2 _).mono ?_
  rintro e w' ⟨rfl, rfl⟩
  rw [HN.out]
  go_wp2_with (at_make; refine wpList_make_full _ rfl _ _ 22 rfl (w.heap.size + 1) 2 i0 (.int .i64 0) 1 Try.underlying22 hi hz0 hz1 _ _ _ _ n rfl rfl (by omega) (by omega) (by rw [hz2]; omega) (by unfold maxLen; omega) (by rw [World.size_alloc]; omega) ?_)
  intro w1 hown hgrow
  have hb1 : Below (w.heap.size + 1) (w.alloc (.cells #[.int .i64 0, .int .i64 0, .slice none 0 0] 41)) w1 := (Below.refl _ _).grown hgrow (by rw [World.size_alloc]; omega) (by simp)
  have H1 : Ints w1 (w.heap.size + 1) (.slice (some ⟨w.heap.size + 1, 0, none⟩) n n) (List.replicate n 0) := by
    unfold Ints Row
    rw [List.length_replicate, List.map_replicate]
    simpa [Value.cells, toList_madeCells_one] using hown
  have I1 := IntsIn.ofInts H1 (by simp; omega)
  replace br : Box w1 w.heap.size 41 #[.int .i64 0, .int .i64 0, .slice none 0 0] := (hb1.block _ (by omega)).trans br
  replace bl := bl.trans (hb1.mono (by omega))
  clear hown hgrow H1 hb1 hi hz0 hz1 hz2
  have x0 := br.cell 0
  have x1 := br.cell 1
  have x2 := br.cell 2
  have y0 := br.free 0
  have y1 := br.free 1
  have y2 := br.free 2
  have xn := br.lt
  go_wp2
  refine bodyPost_ret (v := .agg #[.int .i64 x, .int .i64 y, .slice (some ⟨w.heap.size + 1, 0, none⟩) n n]) (by simp [results, Try.results97, go_sem, x0, x1, x2, y0, y1, y2, xn]) rfl ⟨w.heap.size + 1, rfl, ?_, ?_⟩
  · exact (((I1.at_store (p := ⟨w.heap.size, 0, none⟩) (by simp) _).at_store (p := ⟨w.heap.size, 1, none⟩) (by simp) _).at_store (p := ⟨w.heap.size, 2, none⟩) (by simp) _).wider (by omega) (by simp) (Nat.le_refl _)
  · exact ((bl.setCell (p := ⟨w.heap.size, 0, none⟩) (Nat.le_refl _) _).setCell (p := ⟨w.heap.size, 1, none⟩) (Nat.le_refl _) _).setCell (p := ⟨w.heap.size, 2, none⟩) (Nat.le_refl _) _

theorem IntsIn.at3 {w : World} {lo hi : Nat} {v : Value} {xs : List Int} (h : IntsIn w lo hi v xs) {p q r : Addr} (hp : p.block < lo) (hq : q.block < lo) (hr : r.block < lo) (a b c : Value) : IntsIn (((w.setCell p a).setCell q b).setCell r c) lo hi v xs :=
  ((h.at_store hp a).at_store hq b).at_store hr c
end Go.Proofs.Ytnldahadldolpaa
