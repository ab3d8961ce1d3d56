/-
  A panel of its own, and with another break.
-/
import Derived.Test.YtihfdgnocdphcaaCut
import Derived.Test.YtihfdgnocdphcaaApp
import Derived.Deep.RegionHeld3
namespace Go.Proofs.Ytihfdgnocdphcaa
open Go.RowKit Knot

theorem cell_b {w w' : World} {p : Addr} {u : Value} (hb : Below w.heap.size w w') (h : w.cell? p = some u) : w'.cell? p = some u := (hb.cell (World.block_lt_of_cell? w _ h)).trans h
theorem cell_f {w : World} {p q : Addr} {u x : Value} (hne : p.block ≠ q.block) (h : w.cell? p = some u) : (w.setCell q x).cell? p = some u := (World.cell?_setCell_far w q p x (Ne.symm hne)).trans h
theorem Box.drew1 {w : World} {k : Nat} {t : TypeId} {cs : Array Value} (h : Box w k t cs) : Box w.drew k t cs := h
theorem IntsIn.at_store {w : World} {lo hi : Nat} {v : Value} {xs : List Int} (h : IntsIn w lo hi v xs) {p : Addr} (hp : p.block < lo) (u : Value) : IntsIn (w.setCell p u) lo hi v xs :=
  ⟨Row.setCell h.1 (fun g hg => by have := (Row.lt h.1 hg).1; omega) u, h.2.1, by have := h.2.2.1; simpa [World.setCell] using this, h.2.2.2⟩
set_option maxHeartbeats 2000000 in
theorem l02Own_any {w : World} {b lo hi : Nat} {W H : Int} {v : Value} {xs : List Int} (hx : Box w b 30 #[.int .i64 W, .int .i64 H, v]) (hp : IntsIn w lo hi v xs) :
    Calls Try.prog 88 #[.pointer (some ⟨b, 0, none⟩)] w fun e w' => ∃ A c, e = .returned (.agg #[.int .i64 W, .int .i64 H, .slice A xs.length c]) ∧
      IntsIn w' w.heap.size w'.heap.size (.slice A xs.length c) xs ∧ Below w.heap.size w w' := by
  obtain ⟨A1, c1, rfl, _, _⟩ := hp.1.open_
  have bl := Joins.below_alloc1 w (.cells #[.int .i64 0, .int .i64 0, .slice none 0 0] 30)
  have ba := hx.alloc (.cells #[.int .i64 0, .int .i64 0, .slice none 0 0] 30)
  have bb := Box.new w 30 #[.int .i64 0, .int .i64 0, .slice none 0 0]
  have hbl := hx.lt
  have hp1 := hp.alloc (.cells #[.int .i64 0, .int .i64 0, .slice none 0 0] 30)
  go_enter Try.func88, Try.ntmps88
  go_wp2
  generalize (w.alloc (.cells #[.int .i64 0, .int .i64 0, .slice none 0 0] 30)) = V at ba bb bl hp1 ⊢
  have q0 := ba.cell 0
  have q1 := ba.cell 1
  have q2 := ba.cell 2
  simp only [List.getElem?_toArray, List.getElem?_cons_zero, List.getElem?_cons_succ] at q0 q1 q2
  have h63 := bb.lt
  have hpd : IntsIn V.drew lo hi (.slice A1 xs.length c1) xs := hp1.below (below_drewN _ V 1)
  have hne : (⟨b, 0, none⟩ : Addr).block ≠ w.heap.size := show b ≠ w.heap.size by omega
  clear ba
  go_region_held3 (fun w' => w'.cell? ⟨b, 0, none⟩ = some (.int .i64 W) ∧ w'.cell? ⟨b, 1, none⟩ = some (.int .i64 H) ∧ w'.cell? ⟨b, 2, none⟩ = some (.slice A1 xs.length c1))
    (first | exact ⟨cell_f hne (cell_f hne (cell_f hne k0)), cell_f hne (cell_f hne (cell_f hne k1)), cell_f hne (cell_f hne (cell_f hne k2))⟩
           | exact ⟨k0, k1, k2⟩
           | exact ⟨q0, q1, q2⟩)
    ((go_at_call 127; (with_reducible refine (l00Own_any hpd).mono ?_); rintro e w5 ⟨D1, d1, rfl, i1, g1⟩; have k0 := cell_b g1 (show (V.drew).cell? ⟨b, 0, none⟩ = _ from q0); have k1 := cell_b g1 (show (V.drew).cell? ⟨b, 1, none⟩ = _ from q1); have k2 := cell_b g1 (show (V.drew).cell? ⟨b, 2, none⟩ = _ from q2); have bx := (Box.drew1 bb).below g1; have x0 := bx.cell 0; have x1 := bx.cell 1; have x2 := bx.cell 2; have y0 := bx.free 0; have y1 := bx.free 1; have y2 := bx.free 2; have xn := bx.lt))
  have sz := g1.size
  have hV := bl.size
  simp only [World.size_drew] at sz
  have B5 : Below w.heap.size w w5 := bl.trans ((below_drewN _ V 1).trans (g1.mono (by simp <;> omega)))
  clear k0 k1 k2 q0 q1 q2
  go_split_ands
  go_wp2
  refine bodyPost_ret (v := .agg #[.int .i64 W, .int .i64 H, .slice D1 xs.length d1]) (by simp [results, Try.results88, go_sem, xn, x0, x1, x2, y0, y1, y2]) rfl ⟨D1, d1, rfl, ?_, ?_⟩
  · exact (((i1.at_store (p := ⟨w.heap.size, 0, none⟩) (by simp <;> omega) _).at_store (p := ⟨w.heap.size, 1, none⟩) (by simp <;> omega) _).at_store (p := ⟨w.heap.size, 2, none⟩) (by simp <;> omega) _).wider (by simp <;> omega) (by simp) (Nat.le_refl _)
  · exact ((B5.setCell (p := ⟨w.heap.size, 0, none⟩) (Nat.le_refl _) _).setCell (p := ⟨w.heap.size, 1, none⟩) (Nat.le_refl _) _).setCell (p := ⟨w.heap.size, 2, none⟩) (Nat.le_refl _) _
theorem IntsIn.put {w : World} {lo hi g n c : Nat} {xs : List Int} (h : IntsIn w lo hi (.slice (some ⟨g, 0, none⟩) n c) xs) (k : Nat) (x : Int) : IntsIn (w.setCell ⟨g, k, none⟩ (.int .i64 x)) lo hi (.slice (some ⟨g, 0, none⟩) n c) (xs.set k x) :=
  ⟨Row.set_ h.1 k x, h.2.1, by have := h.2.2.1; simpa [World.setCell] using this, by rw [List.length_set]; exact h.2.2.2⟩
set_option maxHeartbeats 4000000 in
theorem clonePanel_any {w : World} {lo hi : Nat} {W H : Int} {v : Value} {xs : List Int} (hp : IntsIn w lo hi v xs) :
    Calls Try.prog 91 #[.agg #[.int .i64 W, .int .i64 H, v]] w fun e w' => ∃ A c, e = .returned (.agg #[.int .i64 W, .int .i64 H, .slice A xs.length c]) ∧
      IntsIn w' w.heap.size w'.heap.size (.slice A xs.length c) xs ∧ Below w.heap.size w w' := by
  obtain ⟨A1, c1, rfl, _, _⟩ := hp.1.open_
  have bl := Joins.below_alloc2 w (.cells #[.int .i64 W, .int .i64 H, .slice A1 xs.length c1] 30) (.cells #[.int .i64 0, .int .i64 0, .slice none 0 0] 30)
  have ba := (Box.new w 30 #[.int .i64 W, .int .i64 H, .slice A1 xs.length c1]).alloc (.cells #[.int .i64 0, .int .i64 0, .slice none 0 0] 30)
  have br := Box.new (w.alloc (.cells #[.int .i64 W, .int .i64 H, .slice A1 xs.length c1] 30)) 30 #[.int .i64 0, .int .i64 0, .slice none 0 0]
  rw [World.size_alloc] at br
  have hp1 := hp.below bl
  have q0 := ba.cell 0
  have q1 := ba.cell 1
  have q2 := ba.cell 2
  have qn := ba.lt
  simp only [List.getElem?_toArray, List.getElem?_cons_zero, List.getElem?_cons_succ] at q0 q1 q2
  go_enter Try.func91, Try.ntmps91
  go_wp2_with fail
  refine (Clone_any hp1).mono ?_
  rintro e w2 ⟨D, d, rfl, i1, hb⟩
  have sz := hb.size
  simp only [World.size_alloc] at sz i1
  replace ba := ba.below hb
  replace br := br.below hb
  replace bl := bnext bl hb
  clear hb q0 q1 q2 qn hp hp1
  have q0 := ba.cell 0
  have q1 := ba.cell 1
  have q2 := ba.cell 2
  have qf0 := ba.free 0
  have qf1 := ba.free 1
  have qf2 := ba.free 2
  have qn := ba.lt
  simp only [List.getElem?_toArray, List.getElem?_cons_zero, List.getElem?_cons_succ] at q0 q1 q2
  have r0 := br.cell 0
  have r1 := br.cell 1
  have r2 := br.cell 2
  have rf0 := br.free 0
  have rf1 := br.free 1
  have rf2 := br.free 2
  have rn := br.lt
  simp only [List.getElem?_toArray, List.getElem?_cons_zero, List.getElem?_cons_succ] at r0 r1 r2
  have k1 : (w.heap.size = w.heap.size + 1) = False := by simp
  have k2 : (w.heap.size + 1 = w.heap.size) = False := by simp
  go_wp2
  refine bodyPost_ret (v := .agg #[.int .i64 W, .int .i64 H, .slice D xs.length d]) (by simp [results, Try.results91, go_sem, r0, r1, r2, rf0, rf1, rf2, rn]) rfl ⟨D, d, rfl, ?_, ?_⟩
  · exact ((((i1.at_store (p := ⟨w.heap.size, 2, none⟩) (by simp <;> omega) _).at_store (p := ⟨w.heap.size + 1, 0, none⟩) (by simp <;> omega) _).at_store (p := ⟨w.heap.size + 1, 1, none⟩) (by simp <;> omega) _).at_store (p := ⟨w.heap.size + 1, 2, none⟩) (by simp <;> omega) _).wider (by omega) (by simp) (Nat.le_refl _)
  · exact (((bl.setCell (p := ⟨w.heap.size, 2, none⟩) (by simp) _).setCell (p := ⟨w.heap.size + 1, 0, none⟩) (by simp) _).setCell (p := ⟨w.heap.size + 1, 1, none⟩) (by simp) _).setCell (p := ⟨w.heap.size + 1, 2, none⟩) (by simp) _
end Go.Proofs.Ytihfdgnocdphcaa
