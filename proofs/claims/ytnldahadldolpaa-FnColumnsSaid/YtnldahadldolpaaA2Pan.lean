/-
  A valid panel as the reference draws it for the great laws.
-/
import Derived.Test.YtnldahadldolpaaPanD
import Derived.Test.YtnldahadldolpaaCut
import Derived.Test.YtnldahadldolpaaSame
namespace Go.Proofs.Ytnldahadldolpaa
open Go.RowKit Knot

set_option maxHeartbeats 2000000 in
theorem A2Panel_any {w : World} {a : Option Addr} {len cap : Nat} {zs : List Int} (h : IsRow .u8 w a len cap zs) :
    Calls Try.prog 49 #[.slice a len cap] w fun e w' => ∃ (W H : Int) (g : Nat) (B : List Int), e = .returned (.agg #[.int .i64 W, .int .i64 H, .slice (some ⟨g, 0, none⟩) B.length B.length]) ∧ Ok ⟨W, H, B⟩ ∧
      IntsIn w' w.heap.size w'.heap.size (.slice (some ⟨g, 0, none⟩) B.length B.length) B ∧ Below w.heap.size w w' := by
  have bl := Joins.below_alloc1 w (.cells #[.int .i64 0, .int .i64 0, .slice none 0 0] 41)
  have r1 := Box.new w 41 #[.int .i64 0, .int .i64 0, .slice none 0 0]
  have h1 := h.below bl
  clear h
  go_enter Try.func49, Try.ntmps49
  go_wp2_with fail
  refine (src_from h1).mono ?_
  rintro e w1 ⟨rfl, hS, s1, hb1⟩
  simp only [World.size_alloc] at hS s1
  obtain ⟨b, hb⟩ : ∃ b, w.heap.size + 1 = b := ⟨_, rfl⟩
  rw [hb] at hS s1
  simp only [World.size_alloc, hb]
  replace r1 := r1.below hb1
  replace bl := bnext bl hb1
  clear h1 hb1
  go_wp2_with fail
  refine (l02Draw_any hS (by omega) (by omega) (by omega)).mono ?_
  rintro e w2 ⟨W, H, g, B, rfl, hok, _, hI, hS2, hc2⟩
  have s2 := hc2.size
  replace r1 := r1.chg hc2 (by omega)
  replace bl := bl.trans (hc2.toBelow (B := w.heap.size) (by omega) (by omega))
  have g0 := (Row.lt hI.1 (g := g) rfl).1
  have g1 := (Row.lt hI.1 (g := g) rfl).2
  have c0 := r1.cell 0
  have c1 := r1.cell 1
  have c2 := r1.cell 2
  have f0 := r1.free 0
  have f1 := r1.free 1
  have f2 := r1.free 2
  have ln := r1.lt
  simp only [List.getElem?_toArray, List.getElem?_cons_zero, List.getElem?_cons_succ] at c0 c1 c2
  have HP := Lib.hid hok
  have HF : Hid (IntsIn (((w2.setCell ⟨w.heap.size, 0, none⟩ (.int .i64 W)).setCell ⟨w.heap.size, 1, none⟩ (.int .i64 H)).setCell ⟨w.heap.size, 2, none⟩ (.slice (some ⟨g, 0, none⟩) B.length B.length)) w.heap.size (((w2.setCell ⟨w.heap.size, 0, none⟩ (.int .i64 W)).setCell ⟨w.heap.size, 1, none⟩ (.int .i64 H)).setCell ⟨w.heap.size, 2, none⟩ (.slice (some ⟨g, 0, none⟩) B.length B.length)).heap.size (.slice (some ⟨g, 0, none⟩) B.length B.length) B) := Lib.hid (by
    have hne : ∀ g' : Nat, (Value.slice (some ⟨g, 0, none⟩) B.length B.length).ownBlock = some g' → g' ≠ w.heap.size := fun g' hg' => by rw [ownBlock_slice] at hg'; injection hg' with hg'; omega
    exact ⟨Row.le (Row.setCell (Row.setCell (Row.setCell hI.1 (p := ⟨w.heap.size, 0, none⟩) hne _) (p := ⟨w.heap.size, 1, none⟩) hne _) (p := ⟨w.heap.size, 2, none⟩) hne _) (by omega), fun k hk => by rw [ownBlock_slice] at hk; injection hk with hk; simp only [World.size_setCell]; omega, Nat.le_refl _, hI.len⟩)
  have HB : Hid (Below w.heap.size w (((w2.setCell ⟨w.heap.size, 0, none⟩ (.int .i64 W)).setCell ⟨w.heap.size, 1, none⟩ (.int .i64 H)).setCell ⟨w.heap.size, 2, none⟩ (.slice (some ⟨g, 0, none⟩) B.length B.length))) := Lib.hid (((bl.setCell (p := ⟨w.heap.size, 0, none⟩) (Nat.le_refl _) _).setCell (p := ⟨w.heap.size, 1, none⟩) (Nat.le_refl _) _).setCell (p := ⟨w.heap.size, 2, none⟩) (Nat.le_refl _) _)
  clear hok hI hS hS2 hc2 r1 bl
  go_wp2_with fail
  refine bodyPost_ret (v := .agg #[.int .i64 W, .int .i64 H, .slice (some ⟨g, 0, none⟩) B.length B.length]) ?_ rfl ?_
  · simp [results, Try.results49, go_sem, ln, c0, c1, c2]
  · exact ⟨W, H, g, B, rfl, HP.out, HF.out, HB.out⟩
end Go.Proofs.Ytnldahadldolpaa
