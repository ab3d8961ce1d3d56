/-
  A panel of its own, and with another break.
-/
import Derived.Test.YtnldahadldolpaaCut
import Derived.Test.YtnldahadldolpaaApp
import Derived.Deep.RegionHeld3
namespace Go.Proofs.Ytnldahadldolpaa
open Go.RowKit Knot

theorem cell_b {w w' : World} {p : Addr} {u : Value} (hb : Below w.heap.size w w') (h : w.cell? p = some u) : w'.cell? p = some u := (hb.cell (World.block_lt_of_cell? w _ h)).trans h
theorem cell_f {w : World} {p q : Addr} {u x : Value} (hne : p.block ≠ q.block) (h : w.cell? p = some u) : (w.setCell q x).cell? p = some u := (World.cell?_setCell_far w q p x (Ne.symm hne)).trans h
theorem Box.drew1 {w : World} {k : Nat} {t : TypeId} {cs : Array Value} (h : Box w k t cs) : Box w.drew k t cs := h
theorem IntsIn.at_store {w : World} {lo hi : Nat} {v : Value} {xs : List Int} (h : IntsIn w lo hi v xs) {p : Addr} (hp : p.block < lo) (u : Value) : IntsIn (w.setCell p u) lo hi v xs :=
  ⟨Row.setCell h.1 (fun g hg => by have := (Row.lt h.1 hg).1; omega) u, h.2.1, by have := h.2.2.1; simpa [World.setCell] using this, h.2.2.2⟩
theorem IntsIn.put {w : World} {lo hi g n c : Nat} {xs : List Int} (h : IntsIn w lo hi (.slice (some ⟨g, 0, none⟩) n c) xs) (k : Nat) (x : Int) : IntsIn (w.setCell ⟨g, k, none⟩ (.int .i64 x)) lo hi (.slice (some ⟨g, 0, none⟩) n c) (xs.set k x) :=
  ⟨Row.set_ h.1 k x, h.2.1, by have := h.2.2.1; simpa [World.setCell] using this, by rw [List.length_set]; exact h.2.2.2⟩
end Go.Proofs.Ytnldahadldolpaa
