/-
  Words for a statement that draws its order and lays a result in a new variable.
-/
import Derived.Test.YtihfdgnocdphcaaKind
import Derived.Deep.DeepCutAuto
namespace Go.Proofs.Ytihfdgnocdphcaa
open Go.RowKit Knot

theorem cut_alloc {V w : World} (h : Below V.heap.size V w) (o : Obj) : Below V.heap.size V (w.alloc o) := bnext h (Joins.below_alloc1 _ _)
theorem cut_set {V w : World} (h : Below V.heap.size V w) {p : Addr} (hp : V.heap.size ≤ p.block) (u : Value) : Below V.heap.size V (w.setCell p u) := h.setCell hp u
theorem cut_le {V w : World} (h : Below V.heap.size V w) : V.heap.size ≤ w.heap.size := h.size
theorem cut_box2 {w : World} {k : Nat} {t : TypeId} {u0 u1 : Value} (h : Box w k t #[u0, u1]) (a b : Value) : Box ((w.setCell ⟨k, 0, none⟩ a).setCell ⟨k, 1, none⟩ b) k t #[a, b] := by
  simpa using (h.set_ 0 a).set_ 1 b
theorem cut_box3 {w : World} {k : Nat} {t : TypeId} {u0 u1 u2 : Value} (h : Box w k t #[u0, u1, u2]) (a b c : Value) : Box (((w.setCell ⟨k, 0, none⟩ a).setCell ⟨k, 1, none⟩ b).setCell ⟨k, 2, none⟩ c) k t #[a, b, c] := by
  simpa using ((h.set_ 0 a).set_ 1 b).set_ 2 c
theorem cut_drew {V : World} : Below V.heap.size V V.drew := below_drewN _ _ 1
theorem cut_drewbox {w : World} {k : Nat} {t : TypeId} {cs : Array Value} (h : Box w k t cs) : Box w.drew k t cs := h
end Go.Proofs.Ytihfdgnocdphcaa
