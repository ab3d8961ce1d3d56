/-
  What stands behind the library's sort: the row holds the sorted elements, all else is as it was but for new blocks.
-/
import Derived.Test.YtihfdgnocdphcaaKind
import Derived.Test.YtihfdgnocdphcaaPtF
import Derived.Shelf.SlSortCmp.NoneTotal
namespace Go.Proofs.Ytihfdgnocdphcaa
open Go.RowKit Knot Go.Sort

section
variable {α : Type} [Inhabited α] {enc : α → Value}
theorem heap_sorted2 {w : World} {g n : Nat} {os : Array Obj} {cur : Array Value} {e : TypeId} {fr : Nat × Nat} (d : Array α) (hb : w.heap[g]? = some (.cells cur e fr)) :
    (grow (putRow enc (Sort.ahead w n) g 0 d) os).heap[g]? = some (.cells (putCells enc 0 d cur) e fr) := by
  have hg : g < w.heap.size := (Array.getElem?_eq_some_iff.1 hb).1
  rw [heap_grow_old _ _ (by simpa using hg)]
  simp [putRow, mapBlock, Sort.ahead, Array.getElem?_modify, hb, onCells]
theorem grownBy_sorted2 {w : World} {g n : Nat} {os : Array Obj} (d : Array α) : w.grownBy (grow (putRow enc (Sort.ahead w n) g 0 d) os) (some g) := by
  refine ⟨rfl, rfl, rfl, by simp, fun k hk hne => ?_⟩
  rw [heap_grow_old _ _ (by simpa using hk)]
  have : g ≠ k := fun e => hne (by rw [e])
  simp [putRow, mapBlock, Sort.ahead, Array.getElem?_modify, this]
theorem take_putCells2 (cur : Array Value) (ts : List α) (h : ts.length ≤ cur.size) : (putCells enc 0 ts.toArray cur).toList.take ts.length = ts.map enc := by
  apply List.ext_getElem?
  intro j
  by_cases hj : j < ts.length
  · rw [List.getElem?_take_of_lt hj, Array.getElem?_toList]
    simp [putCells, hj, show j < cur.size by omega]
  · rw [List.getElem?_take_eq_none (by omega), List.getElem?_eq_none (by simp; omega)]
theorem holds_of_row {w : World} {g n c : Nat} {E : TypeId} {B : Nat} {xs : List α} (h : Row enc E w B (.slice (some ⟨g, 0, none⟩) n c) xs) : Holds enc w g 0 xs.toArray := by
  intro j hj
  have hj' : j < xs.length := by simpa using hj
  refine ⟨?_, Row.free h _⟩
  rw [Nat.zero_add, Row.cell h hj']
  simp [hj']
/-- Behind the sort the same slice owns the sorted list. -/
theorem Row.sorted {w : World} {g c m k : Nat} {E : TypeId} {B : Nat} {os : Array Obj} {xs ys : List α} (h : Row enc E w B (.slice (some ⟨g, 0, none⟩) m c) xs) (hl : ys.length = xs.length) :
    Row enc E (grow (putRow enc (Sort.ahead w k) g 0 ys.toArray) os) B (.slice (some ⟨g, 0, none⟩) m c) ys := by
  rcases h.2 with ⟨hv, _⟩ | ⟨g', cap, cur, hv, hg, hh, h1, h2, h3, h4⟩
  · cases hv
  · cases hv
    refine ⟨by rw [List.length_map]; omega, .inr ⟨g, c, _, by rw [hl], hg, heap_sorted2 _ hh, by omega, h2, by simp [putCells, h3], ?_⟩⟩
    rw [Nat.mul_one]
    exact take_putCells2 cur ys (by omega)
end

/-- The two cells of a point. -/
def encP (x : Int × Int) : List Value := [.int .i64 x.1, .int .i64 x.2]
theorem flatK_encP (l : List (Int × Int)) : (flatK encP 2 l.toArray).toList = (ptF l).map (Value.int .i64) := by
  apply List.ext_getElem?
  intro t
  by_cases ht : t < l.length * 2
  · have h1 : t < (flatK encP 2 l.toArray).size := by simp; omega
    rw [Array.getElem?_toList, Array.getElem?_eq_getElem h1]
    have h2 := get_flatK encP 2 l.toArray t (by simpa using ht)
    rw [getElem!_pos _ t h1] at h2
    have h3 : t / 2 < l.length := by omega
    have h4 : l.toArray[t / 2]! = l[t / 2] := by simp [h3]
    rw [h2, h4, List.getElem?_map]
    obtain ⟨f0, f1⟩ := ptF_at l (t / 2) h3
    have hlen := ptF_length l
    rcases Nat.mod_two_eq_zero_or_one t with e | e
    · have e2 : 2 * (t / 2) = t := by omega
      rw [e2] at f0
      rw [e, show (encP l[t / 2])[0]! = Value.int .i64 l[t / 2].1 from rfl, ← f0, gI_nat _ _ (by omega), List.getElem?_eq_getElem (by omega)]
      rfl
    · have e2 : 2 * (t / 2) + 1 = t := by omega
      rw [e2] at f1
      rw [e, show (encP l[t / 2])[1]! = Value.int .i64 l[t / 2].2 from rfl, ← f1, gI_nat _ _ (by omega), List.getElem?_eq_getElem (by omega)]
      rfl
  · rw [List.getElem?_eq_none (by simp; omega), List.getElem?_eq_none (by rw [List.length_map, ptF_length]; omega)]
end Go.Proofs.Ytihfdgnocdphcaa
