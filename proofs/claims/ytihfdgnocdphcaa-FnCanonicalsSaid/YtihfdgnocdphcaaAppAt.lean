/-
  'append(out, y)' of one int64, with where the new row lies.
-/
import Derived.Test.YtihfdgnocdphcaaKind
import Derived.Maps.AppendAt
namespace Go.Proofs.Ytihfdgnocdphcaa
open Go.RowKit Knot

/-- 'out = append(out, y)' of one int64, out a slice of the call's own: y has been laid in a new block; the row is the old one or a new one. -/
theorem append_one_at {ops : Array Oper} {rest : List Oper} {o : Oper} {a : Act} {Q : Exit → Act → World → Prop} {wr : World} (hgd : o.guard = none) (s x : Operand)
    (ho : o.op = .call { callee := .builtin .append, args := #[s, x], argTypes := #[25, 25] })
    (B H : Nat) (v : Value) (xs : List Int) (y : Int) (hv : Ints wr B v xs) (hs : a.eval s = v) (hx : a.eval x = .slice (some ⟨H, 0, none⟩) 1 1) (hH : wr.heap.size = H)
    (hlen : xs.length < 1000000000) (hB : B ≤ wr.heap.size)
    (h : ∀ g c w', Ints w' B (.slice (some ⟨g, 0, none⟩) (xs.length + 1) c) (xs ++ [y]) → wr.grownBy w' v.ownBlock → (v.ownBlock = some g ∨ wr.heap.size ≤ g) →
      wpList Try.prog ops Q rest (a.put o.dst (.slice (some ⟨g, 0, none⟩) (xs.length + 1) c)) w') :
    wpList Try.prog ops Q (o :: rest) a (wr.alloc (.cells #[.int .i64 y] 2)) := by
  subst hH
  obtain ⟨i0, hi, hz0, hz1, hz2⟩ := info_parts info_int
  have hown := World.ownsRow.alloc hv (.cells #[.int .i64 y] 2)
  refine wpList_append_own_at _ hgd s x 25 ho B 2 i0 (.int .i64 0) 1 8 Try.underlying25 hi hz0 hz1 hz2 rfl (by decide) v xs.length (xs.map (Value.int .i64)) hs hown ⟨wr.heap.size, 0, none⟩ 1 1 [.int .i64 y] hx rfl (cell_one_new _ _ _)
    (fun u hu => by simp at hu; subst hu; rfl) (by unfold maxLen; omega) (by omega) (by rw [World.size_alloc]; omega) ?_
  intro v' w' hown' hgrow _ hat
  have hI : Ints w' B v' (xs ++ [y]) := by
    unfold Ints Row
    rw [List.length_append, List.map_append]
    exact hown'
  rcases hI.form with ⟨_, h2⟩ | ⟨g, c, rfl, _⟩
  · simp at h2
  · have e : (xs ++ [y]).length = xs.length + 1 := by simp
    rw [e] at hI hat ⊢
    refine h g c w' hI ⟨hgrow.os, hgrow.tape, hgrow.output, by have := hgrow.size; rw [World.size_alloc] at this; omega, fun k hk hne => ?_⟩ ?_
    · exact (hgrow.block k (by rw [World.size_alloc]; omega) hne).trans (Below.heap_alloc _ _ _ hk)
    · rcases hat with e | e
      · exact .inl e.symm
      · rw [World.size_alloc] at e
        simp [Value.ownBlock] at e
        exact .inr (by omega)
end Go.Proofs.Ytihfdgnocdphcaa
