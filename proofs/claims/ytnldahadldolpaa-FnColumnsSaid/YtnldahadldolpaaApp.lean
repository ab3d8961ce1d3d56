/-
  'append(a, b...)' of two rows of int64.
-/
import Derived.Test.YtnldahadldolpaaKind
import Derived.Laws.AppendOwnNone
import Derived.Lib.LazyBuf
namespace Go.Proofs.Ytnldahadldolpaa
open Go.RowKit Knot

theorem append_row {ops : Array Oper} {rest : List Oper} {o : Oper} {a : Act} {Q : Exit → Act → World → Prop} {w : World} (hgd : o.guard = none) (s x : Operand)
    (ho : o.op = .call { callee := .builtin .append, args := #[s, x], argTypes := #[22, 22] })
    (B C : Nat) (v u : Value) (xs ys : List Int) (hv : Ints w B v xs) (hu : Ints w C u ys) (hs : a.eval s = v) (hx : a.eval x = u)
    (hlen : xs.length + ys.length < 1000000000) (hB : B ≤ w.heap.size)
    (h : ∀ v' w', Ints w' B v' (xs ++ ys) → w.grownBy w' v.ownBlock → wpList Try.prog ops Q rest (a.put o.dst v') w') :
    wpList Try.prog ops Q (o :: rest) a w := by
  obtain ⟨i0, hi, hz0, hz1, hz2⟩ := info_parts info_int
  rcases hu.form with ⟨rfl, rfl⟩ | ⟨g, c, rfl, _, _, h3, h4⟩
  · refine wpList_append_own_none hgd s x 22 ho B 2 i0 1 Try.underlying22 hi v xs.length (xs.map (Value.int .i64)) hs hv hx ?_
    exact h v w (by rw [List.append_nil]; exact hv) ⟨rfl, rfl, rfl, Nat.le_refl _, fun _ _ _ => rfl⟩
  · refine wpList_append_own _ hgd s x 22 ho B 2 i0 (.int .i64 0) 1 8 Try.underlying22 hi hz0 hz1 hz2 rfl (by decide) v xs.length (xs.map (Value.int .i64)) hs hv ⟨g, 0, none⟩ ys.length c (ys.map (Value.int .i64)) hx (by simp)
      (fun j w0 hj => ?_) (fun w0 hw => ?_) (by unfold maxLen; omega) (by omega) hB ?_
    · have hj' : j < ys.length := by
        have := List.getElem?_eq_some_iff.1 hj
        obtain ⟨h1, _⟩ := this
        simpa using h1
      have := Row.cell hu hj'
      rw [add_plain', Nat.zero_add, this]
      simp [hj'] at hj
      rw [hj]
    · obtain ⟨k, _, rfl⟩ := List.mem_map.1 hw
      rfl
    · intro v' w' hown hgrow _
      refine h v' w' ?_ hgrow
      unfold Ints Row
      rw [List.length_append, List.map_append]
      exact hown

end Go.Proofs.Ytnldahadldolpaa
