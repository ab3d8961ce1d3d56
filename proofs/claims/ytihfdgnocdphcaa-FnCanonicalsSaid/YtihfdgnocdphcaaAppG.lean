/-
  'append(out, y)' of one element of one cell, whatever its type, with where the new row lies.
-/
import Derived.Test.YtihfdgnocdphcaaKind
import Derived.Maps.AppendAt
import Derived.Laws.AppendOwnNone
namespace Go.Proofs.Ytihfdgnocdphcaa
open Go.RowKit Knot

theorem append_gen {α : Type} {enc : α → Value} {T E : TypeId} {z : Value} {bytes : Nat} (hT : Try.prog.underlying T = some (.slice E)) (hinfo : (Try.prog.info? E).map (fun i => (i.zero, i.size, i.bytes)) = some (some z, 1, bytes)) (hzs : z.cells.size = 1) (hby : bytes ≤ 64)
    {ops : Array Oper} {rest : List Oper} {o : Oper} {a : Act} {Q : Exit → Act → World → Prop} {wr : World} (hgd : o.guard = none) (s x : Operand)
    (ho : o.op = .call { callee := .builtin .append, args := #[s, x], argTypes := #[T, T] })
    (B H : Nat) (v : Value) (xs : List α) (y : α) (henc : (enc y).oneCell' = true) (hv : Row enc E wr B v xs) (hs : a.eval s = v) (hx : a.eval x = .slice (some ⟨H, 0, none⟩) 1 1) (hH : wr.heap.size = H)
    (hlen : xs.length < 1000000000) (hB : B ≤ wr.heap.size)
    (h : ∀ g c w', Row enc E w' B (.slice (some ⟨g, 0, none⟩) (xs.length + 1) c) (xs ++ [y]) → wr.grownBy w' v.ownBlock → (v.ownBlock = some g ∨ wr.heap.size ≤ g) →
      wpList Try.prog ops Q rest (a.put o.dst (.slice (some ⟨g, 0, none⟩) (xs.length + 1) c)) w') :
    wpList Try.prog ops Q (o :: rest) a (wr.alloc (.cells #[enc y] E)) := by
  subst hH
  obtain ⟨i0, hi, hz0, hz1, hz2⟩ := info_parts hinfo
  have hown := World.ownsRow.alloc hv (.cells #[enc y] E)
  refine wpList_append_own_at _ hgd s x T ho B E i0 z 1 bytes hT hi hz0 hz1 hz2 hzs (by decide) v xs.length (xs.map enc) hs hown ⟨wr.heap.size, 0, none⟩ 1 1 [enc y] hx rfl (cell_one_new _ _ _)
    (fun u hu => by simp at hu; subst hu; exact henc) (by unfold maxLen; omega) (by
      have : (xs.length + 1) * bytes ≤ 1000000000 * 64 := Nat.mul_le_mul (by omega) hby
      omega) (by rw [World.size_alloc]; omega) ?_
  intro v' w' hown' hgrow _ hat
  have hI : Row enc E w' B v' (xs ++ [y]) := by
    unfold Row
    rw [List.length_append, List.map_append]
    exact hown'
  rcases hI.form with ⟨_, h2⟩ | ⟨g, c, rfl, _⟩
  · simp at h2
  · have e : (xs ++ [y]).length = xs.length + 1 := by simp
    rw [e] at hI hat ⊢
    refine h g c w' hI ⟨hgrow.os, hgrow.tape, hgrow.output, by have := hgrow.size; rw [World.size_alloc] at this; omega, fun k hk hne => ?_⟩ ?_
    · exact (hgrow.block k (by rw [World.size_alloc]; omega) hne).trans (Below.heap_alloc _ _ _ hk)
    · rcases hat with e | e
      · exact .inl e.symm
      · rw [World.size_alloc] at e
        simp [Value.ownBlock] at e
        exact .inr (by omega)
/-- 'append(a, b...)' of two rows of one-cell elements. -/
theorem append_rows {α : Type} {enc : α → Value} {T E : TypeId} {z : Value} {bytes : Nat} (hT : Try.prog.underlying T = some (.slice E)) (hinfo : (Try.prog.info? E).map (fun i => (i.zero, i.size, i.bytes)) = some (some z, 1, bytes)) (hzs : z.cells.size = 1) (hby : bytes ≤ 64) (henc : ∀ y, (enc y).oneCell' = true)
    {ops : Array Oper} {rest : List Oper} {o : Oper} {a : Act} {Q : Exit → Act → World → Prop} {w : World} (hgd : o.guard = none) (s x : Operand)
    (ho : o.op = .call { callee := .builtin .append, args := #[s, x], argTypes := #[T, T] })
    (B C : Nat) (v u : Value) (xs ys : List α) (hv : Row enc E w B v xs) (hu : Row enc E w C u ys) (hs : a.eval s = v) (hx : a.eval x = u)
    (hlen : xs.length + ys.length < 1000000000) (hB : B ≤ w.heap.size)
    (h : ∀ v' w', Row enc E w' B v' (xs ++ ys) → w.grownBy w' v.ownBlock → (v'.ownBlock = v.ownBlock ∨ v'.ownBlock = some w.heap.size) → wpList Try.prog ops Q rest (a.put o.dst v') w') :
    wpList Try.prog ops Q (o :: rest) a w := by
  obtain ⟨i0, hi, hz0, hz1, hz2⟩ := info_parts hinfo
  rcases hu.form with ⟨rfl, rfl⟩ | ⟨g, c, rfl, _, _, h3, h4⟩
  · refine wpList_append_own_none hgd s x T ho B E i0 1 hT hi v xs.length (xs.map enc) hs hv hx ?_
    exact h v w (by rw [List.append_nil]; exact hv) ⟨rfl, rfl, rfl, Nat.le_refl _, fun _ _ _ => rfl⟩ (.inl rfl)
  · refine wpList_append_own_at _ hgd s x T ho B E i0 z 1 bytes hT hi hz0 hz1 hz2 hzs (by decide) v xs.length (xs.map enc) hs hv ⟨g, 0, none⟩ ys.length c (ys.map enc) hx (by simp)
      (fun j w0 hj => ?_) (fun w0 hw => ?_) (by unfold maxLen; omega) (by
        have : (xs.length + ys.length) * bytes ≤ 1000000000 * 64 := Nat.mul_le_mul (by omega) hby
        omega) hB ?_
    · have hj' : j < ys.length := by
        have := List.getElem?_eq_some_iff.1 hj
        obtain ⟨h1, _⟩ := this
        simpa using h1
      have := Row.cell hu hj'
      rw [add_plain', Nat.zero_add, this]
      simp [hj'] at hj
      rw [hj]
    · obtain ⟨k, _, rfl⟩ := List.mem_map.1 hw
      exact henc k
    · intro v' w' hown hgrow _ hat
      refine h v' w' ?_ hgrow hat
      unfold Row
      rw [List.length_append, List.map_append]
      exact hown
end Go.Proofs.Ytihfdgnocdphcaa
