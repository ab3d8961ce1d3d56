/-
  'append(a, b...)' of two rows of int64.
-/
import Derived.Test.YtihfdgnocdphcaaKind
import Derived.Laws.AppendOwnNone
import Derived.Lib.LazyBuf
namespace Go.Proofs.Ytihfdgnocdphcaa
open Go.RowKit Knot

theorem append_row {ops : Array Oper} {rest : List Oper} {o : Oper} {a : Act} {Q : Exit → Act → World → Prop} {w : World} (hgd : o.guard = none) (s x : Operand)
    (ho : o.op = .call { callee := .builtin .append, args := #[s, x], argTypes := #[25, 25] })
    (B C : Nat) (v u : Value) (xs ys : List Int) (hv : Ints w B v xs) (hu : Ints w C u ys) (hs : a.eval s = v) (hx : a.eval x = u)
    (hlen : xs.length + ys.length < 1000000000) (hB : B ≤ w.heap.size)
    (h : ∀ v' w', Ints w' B v' (xs ++ ys) → w.grownBy w' v.ownBlock → wpList Try.prog ops Q rest (a.put o.dst v') w') :
    wpList Try.prog ops Q (o :: rest) a w := by
  obtain ⟨i0, hi, hz0, hz1, hz2⟩ := info_parts info_int
  rcases hu.form with ⟨rfl, rfl⟩ | ⟨g, c, rfl, _, _, h3, h4⟩
  · refine wpList_append_own_none hgd s x 25 ho B 2 i0 1 Try.underlying25 hi v xs.length (xs.map (Value.int .i64)) hs hv hx ?_
    exact h v w (by rw [List.append_nil]; exact hv) ⟨rfl, rfl, rfl, Nat.le_refl _, fun _ _ _ => rfl⟩
  · refine wpList_append_own _ hgd s x 25 ho B 2 i0 (.int .i64 0) 1 8 Try.underlying25 hi hz0 hz1 hz2 rfl (by decide) v xs.length (xs.map (Value.int .i64)) hs hv ⟨g, 0, none⟩ ys.length c (ys.map (Value.int .i64)) hx (by simp)
      (fun j w0 hj => ?_) (fun w0 hw => ?_) (by unfold maxLen; omega) (by omega) hB ?_
    · have hj' : j < ys.length := by
        have := List.getElem?_eq_some_iff.1 hj
        obtain ⟨h1, _⟩ := this
        simpa using h1
      have := Row.cell hu hj'
      rw [add_plain', Nat.zero_add, this]
      simp [hj'] at hj
      rw [hj]
    · obtain ⟨k, _, rfl⟩ := List.mem_map.1 hw
      rfl
    · intro v' w' hown hgrow _
      refine h v' w' ?_ hgrow
      unfold Ints Row
      rw [List.length_append, List.map_append]
      exact hown

set_option maxHeartbeats 1000000 in
theorem Clone_any {w : World} {lo hi : Nat} {v : Value} {xs : List Int} (hx : IntsIn w lo hi v xs) :
    Calls Try.prog 128 #[v] w fun e w' => ∃ A c, e = .returned (.slice A xs.length c) ∧ IntsIn w' w.heap.size w'.heap.size (.slice A xs.length c) xs ∧ Below w.heap.size w w' := by
  have hl := hx.len
  have hI := hx.ints
  have hq := fun (u : World) (a : Option Addr) (l c : Nat) => Lib.run_eql_slice_nil (P := Try.prog) u 25 2 a l c 0 0 Try.underlying25
  rcases hI.form with ⟨rfl, rfl⟩ | ⟨g, c, rfl, _, _, _, _⟩
  · clear hI hl hx
    go_enter Try.func128, Try.ntmps128
    go_wp2
    go_ret
    exact ⟨none, 0, rfl, IntsIn.nil _ _ _ (Nat.le_refl _), Below.refl _ _⟩
  · clear hx
    have bl := Joins.below_alloc1 w (.cells #[] 2)
    have hL : Ints (w.alloc (.cells #[] 2)) w.heap.size (.slice (some ⟨w.heap.size, 0, none⟩) 0 0) [] := Row.none_ w
    have hI2 : Ints (w.alloc (.cells #[] 2)) 0 _ xs := Row.below hI bl
    have hlen : ([] : List Int).length + xs.length < 1000000000 := by simp; omega
    go_enter Try.func128, Try.ntmps128
    go_wp2_with (at_builtin; refine append_row rfl _ _ rfl w.heap.size 0 _ _ [] xs hL hI2 rfl rfl hlen (by rw [World.size_alloc]; omega) ?_)
    intro v' w' hI' hg
    try simp only [List.nil_append] at hI'
    obtain ⟨A, cA, rfl, _, _⟩ := hI'.open_
    have hb2 : Below w.heap.size w w' := bl.grown hg (by rw [World.size_alloc]; omega) (fun j hj => (Row.lt hL hj).1)
    clear hL hI hI2 hg bl
    go_wp2
    go_ret
    exact ⟨A, cA, rfl, IntsIn.ofInts hI' hl, hb2⟩
set_option maxHeartbeats 1000000 in
theorem l00Own_any {w : World} {lo hi : Nat} {v : Value} {xs : List Int} (hx : IntsIn w lo hi v xs) :
    Calls Try.prog 127 #[v] w fun e w' => ∃ A c, e = .returned (.slice A xs.length c) ∧ IntsIn w' w.heap.size w'.heap.size (.slice A xs.length c) xs ∧ Below w.heap.size w w' := by
  have hl := hx.len
  have hI := hx.ints
  have bl := Joins.below_alloc1 w (.cells #[] 2)
  have hL : Ints (w.alloc (.cells #[] 2)) w.heap.size (.slice (some ⟨w.heap.size, 0, none⟩) 0 0) [] := Row.none_ w
  have hI2 : Ints (w.alloc (.cells #[] 2)) 0 v xs := Row.below hI bl
  have hlen : ([] : List Int).length + xs.length < 1000000000 := by simp; omega
  obtain ⟨D, cD, rfl, _, _⟩ := hI.open_
  go_enter Try.func127, Try.ntmps127
  go_wp2_with (at_builtin; refine append_row rfl _ _ rfl w.heap.size 0 _ _ [] xs hL hI2 rfl rfl hlen (by rw [World.size_alloc]; omega) ?_)
  intro v' w' hI' hg
  try simp only [List.nil_append] at hI'
  obtain ⟨A, cA, rfl, _, _⟩ := hI'.open_
  have hb2 : Below w.heap.size w w' := bl.grown hg (by rw [World.size_alloc]; omega) (fun j hj => (Row.lt hL hj).1)
  clear hL hI hI2 hg bl
  go_wp2
  go_ret
  exact ⟨A, cA, rfl, IntsIn.ofInts hI' hl, hb2⟩
end Go.Proofs.Ytihfdgnocdphcaa
