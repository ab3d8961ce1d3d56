/-
  Rows of points in memory; the program's list of all inner points.
-/
import Derived.Test.YtnldahadldolpaaNum
import Derived.Maps.AppendAt
namespace Go.Proofs.Ytnldahadldolpaa
open Go.RowKit Knot

theorem info_point : (Try.prog.info? 108).map (fun i => (i.zero, i.size, i.bytes)) = some (some (.agg #[.int .i64 0, .int .i64 0]), 2, 16) := by kernel_rfl

/-- The slice value v holds n points, whose numbers read as zs, one after the other (X, Y, X, Y, ..), in a row of the call's own from block B on. -/
def PRow (w : World) (B : Nat) (v : Value) (n : Nat) (zs : List Int) : Prop := w.ownsRow B 108 2 v n (zs.map (Value.int .i64))
section
variable {w w' : World} {B n : Nat} {v : Value} {zs : List Int}
theorem PRow.len (h : PRow w B v n zs) : zs.length = 2 * n := by
  have := h.1
  simp at this
  omega
theorem PRow.form (h : PRow w B v n zs) : (v = .slice none 0 0 ∧ n = 0) ∨ ∃ g c, v = .slice (some ⟨g, 0, none⟩) n c ∧ B ≤ g ∧ g < w.heap.size ∧ n ≤ c ∧ c ≤ maxLen := by
  rcases h.2 with ⟨hv, hn⟩ | ⟨g, cap, cur, hv, hg, hh, hn, hm, _⟩
  · exact .inl ⟨hv, hn⟩
  · exact .inr ⟨g, cap, hv, hg, (Array.getElem?_eq_some_iff.1 hh).1, hn, hm⟩
theorem PRow.open_ (h : PRow w B v n zs) : ∃ A c, v = .slice A n c ∧ n ≤ maxLen ∧ (0 < n → ∃ g, A = some ⟨g, 0, none⟩ ∧ B ≤ g ∧ g < w.heap.size) := by
  rcases h.form with ⟨hv, rfl⟩ | ⟨g, c, hv, h1, h2, h3, h4⟩
  · exact ⟨none, 0, hv, by simp, fun h => absurd h (by simp)⟩
  · exact ⟨_, _, hv, by omega, fun _ => ⟨g, rfl, h1, h2⟩⟩
theorem PRow.keep (h : PRow w B v n zs) (hb : ∀ g, v.ownBlock = some g → g < w.heap.size → w'.heap[g]? = w.heap[g]?) : PRow w' B v n zs := by
  obtain ⟨h1, h2⟩ := h
  refine ⟨h1, ?_⟩
  rcases h2 with h2 | ⟨g, cap, cur, hv, hg, hh, r⟩
  · exact .inl h2
  · exact .inr ⟨g, cap, cur, hv, hg, (hb g (by rw [hv]; rfl) (Array.getElem?_eq_some_iff.1 hh).1).trans hh, r⟩
theorem PRow.below (h : PRow w B v n zs) (hb : Below w.heap.size w w') : PRow w' B v n zs := h.keep fun g _ hg => hb.block g hg
theorem PRow.alloc (h : PRow w B v n zs) (o : Obj) : PRow (w.alloc o) B v n zs := World.ownsRow.alloc h o
theorem PRow.lt (h : PRow w B v n zs) {g : Nat} (hg : v.ownBlock = some g) : B ≤ g ∧ g < w.heap.size := World.ownsRow.lt h g hg
theorem PRow.le (h : PRow w B v n zs) {C : Nat} (hc : C ≤ B) : PRow w C v n zs := by
  obtain ⟨h1, h2⟩ := h
  refine ⟨h1, ?_⟩
  rcases h2 with h2 | ⟨g, cap, cur, hv, hg, r⟩
  · exact .inl h2
  · exact .inr ⟨g, cap, cur, hv, by omega, r⟩
theorem PRow.setCell (h : PRow w B v n zs) {p : Addr} (hne : ∀ g, v.ownBlock = some g → g ≠ p.block) (u : Value) : PRow (w.setCell p u) B v n zs :=
  h.keep fun g hv _ => Below.heap_setCell w p u g (hne g hv)
theorem PRow.none_ (w : World) : PRow (w.alloc (.cells #[] 108)) w.heap.size (.slice (some ⟨w.heap.size, 0, none⟩) 0 0) 0 [] :=
  World.ownsRow_made w #[] 0 (Nat.le_refl _) (Nat.zero_le _) (by simp)
theorem PRow.cell {g c m : Nat} (h : PRow w B (.slice (some ⟨g, 0, none⟩) m c) n zs) {j : Nat} (hj : j < 2 * n) : w.cell? ⟨g, j, none⟩ = some (.int .i64 (gI zs (j : Nat))) := by
  have hm : m = n := by
    rcases h.form with ⟨h1, _⟩ | ⟨_, _, h1, _⟩ <;> cases h1
    rfl
  subst hm
  have hl := h.len
  have := World.ownsRow.cellAt h j (by omega)
  rw [this]
  have hlt : j < zs.length := by omega
  simp [gI, List.getD, hlt]
theorem PRow.free {g c m : Nat} (h : PRow w B (.slice (some ⟨g, 0, none⟩) m c) n zs) (j : Nat) : w.frozen? ⟨g, j, none⟩ = false := by
  have hm : m = n := by
    rcases h.form with ⟨h1, _⟩ | ⟨_, _, h1, _⟩ <;> cases h1
    rfl
  subst hm
  exact World.ownsRow.frozenAt h j
theorem PRow.set_ {g c m : Nat} (h : PRow w B (.slice (some ⟨g, 0, none⟩) m c) n zs) (j : Nat) (x : Int) : PRow (w.setCell ⟨g, j, none⟩ (.int .i64 x)) B (.slice (some ⟨g, 0, none⟩) m c) n (zs.set j x) := by
  have hm : m = n := by
    rcases h.form with ⟨h1, _⟩ | ⟨_, _, h1, _⟩ <;> cases h1
    rfl
  subst hm
  have := (World.ownsRow.stored h j (.int .i64 x)).1
  unfold PRow
  rw [List.map_set]
  exact this
end

/-- 'out = append(out, Point{..})'. -/
theorem append_pt {ops : Array Oper} {rest : List Oper} {o : Oper} {a : Act} {Q : Exit → Act → World → Prop} {wr : World} (hgd : o.guard = none) (s x : Operand)
    (ho : o.op = .call { callee := .builtin .append, args := #[s, x], argTypes := #[123, 123] })
    (B H n : Nat) (v : Value) (zs : List Int) (p q : Int) (hv : PRow wr B v n zs) (hs : a.eval s = v) (hx : a.eval x = .slice (some ⟨H, 0, none⟩) 1 1) (hH : wr.heap.size = H)
    (hlen : n < 1000000000) (hB : B ≤ wr.heap.size)
    (h : ∀ g c w', PRow w' B (.slice (some ⟨g, 0, none⟩) (n + 1) c) (n + 1) (zs ++ [p, q]) → wr.grownBy w' v.ownBlock → (v.ownBlock = some g ∨ wr.heap.size ≤ g) →
      wpList Try.prog ops Q rest (a.put o.dst (.slice (some ⟨g, 0, none⟩) (n + 1) c)) w') :
    wpList Try.prog ops Q (o :: rest) a (wr.alloc (.cells #[.int .i64 p, .int .i64 q] 108)) := by
  subst hH
  obtain ⟨i0, hi, hz0, hz1, hz2⟩ := info_parts info_point
  have hown := World.ownsRow.alloc hv (.cells #[.int .i64 p, .int .i64 q] 108)
  refine wpList_append_own_at _ hgd s x 123 ho B 108 i0 (.agg #[.int .i64 0, .int .i64 0]) 2 16 Try.underlying123 hi hz0 hz1 hz2 rfl (by decide) v n (zs.map (Value.int .i64)) hs hown ⟨wr.heap.size, 0, none⟩ 1 1 [.int .i64 p, .int .i64 q] hx rfl
    (fun j u hu => ?_) (fun u hu => by simp at hu; rcases hu with rfl | rfl <;> rfl) (by unfold maxLen; omega) (by omega) (by rw [World.size_alloc]; omega) ?_
  · have hb := Box.new wr 108 #[.int .i64 p, .int .i64 q]
    have hadd : (⟨wr.heap.size, 0, none⟩ : Addr).add j = ⟨wr.heap.size, j, none⟩ := by unfold Addr.add; split <;> simp_all
    rw [hadd, hb.cell j]
    simpa using hu
  · intro v' w' hown' hgrow _ hat
    have hI : PRow w' B v' (n + 1) (zs ++ [p, q]) := by
      unfold PRow
      rw [List.map_append]
      exact hown'
    rcases hI.form with ⟨_, h2⟩ | ⟨g, c, rfl, _⟩
    · omega
    · refine h g c w' hI ⟨hgrow.os, hgrow.tape, hgrow.output, by have := hgrow.size; rw [World.size_alloc] at this; omega, fun k hk hne => ?_⟩ ?_
      · exact (hgrow.block k (by rw [World.size_alloc]; omega) hne).trans (Below.heap_alloc _ _ _ hk)
      · rcases hat with e | e
        · exact .inl e.symm
        · rw [World.size_alloc] at e
          simp [Value.ownBlock] at e
          exact .inr (by omega)

end Go.Proofs.Ytnldahadldolpaa
