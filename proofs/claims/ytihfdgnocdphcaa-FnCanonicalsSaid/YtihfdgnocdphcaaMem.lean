/-
  Words for memory: a slice value that owns a row of cells, read as a list.
-/
import Derived.Test.YtihfdgnocdphcaaBase
namespace Go.Proofs.Ytihfdgnocdphcaa
open Go.RowKit Knot


/-- The slice value v owns (from block B on) a row of one-cell elements of type E that reads as xs. -/
def Row {α : Type} (enc : α → Value) (E : TypeId) (w : World) (B : Nat) (v : Value) (xs : List α) : Prop := w.ownsRow B E 1 v xs.length (xs.map enc)

section
variable {α : Type} {enc : α → Value} {E : TypeId} {w w' : World} {B : Nat} {v : Value} {xs : List α}

theorem Row.nil (w : World) (B : Nat) : Row enc E w B (.slice none 0 0) [] := World.ownsRow_nil w B E 1

theorem Row.le (h : Row enc E w B v xs) {C : Nat} (hc : C ≤ B) : Row enc E w C v xs := by
  obtain ⟨h1, h2⟩ := h
  refine ⟨h1, ?_⟩
  rcases h2 with h2 | ⟨g, cap, cur, hv, hg, r⟩
  · exact .inl h2
  · exact .inr ⟨g, cap, cur, hv, by omega, r⟩

/-- Where its row lies. -/
theorem Row.form (h : Row enc E w B v xs) : (v = .slice none 0 0 ∧ xs = []) ∨ ∃ g c, v = .slice (some ⟨g, 0, none⟩) xs.length c ∧ B ≤ g ∧ g < w.heap.size ∧ xs.length ≤ c ∧ c ≤ maxLen := by
  rcases h.2 with ⟨hv, hn⟩ | ⟨g, cap, cur, hv, hg, hh, hn, hm, _⟩
  · exact .inl ⟨hv, List.eq_nil_of_length_eq_zero hn⟩
  · exact .inr ⟨g, cap, hv, hg, (Array.getElem?_eq_some_iff.1 hh).1, hn, hm⟩

/-- The value written out; its address is known as soon as there is an element. -/
theorem Row.open_ (h : Row enc E w B v xs) : ∃ A c, v = .slice A xs.length c ∧ xs.length ≤ maxLen ∧ (0 < xs.length → ∃ g, A = some ⟨g, 0, none⟩ ∧ B ≤ g ∧ g < w.heap.size) := by
  rcases h.form with ⟨hv, rfl⟩ | ⟨g, c, hv, h1, h2, h3, h4⟩
  · exact ⟨none, 0, hv, by simp, fun h => absurd h (by simp)⟩
  · exact ⟨_, _, hv, by omega, fun _ => ⟨g, rfl, h1, h2⟩⟩

theorem Row.keep (h : Row enc E w B v xs) (hb : ∀ g, v.ownBlock = some g → g < w.heap.size → w'.heap[g]? = w.heap[g]?) : Row enc E w' B v xs := by
  obtain ⟨h1, h2⟩ := h
  refine ⟨h1, ?_⟩
  rcases h2 with h2 | ⟨g, cap, cur, hv, hg, hh, r⟩
  · exact .inl h2
  · exact .inr ⟨g, cap, cur, hv, hg, (hb g (by rw [hv]; rfl) (Array.getElem?_eq_some_iff.1 hh).1).trans hh, r⟩

theorem Row.below (h : Row enc E w B v xs) (hb : Below w.heap.size w w') : Row enc E w' B v xs := h.keep fun g _ hg => hb.block g hg
theorem Row.grown (h : Row enc E w B v xs) {row : Option Nat} (hb : w.grownBy w' row) (hne : ∀ g, v.ownBlock = some g → some g ≠ row) : Row enc E w' B v xs := h.keep fun g hv hg => hb.block g hg (hne g hv)
theorem Row.alloc (h : Row enc E w B v xs) (o : Obj) : Row enc E (w.alloc o) B v xs := World.ownsRow.alloc h o
theorem Row.drew (h : Row enc E w B v xs) : Row enc E w.drew B v xs := h
theorem Row.drewN (h : Row enc E w B v xs) (n : Nat) : Row enc E (w.drewN n) B v xs := h
theorem Row.setCell (h : Row enc E w B v xs) {p : Addr} (hne : ∀ g, v.ownBlock = some g → g ≠ p.block) (u : Value) : Row enc E (w.setCell p u) B v xs :=
  h.keep fun g hv _ => Below.heap_setCell w p u g (hne g hv)
theorem Row.lt (h : Row enc E w B v xs) {g : Nat} (hg : v.ownBlock = some g) : B ≤ g ∧ g < w.heap.size := World.ownsRow.lt h g hg

theorem Row.cell {g c n : Nat} (h : Row enc E w B (.slice (some ⟨g, 0, none⟩) n c) xs) {k : Nat} (hk : k < xs.length) : w.cell? ⟨g, k, none⟩ = some (enc (xs[k]'hk)) := by
  have hn : n = xs.length := by
    rcases h.form with ⟨h1, _⟩ | ⟨_, _, h1, _⟩ <;> cases h1
    rfl
  subst hn
  have := World.ownsRow.cellAt h k (by omega)
  rw [this]
  simp [hk]
theorem Row.free {g c n : Nat} (h : Row enc E w B (.slice (some ⟨g, 0, none⟩) n c) xs) (k : Nat) : w.frozen? ⟨g, k, none⟩ = false := by
  have hn : n = xs.length := by
    rcases h.form with ⟨h1, _⟩ | ⟨_, _, h1, _⟩ <;> cases h1
    rfl
  subst hn
  exact World.ownsRow.frozenAt h k

theorem Row.set_ {g c n : Nat} (h : Row enc E w B (.slice (some ⟨g, 0, none⟩) n c) xs) (k : Nat) (x : α) : Row enc E (w.setCell ⟨g, k, none⟩ (enc x)) B (.slice (some ⟨g, 0, none⟩) n c) (xs.set k x) := by
  have hn : n = xs.length := by
    rcases h.form with ⟨h1, _⟩ | ⟨_, _, h1, _⟩ <;> cases h1
    rfl
  subst hn
  have := (World.ownsRow.stored h k (enc x)).1
  unfold Row
  rw [List.map_set, List.length_set]
  exact this
end

/-- A slice of int64. -/
def Ints (w : World) (B : Nat) (v : Value) (xs : List Int) : Prop := Row (Value.int .i64) 2 w B v xs
/-- A slice of bool. -/
def Bools (w : World) (B : Nat) (v : Value) (xs : List Bool) : Prop := Row Value.bool 4 w B v xs

theorem gI_nat (xs : List Int) (k : Nat) (hk : k < xs.length) : gI xs k = xs[k] := by simp [gI, List.getD, hk]
theorem gB_nat (xs : List Bool) (k : Nat) (hk : k < xs.length) : gB xs k = xs[k] := by simp [gB, List.getD, hk]
theorem Ints.cell {w : World} {B g c n : Nat} {xs : List Int} (h : Ints w B (.slice (some ⟨g, 0, none⟩) n c) xs) {k : Nat} (hk : k < xs.length) : w.cell? ⟨g, k, none⟩ = some (.int .i64 (gI xs k)) := by
  rw [gI_nat xs k hk]; exact Row.cell h hk
theorem Ints.cellI {w : World} {B g c n : Nat} {xs : List Int} (h : Ints w B (.slice (some ⟨g, 0, none⟩) n c) xs) {i : Int} (h0 : 0 ≤ i) (hi : i < xs.length) : w.cell? ⟨g, i.toNat, none⟩ = some (.int .i64 (gI xs i)) := by
  have e : gI xs i = gI xs (i.toNat : Nat) := by unfold gI; congr 1
  rw [e]; exact h.cell (by omega)
theorem Bools.cell {w : World} {B g c n : Nat} {xs : List Bool} (h : Bools w B (.slice (some ⟨g, 0, none⟩) n c) xs) {k : Nat} (hk : k < xs.length) : w.cell? ⟨g, k, none⟩ = some (.bool (gB xs k)) := by
  rw [gB_nat xs k hk]; exact Row.cell h hk
theorem Bools.cellI {w : World} {B g c n : Nat} {xs : List Bool} (h : Bools w B (.slice (some ⟨g, 0, none⟩) n c) xs) {i : Int} (h0 : 0 ≤ i) (hi : i < xs.length) : w.cell? ⟨g, i.toNat, none⟩ = some (.bool (gB xs i)) := by
  have e : gB xs i = gB xs (i.toNat : Nat) := by unfold gB; congr 1
  rw [e]; exact h.cell (by omega)

/-- A slice of integers that came in: nil, or a row of cells. -/
def IsRow (k : IntKind) (w : World) (a : Option Addr) (len cap : Nat) (zs : List Int) : Prop :=
  (a = none ∧ len = 0 ∧ cap = 0 ∧ zs = []) ∨
  ∃ x, a = some x ∧ len ≤ cap ∧ cap ≤ maxLen ∧ zs.length = cap ∧ (∀ i, i < zs.length → w.cell? (x.add i) = some (.int k (zs.getD i 0))) ∧ ∀ n ∈ zs, (Lit.int k n).wf = true

theorem IsRow.below {k : IntKind} {w w' : World} {a : Option Addr} {len cap : Nat} {zs : List Int} (h : IsRow k w a len cap zs) (hb : Below w.heap.size w w') : IsRow k w' a len cap zs := by
  rcases h with h | ⟨x, h1, h2, h3, h4, h5, h6⟩
  · exact .inl h
  · exact .inr ⟨x, h1, h2, h3, h4, fun i hi => (hb.cell (World.block_lt_of_cell? w _ (h5 i hi))).trans (h5 i hi), h6⟩
theorem bnext {w w1 w2 : World} (h : Below w.heap.size w w1) (h' : Below w1.heap.size w1 w2) : Below w.heap.size w w2 := h.trans (h'.mono h.size)
theorem bdrawn {w w' : World} (h : ∃ n, w.drewN n = w') : Below w.heap.size w w' := by
  obtain ⟨n, rfl⟩ := h
  exact below_drewN _ _ _
theorem IsRow.len_le {k : IntKind} {w : World} {a : Option Addr} {len cap : Nat} {zs : List Int} (h : IsRow k w a len cap zs) : len ≤ 9223372036854775807 := by
  rcases h with ⟨_, rfl, _, _⟩ | ⟨x, _, h1, h2, _⟩
  · omega
  · unfold maxLen at h2; omega
/-- What was there reads as it did. -/
theorem bcell {W w1 : World} (hb : Below W.heap.size W w1) : (∀ b o, b < W.heap.size → w1.cell? ⟨b, o, none⟩ = W.cell? ⟨b, o, none⟩) ∧ (∀ b o, b < W.heap.size → w1.frozen? ⟨b, o, none⟩ = W.frozen? ⟨b, o, none⟩) :=
  ⟨fun b o h => hb.cell (p := ⟨b, o, none⟩) h, fun b o h => hb.frozen (p := ⟨b, o, none⟩) h⟩
/-- Block k is a box of the call's own: just these cells, none frozen. -/
def Box (w : World) (k : Nat) (t : TypeId) (cs : Array Value) : Prop := w.heap[k]? = some (.cells cs t (0, 0))
section
variable {w w' : World} {k : Nat} {t : TypeId} {cs : Array Value}
theorem Box.lt (h : Box w k t cs) : k < w.heap.size := (Array.getElem?_eq_some_iff.1 h).1
theorem Box.below (h : Box w k t cs) (hb : Below w.heap.size w w') : Box w' k t cs := (hb.block k h.lt).trans h
theorem Box.cell (h : Box w k t cs) (i : Nat) : w.cell? ⟨k, i, none⟩ = cs[i]? := cell_of_row w k i cs t (0, 0) h
theorem Box.free (h : Box w k t cs) (i : Nat) : w.frozen? ⟨k, i, none⟩ = false := by
  unfold Box at h
  simp [World.frozen?, h]
theorem Box.new (w : World) (t : TypeId) (cs : Array Value) : Box (w.alloc (.cells cs t)) w.heap.size t cs := heap_alloc_new w _
theorem Box.alloc (h : Box w k t cs) (o : Obj) : Box (w.alloc o) k t cs := (Below.heap_alloc w o k h.lt).trans h
theorem Box.drewN (h : Box w k t cs) (n : Nat) : Box (w.drewN n) k t cs := h
theorem Box.far (h : Box w k t cs) {p : Addr} (hp : k ≠ p.block) (u : Value) : Box (w.setCell p u) k t cs := (Below.heap_setCell w p u k hp).trans h
theorem Box.set_ (h : Box w k t cs) (i : Nat) (u : Value) : Box (w.setCell ⟨k, i, none⟩ u) k t (cs.setIfInBounds i u) := by
  unfold Box at h ⊢
  simp [World.setCell, Array.getElem?_modify, h]
theorem Box.grown {row : Option Nat} (h : Box w k t cs) (hb : w.grownBy w' row) (hne : some k ≠ row) : Box w' k t cs := (hb.block k h.lt hne).trans h
end
/-- '[]T{}': a slice that is not nil and holds nothing. -/
theorem Row.none_ {α : Type} {enc : α → Value} {E : TypeId} (w : World) : Row enc E (w.alloc (.cells #[] E)) w.heap.size (.slice (some ⟨w.heap.size, 0, none⟩) 0 0) ([] : List α) :=
  World.ownsRow_made w #[] 0 (Nat.le_refl _) (Nat.zero_le _) (by simp)
theorem info_int : (Try.prog.info? 2).map (fun i => (i.zero, i.size, i.bytes)) = some (some (.int .i64 0), 1, 8) := by kernel_rfl
theorem Row.length_max {α : Type} {enc : α → Value} {E : TypeId} {w : World} {B : Nat} {v : Value} {xs : List α} (h : Row enc E w B v xs) : xs.length ≤ maxLen := by
  rcases h.form with ⟨_, rfl⟩ | ⟨g, c, _, _, _, h3, h4⟩
  · simp
  · omega
theorem info_bool : (Try.prog.info? 4).map (fun i => (i.zero, i.size, i.bytes)) = some (some (.bool false), 1, 1) := by kernel_rfl

theorem ownBlock_slice (g n c : Nat) : (Value.slice (some ⟨g, 0, none⟩) n c).ownBlock = some g := rfl


/-- 'out = append(out, y)' of one int64, out a slice of the call's own: y has been laid in a new block. -/
theorem append_one {ops : Array Oper} {rest : List Oper} {o : Oper} {a : Act} {Q : Exit → Act → World → Prop} {wr : World} (hgd : o.guard = none) (s x : Operand)
    (ho : o.op = .call { callee := .builtin .append, args := #[s, x], argTypes := #[25, 25] })
    (B : Nat) (v : Value) (xs : List Int) (y : Int) (hv : Ints wr B v xs) (hs : a.eval s = v) (hx : a.eval x = .slice (some ⟨wr.heap.size, 0, none⟩) 1 1)
    (hlen : xs.length < 1000000000) (hB : B ≤ wr.heap.size)
    (h : ∀ g c w', Ints w' B (.slice (some ⟨g, 0, none⟩) (xs.length + 1) c) (xs ++ [y]) → wr.grownBy w' v.ownBlock → wpList Try.prog ops Q rest (a.put o.dst (.slice (some ⟨g, 0, none⟩) (xs.length + 1) c)) w') :
    wpList Try.prog ops Q (o :: rest) a (wr.alloc (.cells #[.int .i64 y] 2)) := by
  obtain ⟨i0, hi, hz0, hz1, hz2⟩ := info_parts info_int
  have hown := World.ownsRow.alloc hv (.cells #[.int .i64 y] 2)
  refine wpList_append_own _ hgd s x 25 ho B 2 i0 (.int .i64 0) 1 8 Try.underlying25 hi hz0 hz1 hz2 rfl (by decide) v xs.length (xs.map (Value.int .i64)) hs hown ⟨wr.heap.size, 0, none⟩ 1 1 [.int .i64 y] hx rfl (cell_one_new _ _ _)
    (fun u hu => by simp at hu; subst hu; rfl) (by unfold maxLen; omega) (by omega) (by rw [World.size_alloc]; omega) ?_
  intro v' w' hown' hgrow _
  have hI : Ints w' B v' (xs ++ [y]) := by
    unfold Ints Row
    rw [List.length_append, List.map_append]
    exact hown'
  rcases hI.form with ⟨_, h2⟩ | ⟨g, c, rfl, _⟩
  · simp at h2
  · have e : (xs ++ [y]).length = xs.length + 1 := by simp
    rw [e] at hI ⊢
    refine h g c w' hI ⟨hgrow.os, hgrow.tape, hgrow.output, by have := hgrow.size; rw [World.size_alloc] at this; omega, fun k hk hne => ?_⟩
    exact (hgrow.block k (by rw [World.size_alloc]; omega) hne).trans (Below.heap_alloc _ _ _ hk)

end Go.Proofs.Ytihfdgnocdphcaa
