/-
  Words and laws of memory of this seat, in one text.
-/
import Derived.Test.YtcfdbjjfdddfeaaProg
import Derived.Test.YtcfdbjjfdddfeaaPlAllC
import Derived.WalkKit
import Derived.WalkSpells
import Derived.WalkLawsBesides
import Derived.Deep.QuietTactic
import Derived.BigQuiet
import Derived.Lib.Hide
import Derived.Lib.SmallJoins
import Derived.Deep.DeepCutAuto
import Derived.Maps.AppendAt
import Derived.Laws.AppendOwnNone
import Derived.Lib.LazyBuf
namespace Go.Proofs.Ytcfdbjjfdddfeaa
open Go.RowKit Knot

theorem ret_int {k : IntKind} {a b : Int} (h : a = b) : Ending.returned (.int k a) = .returned (.int k b) := by rw [h]
theorem ret_bool {a b : Bool} (h : a = b) : Ending.returned (.bool a) = .returned (.bool b) := by rw [h]

def inR (x a b : Int) : Bool := decide (a ≤ x) && decide (x ≤ b)
theorem inR_t {x a b : Int} (h : a ≤ x ∧ x ≤ b) : inR x a b = true := by simp [inR, h.1, h.2]
theorem inR_f {x a b : Int} (h : ¬ (a ≤ x ∧ x ≤ b)) : inR x a b = false := by
  by_cases h1 : a ≤ x <;> by_cases h2 : x ≤ b <;> simp [inR, h1, h2] <;> omega

set_option maxHeartbeats 400000 in
theorem inRange_any (x a b : Int) (c : Bool) (h : inR x a b = c) (w : World) :
    Calls Try.prog 59 #[.int .i64 x, .int .i64 a, .int .i64 b] w fun e w' => e = .returned (.bool c) ∧ w = w' := by
  by_cases h1 : a ≤ x
  · by_cases h2 : x ≤ b
    · have hc : c = true := by rw [← h]; exact inR_t ⟨h1, h2⟩
      subst hc
      clear h
      go_enter Try.func59, Try.ntmps59
      go_wp2
      go_ret
      exact ⟨rfl, rfl⟩
    · have hc : c = false := by rw [← h]; exact inR_f (by omega)
      subst hc
      clear h
      go_enter Try.func59, Try.ntmps59
      go_wp2
      go_ret
      exact ⟨rfl, rfl⟩
  · have hc : c = false := by rw [← h]; exact inR_f (by omega)
    subst hc
    clear h
    go_enter Try.func59, Try.ntmps59
    go_wp2
    go_ret
    exact ⟨rfl, rfl⟩

theorem below_drewN (B : Nat) (w : World) (n : Nat) : Below B w (w.drewN n) := ⟨rfl, rfl, rfl, Nat.le_refl _, fun _ _ => rfl⟩
theorem qsame {P : Program} {f : FuncId} {args : Array Value} {w : World} {n : Nat} {v : Value}
    (h : Calls P f args (w.drewN n) fun e w' => e = .returned v ∧ w.drewN n = w') : Calls P f args (w.drewN n) fun e w'' => e = .returned v ∧ ∃ m, w'' = w.drewN m :=
  h.mono fun _ _ ⟨he, hm⟩ => ⟨he, n, hm.symm⟩
theorem qsame2 {P : Program} {f : FuncId} {args : Array Value} {w : World} {a n : Nat} {v : Value}
    (h : Calls P f args (w.drewN (a + n)) fun e w' => e = .returned v ∧ w.drewN (a + n) = w') : Calls P f args (w.drewN (a + n)) fun e w'' => e = .returned v ∧ ∃ m, w'' = w.drewN (a + m) :=
  h.mono fun _ _ ⟨he, hm⟩ => ⟨he, n, hm.symm⟩
theorem qdrawn {P : Program} {f : FuncId} {args : Array Value} {w : World} {n : Nat} {v : Value}
    (h : Calls P f args (w.drewN n) fun e w' => e = .returned v ∧ ∃ m, (w.drewN n).drewN m = w') : Calls P f args (w.drewN n) fun e w'' => e = .returned v ∧ ∃ m, w'' = w.drewN m :=
  h.mono fun _ _ ⟨he, m, hm⟩ => ⟨he, n + m, by rw [← hm, World.drewN_drewN]⟩
theorem qdrawn2 {P : Program} {f : FuncId} {args : Array Value} {w : World} {a n : Nat} {v : Value}
    (h : Calls P f args (w.drewN (a + n)) fun e w' => e = .returned v ∧ ∃ m, (w.drewN (a + n)).drewN m = w') : Calls P f args (w.drewN (a + n)) fun e w'' => e = .returned v ∧ ∃ m, w'' = w.drewN (a + m) :=
  h.mono fun _ _ ⟨he, m, hm⟩ => ⟨he, n + m, by rw [← hm, World.drewN_drewN, Nat.add_assoc]⟩
theorem some_bool (P : Prop) : ∃ c : Bool, c = true ↔ P := by
  by_cases h : P
  · exact ⟨true, by simp [h]⟩
  · exact ⟨false, by simp [h]⟩
theorem bool_true {c : Bool} {P : Prop} (h : c = true ↔ P) (hp : P) : c = true := h.2 hp
theorem bool_false {c : Bool} {P : Prop} (h : c = true ↔ P) (hp : ¬ P) : c = false := by
  cases c
  · rfl
  · exact absurd (h.1 rfl) hp
theorem yes_iff {P : Prop} (h : P) : (true = true ↔ P) := ⟨fun _ => h, fun _ => rfl⟩
theorem no_iff {P : Prop} (h : ¬ P) : (false = true ↔ P) := ⟨(fun e => absurd e (by decide)), (fun e => absurd e h)⟩
theorem drawn2 (w : World) (n m : Nat) : ∃ k, w.drewN k = (w.drewN n).drewN m := ⟨_, (World.drewN_drewN w n m).symm⟩
theorem ret_pair {k : IntKind} {a b c d : Int} (h : a = b) (h' : c = d) : Ending.returned (.tuple #[.int k a, .int k c]) = .returned (.tuple #[.int k b, .int k d]) := by rw [h, h']
set_option maxHeartbeats 400000 in
theorem l00In_any (x a b : Int) (c : Bool) (h : inR x a b = c) (w : World) :
    Calls Try.prog 57 #[.int .i64 x, .int .i64 a, .int .i64 b] w fun e w' => e = .returned (.bool c) ∧ w = w' := by
  by_cases h1 : a ≤ x
  · by_cases h2 : x ≤ b
    · have hc : c = true := by rw [← h]; exact inR_t ⟨h1, h2⟩
      subst hc
      clear h
      go_enter Try.func57, Try.ntmps57
      go_wp2
      go_ret
      exact ⟨rfl, rfl⟩
    · have hc : c = false := by rw [← h]; exact inR_f (by omega)
      subst hc
      clear h
      go_enter Try.func57, Try.ntmps57
      go_wp2
      go_ret
      exact ⟨rfl, rfl⟩
  · have hc : c = false := by rw [← h]; exact inR_f (by omega)
    subst hc
    clear h
    go_enter Try.func57, Try.ntmps57
    go_wp2
    go_ret
    exact ⟨rfl, rfl⟩

end Go.Proofs.Ytcfdbjjfdddfeaa

namespace Go.Proofs.Ytcfdbjjfdddfeaa
open Go.RowKit Knot


/-- The slice value v owns (from block B on) a row of one-cell elements of type E that reads as xs. -/
def Row {α : Type} (enc : α → Value) (E : TypeId) (w : World) (B : Nat) (v : Value) (xs : List α) : Prop := w.ownsRow B E 1 v xs.length (xs.map enc)

section
variable {α : Type} {enc : α → Value} {E : TypeId} {w w' : World} {B : Nat} {v : Value} {xs : List α}

theorem Row.nil (w : World) (B : Nat) : Row enc E w B (.slice none 0 0) [] := World.ownsRow_nil w B E 1

theorem Row.le (h : Row enc E w B v xs) {C : Nat} (hc : C ≤ B) : Row enc E w C v xs := by
  obtain ⟨h1, h2⟩ := h
  refine ⟨h1, ?_⟩
  rcases h2 with h2 | ⟨g, cap, cur, hv, hg, r⟩
  · exact .inl h2
  · exact .inr ⟨g, cap, cur, hv, by omega, r⟩

/-- Where its row lies. -/
theorem Row.form (h : Row enc E w B v xs) : (v = .slice none 0 0 ∧ xs = []) ∨ ∃ g c, v = .slice (some ⟨g, 0, none⟩) xs.length c ∧ B ≤ g ∧ g < w.heap.size ∧ xs.length ≤ c ∧ c ≤ maxLen := by
  rcases h.2 with ⟨hv, hn⟩ | ⟨g, cap, cur, hv, hg, hh, hn, hm, _⟩
  · exact .inl ⟨hv, List.eq_nil_of_length_eq_zero hn⟩
  · exact .inr ⟨g, cap, hv, hg, (Array.getElem?_eq_some_iff.1 hh).1, hn, hm⟩

/-- The value written out; its address is known as soon as there is an element. -/
theorem Row.open_ (h : Row enc E w B v xs) : ∃ A c, v = .slice A xs.length c ∧ xs.length ≤ maxLen ∧ (0 < xs.length → ∃ g, A = some ⟨g, 0, none⟩ ∧ B ≤ g ∧ g < w.heap.size) := by
  rcases h.form with ⟨hv, rfl⟩ | ⟨g, c, hv, h1, h2, h3, h4⟩
  · exact ⟨none, 0, hv, by simp, fun h => absurd h (by simp)⟩
  · exact ⟨_, _, hv, by omega, fun _ => ⟨g, rfl, h1, h2⟩⟩

theorem Row.keep (h : Row enc E w B v xs) (hb : ∀ g, v.ownBlock = some g → g < w.heap.size → w'.heap[g]? = w.heap[g]?) : Row enc E w' B v xs := by
  obtain ⟨h1, h2⟩ := h
  refine ⟨h1, ?_⟩
  rcases h2 with h2 | ⟨g, cap, cur, hv, hg, hh, r⟩
  · exact .inl h2
  · exact .inr ⟨g, cap, cur, hv, hg, (hb g (by rw [hv]; rfl) (Array.getElem?_eq_some_iff.1 hh).1).trans hh, r⟩

theorem Row.below (h : Row enc E w B v xs) (hb : Below w.heap.size w w') : Row enc E w' B v xs := h.keep fun g _ hg => hb.block g hg
theorem Row.grown (h : Row enc E w B v xs) {row : Option Nat} (hb : w.grownBy w' row) (hne : ∀ g, v.ownBlock = some g → some g ≠ row) : Row enc E w' B v xs := h.keep fun g hv hg => hb.block g hg (hne g hv)
theorem Row.alloc (h : Row enc E w B v xs) (o : Obj) : Row enc E (w.alloc o) B v xs := World.ownsRow.alloc h o
theorem Row.drew (h : Row enc E w B v xs) : Row enc E w.drew B v xs := h
theorem Row.drewN (h : Row enc E w B v xs) (n : Nat) : Row enc E (w.drewN n) B v xs := h
theorem Row.setCell (h : Row enc E w B v xs) {p : Addr} (hne : ∀ g, v.ownBlock = some g → g ≠ p.block) (u : Value) : Row enc E (w.setCell p u) B v xs :=
  h.keep fun g hv _ => Below.heap_setCell w p u g (hne g hv)
theorem Row.lt (h : Row enc E w B v xs) {g : Nat} (hg : v.ownBlock = some g) : B ≤ g ∧ g < w.heap.size := World.ownsRow.lt h g hg

theorem Row.cell {g c n : Nat} (h : Row enc E w B (.slice (some ⟨g, 0, none⟩) n c) xs) {k : Nat} (hk : k < xs.length) : w.cell? ⟨g, k, none⟩ = some (enc (xs[k]'hk)) := by
  have hn : n = xs.length := by
    rcases h.form with ⟨h1, _⟩ | ⟨_, _, h1, _⟩ <;> cases h1
    rfl
  subst hn
  have := World.ownsRow.cellAt h k (by omega)
  rw [this]
  simp [hk]
theorem Row.free {g c n : Nat} (h : Row enc E w B (.slice (some ⟨g, 0, none⟩) n c) xs) (k : Nat) : w.frozen? ⟨g, k, none⟩ = false := by
  have hn : n = xs.length := by
    rcases h.form with ⟨h1, _⟩ | ⟨_, _, h1, _⟩ <;> cases h1
    rfl
  subst hn
  exact World.ownsRow.frozenAt h k

theorem Row.set_ {g c n : Nat} (h : Row enc E w B (.slice (some ⟨g, 0, none⟩) n c) xs) (k : Nat) (x : α) : Row enc E (w.setCell ⟨g, k, none⟩ (enc x)) B (.slice (some ⟨g, 0, none⟩) n c) (xs.set k x) := by
  have hn : n = xs.length := by
    rcases h.form with ⟨h1, _⟩ | ⟨_, _, h1, _⟩ <;> cases h1
    rfl
  subst hn
  have := (World.ownsRow.stored h k (enc x)).1
  unfold Row
  rw [List.map_set, List.length_set]
  exact this
end

/-- A slice of int64. -/
def Ints (w : World) (B : Nat) (v : Value) (xs : List Int) : Prop := Row (Value.int .i64) 2 w B v xs
/-- A slice of bool. -/
def Bools (w : World) (B : Nat) (v : Value) (xs : List Bool) : Prop := Row Value.bool 4 w B v xs

theorem gI_nat (xs : List Int) (k : Nat) (hk : k < xs.length) : gI xs k = xs[k] := by simp [gI, List.getD, hk]
theorem gB_nat (xs : List Bool) (k : Nat) (hk : k < xs.length) : gB xs k = xs[k] := by simp [gB, List.getD, hk]
theorem Ints.cell {w : World} {B g c n : Nat} {xs : List Int} (h : Ints w B (.slice (some ⟨g, 0, none⟩) n c) xs) {k : Nat} (hk : k < xs.length) : w.cell? ⟨g, k, none⟩ = some (.int .i64 (gI xs k)) := by
  rw [gI_nat xs k hk]; exact Row.cell h hk
theorem Ints.cellI {w : World} {B g c n : Nat} {xs : List Int} (h : Ints w B (.slice (some ⟨g, 0, none⟩) n c) xs) {i : Int} (h0 : 0 ≤ i) (hi : i < xs.length) : w.cell? ⟨g, i.toNat, none⟩ = some (.int .i64 (gI xs i)) := by
  have e : gI xs i = gI xs (i.toNat : Nat) := by unfold gI; congr 1
  rw [e]; exact h.cell (by omega)
theorem Bools.cell {w : World} {B g c n : Nat} {xs : List Bool} (h : Bools w B (.slice (some ⟨g, 0, none⟩) n c) xs) {k : Nat} (hk : k < xs.length) : w.cell? ⟨g, k, none⟩ = some (.bool (gB xs k)) := by
  rw [gB_nat xs k hk]; exact Row.cell h hk
theorem Bools.cellI {w : World} {B g c n : Nat} {xs : List Bool} (h : Bools w B (.slice (some ⟨g, 0, none⟩) n c) xs) {i : Int} (h0 : 0 ≤ i) (hi : i < xs.length) : w.cell? ⟨g, i.toNat, none⟩ = some (.bool (gB xs i)) := by
  have e : gB xs i = gB xs (i.toNat : Nat) := by unfold gB; congr 1
  rw [e]; exact h.cell (by omega)

/-- A slice of integers that came in: nil, or a row of cells. -/
def IsRow (k : IntKind) (w : World) (a : Option Addr) (len cap : Nat) (zs : List Int) : Prop :=
  (a = none ∧ len = 0 ∧ cap = 0 ∧ zs = []) ∨
  ∃ x, a = some x ∧ len ≤ cap ∧ cap ≤ maxLen ∧ zs.length = cap ∧ (∀ i, i < zs.length → w.cell? (x.add i) = some (.int k (zs.getD i 0))) ∧ ∀ n ∈ zs, (Lit.int k n).wf = true

theorem IsRow.below {k : IntKind} {w w' : World} {a : Option Addr} {len cap : Nat} {zs : List Int} (h : IsRow k w a len cap zs) (hb : Below w.heap.size w w') : IsRow k w' a len cap zs := by
  rcases h with h | ⟨x, h1, h2, h3, h4, h5, h6⟩
  · exact .inl h
  · exact .inr ⟨x, h1, h2, h3, h4, fun i hi => (hb.cell (World.block_lt_of_cell? w _ (h5 i hi))).trans (h5 i hi), h6⟩
theorem bnext {w w1 w2 : World} (h : Below w.heap.size w w1) (h' : Below w1.heap.size w1 w2) : Below w.heap.size w w2 := h.trans (h'.mono h.size)
theorem bdrawn {w w' : World} (h : ∃ n, w.drewN n = w') : Below w.heap.size w w' := by
  obtain ⟨n, rfl⟩ := h
  exact below_drewN _ _ _
theorem IsRow.len_le {k : IntKind} {w : World} {a : Option Addr} {len cap : Nat} {zs : List Int} (h : IsRow k w a len cap zs) : len ≤ 9223372036854775807 := by
  rcases h with ⟨_, rfl, _, _⟩ | ⟨x, _, h1, h2, _⟩
  · omega
  · unfold maxLen at h2; omega
/-- What was there reads as it did. -/
theorem bcell {W w1 : World} (hb : Below W.heap.size W w1) : (∀ b o, b < W.heap.size → w1.cell? ⟨b, o, none⟩ = W.cell? ⟨b, o, none⟩) ∧ (∀ b o, b < W.heap.size → w1.frozen? ⟨b, o, none⟩ = W.frozen? ⟨b, o, none⟩) :=
  ⟨fun b o h => hb.cell (p := ⟨b, o, none⟩) h, fun b o h => hb.frozen (p := ⟨b, o, none⟩) h⟩
/-- Block k is a box of the call's own: just these cells, none frozen. -/
def Box (w : World) (k : Nat) (t : TypeId) (cs : Array Value) : Prop := w.heap[k]? = some (.cells cs t (0, 0))
section
variable {w w' : World} {k : Nat} {t : TypeId} {cs : Array Value}
theorem Box.lt (h : Box w k t cs) : k < w.heap.size := (Array.getElem?_eq_some_iff.1 h).1
theorem Box.below (h : Box w k t cs) (hb : Below w.heap.size w w') : Box w' k t cs := (hb.block k h.lt).trans h
theorem Box.cell (h : Box w k t cs) (i : Nat) : w.cell? ⟨k, i, none⟩ = cs[i]? := cell_of_row w k i cs t (0, 0) h
theorem Box.free (h : Box w k t cs) (i : Nat) : w.frozen? ⟨k, i, none⟩ = false := by
  unfold Box at h
  simp [World.frozen?, h]
theorem Box.new (w : World) (t : TypeId) (cs : Array Value) : Box (w.alloc (.cells cs t)) w.heap.size t cs := heap_alloc_new w _
theorem Box.alloc (h : Box w k t cs) (o : Obj) : Box (w.alloc o) k t cs := (Below.heap_alloc w o k h.lt).trans h
theorem Box.drewN (h : Box w k t cs) (n : Nat) : Box (w.drewN n) k t cs := h
theorem Box.far (h : Box w k t cs) {p : Addr} (hp : k ≠ p.block) (u : Value) : Box (w.setCell p u) k t cs := (Below.heap_setCell w p u k hp).trans h
theorem Box.set_ (h : Box w k t cs) (i : Nat) (u : Value) : Box (w.setCell ⟨k, i, none⟩ u) k t (cs.setIfInBounds i u) := by
  unfold Box at h ⊢
  simp [World.setCell, Array.getElem?_modify, h]
theorem Box.grown {row : Option Nat} (h : Box w k t cs) (hb : w.grownBy w' row) (hne : some k ≠ row) : Box w' k t cs := (hb.block k h.lt hne).trans h
end
/-- '[]T{}': a slice that is not nil and holds nothing. -/
theorem Row.none_ {α : Type} {enc : α → Value} {E : TypeId} (w : World) : Row enc E (w.alloc (.cells #[] E)) w.heap.size (.slice (some ⟨w.heap.size, 0, none⟩) 0 0) ([] : List α) :=
  World.ownsRow_made w #[] 0 (Nat.le_refl _) (Nat.zero_le _) (by simp)
theorem info_int : (Try.prog.info? 2).map (fun i => (i.zero, i.size, i.bytes)) = some (some (.int .i64 0), 1, 8) := by kernel_rfl
theorem Row.length_max {α : Type} {enc : α → Value} {E : TypeId} {w : World} {B : Nat} {v : Value} {xs : List α} (h : Row enc E w B v xs) : xs.length ≤ maxLen := by
  rcases h.form with ⟨_, rfl⟩ | ⟨g, c, _, _, _, h3, h4⟩
  · simp
  · omega
theorem info_bool : (Try.prog.info? 4).map (fun i => (i.zero, i.size, i.bytes)) = some (some (.bool false), 1, 1) := by kernel_rfl

theorem ownBlock_slice (g n c : Nat) : (Value.slice (some ⟨g, 0, none⟩) n c).ownBlock = some g := rfl


/-- 'out = append(out, y)' of one int64, out a slice of the call's own: y has been laid in a new block. -/
theorem append_one {ops : Array Oper} {rest : List Oper} {o : Oper} {a : Act} {Q : Exit → Act → World → Prop} {wr : World} (hgd : o.guard = none) (s x : Operand)
    (ho : o.op = .call { callee := .builtin .append, args := #[s, x], argTypes := #[22, 22] })
    (B : Nat) (v : Value) (xs : List Int) (y : Int) (hv : Ints wr B v xs) (hs : a.eval s = v) (hx : a.eval x = .slice (some ⟨wr.heap.size, 0, none⟩) 1 1)
    (hlen : xs.length < 1000000000) (hB : B ≤ wr.heap.size)
    (h : ∀ g c w', Ints w' B (.slice (some ⟨g, 0, none⟩) (xs.length + 1) c) (xs ++ [y]) → wr.grownBy w' v.ownBlock → wpList Try.prog ops Q rest (a.put o.dst (.slice (some ⟨g, 0, none⟩) (xs.length + 1) c)) w') :
    wpList Try.prog ops Q (o :: rest) a (wr.alloc (.cells #[.int .i64 y] 2)) := by
  obtain ⟨i0, hi, hz0, hz1, hz2⟩ := info_parts info_int
  have hown := World.ownsRow.alloc hv (.cells #[.int .i64 y] 2)
  refine wpList_append_own _ hgd s x 22 ho B 2 i0 (.int .i64 0) 1 8 Try.underlying22 hi hz0 hz1 hz2 rfl (by decide) v xs.length (xs.map (Value.int .i64)) hs hown ⟨wr.heap.size, 0, none⟩ 1 1 [.int .i64 y] hx rfl (cell_one_new _ _ _)
    (fun u hu => by simp at hu; subst hu; rfl) (by unfold maxLen; omega) (by omega) (by rw [World.size_alloc]; omega) ?_
  intro v' w' hown' hgrow _
  have hI : Ints w' B v' (xs ++ [y]) := by
    unfold Ints Row
    rw [List.length_append, List.map_append]
    exact hown'
  rcases hI.form with ⟨_, h2⟩ | ⟨g, c, rfl, _⟩
  · simp at h2
  · have e : (xs ++ [y]).length = xs.length + 1 := by simp
    rw [e] at hI ⊢
    refine h g c w' hI ⟨hgrow.os, hgrow.tape, hgrow.output, by have := hgrow.size; rw [World.size_alloc] at this; omega, fun k hk hne => ?_⟩
    exact (hgrow.block k (by rw [World.size_alloc]; omega) hne).trans (Below.heap_alloc _ _ _ hk)

end Go.Proofs.Ytcfdbjjfdddfeaa

namespace Go.Proofs.Ytcfdbjjfdddfeaa
open Go.RowKit Knot

theorem addr_of {w : World} {x : Addr} {u : Value} (h : w.cell? (x.add 0) = some u) : ∃ b off, x = ⟨b, off, none⟩ := by
  obtain ⟨b, off, spot⟩ := x
  have : spot = none := by simpa [Addr.add] using World.cell?_spot h
  subst this
  exact ⟨b, off, rfl⟩
theorem add_plain' (b off j : Nat) : (⟨b, off, none⟩ : Addr).add j = ⟨b, off + j, none⟩ := by unfold Addr.add; split <;> simp_all

theorem set_fill {α : Type} (l : List α) (d x : α) (n k : Nat) (hk : k < n) (hn : n ≤ l.length) (hx : l[k]? = some x) : (l.take k ++ List.replicate (n - k) d).set k x = l.take (k + 1) ++ List.replicate (n - (k + 1)) d := by
  have h1 : (l.take k).length = k := by simp; omega
  rw [List.set_append_right _ _ (by omega), h1, Nat.sub_self, show n - k = (n - (k + 1)) + 1 by omega, List.replicate_succ, List.set_cons_zero, List.take_add_one, hx]
  simp

set_option maxHeartbeats 1000000 in
theorem toInt64S_any (a : Option Addr) (len cap : Nat) (zs : List Int) (w : World) (hr : IsRow .i64 w a len cap zs) (hsz : len ≤ 1048576) :
    Calls Try.prog 54 #[.slice a len cap] w fun e w' => ∃ g, e = .returned (.slice (some ⟨g, 0, none⟩) len len) ∧ Ints w' w.heap.size (.slice (some ⟨g, 0, none⟩) len len) (zs.take len) ∧ Below w.heap.size w w' := by
  obtain ⟨i0, hi, hz0, hz1, hz2⟩ := info_parts info_int
  have hlz : len ≤ zs.length := by
    rcases hr with ⟨_, rfl, _, _⟩ | ⟨x, _, h1, _, h3, _⟩ <;> omega
  go_enter Try.func54, Try.ntmps54
  go_wp2_with (at_make; refine wpList_make_full _ rfl _ _ 22 rfl w.heap.size 2 i0 (.int .i64 0) 1 Try.underlying22 hi hz0 hz1 _ _ _ _ len rfl rfl (by omega) (by omega) (by rw [hz2]; omega) (by unfold maxLen; omega) (Nat.le_refl _) ?_)
  intro w1 hown hgrow
  have hb1 : Below w.heap.size w w1 := (Below.refl _ _).grown hgrow (Nat.le_refl _) (by simp)
  have H1 : Ints w1 w.heap.size (.slice (some ⟨w.heap.size, 0, none⟩) len len) (List.replicate len 0) := by
    unfold Ints Row
    rw [List.length_replicate, List.map_replicate]
    simpa [Value.cells, toList_madeCells_one] using hown
  clear hown hgrow
  go_wp2
  go_loopw [4] (fun i wr => ∃ k : Nat, k ≤ len ∧ i = .int .i64 k ∧ Ints wr w.heap.size (.slice (some ⟨w.heap.size, 0, none⟩) len len) (zs.take k ++ List.replicate (len - k) 0) ∧ Below w.heap.size w wr) (fun i _ => len - (intOf i).toNat)
  case atStart => exact ⟨0, Nat.zero_le _, rfl, by simpa using H1, hb1⟩
  case round =>
    obtain ⟨k, hk, rfl, hI, hb⟩ := hrel
    by_cases hlt : k < len
    · rcases hr with ⟨_, rfl, _, _⟩ | ⟨x, rfl, h1, h2, h3, hcell, hwf⟩
      · omega
      · obtain ⟨bb, off, rfl⟩ := addr_of (hcell 0 (by omega))
        have hc0 := hcell k (by omega)
        rw [add_plain'] at hc0
        have hbl : bb < w.heap.size := World.block_lt_of_cell? w _ hc0
        have hc : wr.cell? ⟨bb, off + k, none⟩ = some (.int .i64 (gI zs k)) := (hb.cell (p := ⟨bb, off + k, none⟩) hbl).trans hc0
        have hlen : (zs.take k ++ List.replicate (len - k) 0).length = len := by simp; omega
        have hs := hI.cell (k := k) (by omega)
        have hf := hI.free k
        have hset := hI.set_ k (gI zs k)
        rw [set_fill zs 0 (gI zs k) len k hlt (by omega) (by rw [gI_nat zs k (by omega)]; simp)] at hset
        have hb2 : Below w.heap.size w (wr.setCell ⟨w.heap.size, k, none⟩ (.int .i64 (gI zs k))) := hb.setCell (p := ⟨w.heap.size, k, none⟩) (Nat.le_refl _) _
        clear hI hc0 hcell
        go_wp2
        go_roundw
        case rel => exact ⟨k + 1, by omega, by go_num, hset, hb2⟩
        case measure => simp [intOf]; omega
    · have e : k = len := by omega
      subst e
      simp only [Nat.sub_self, List.replicate_zero, List.append_nil] at hI
      go_wp2
      go_ret
      exact ⟨_, rfl, hI, hb⟩
theorem eq_of_gI {xs ys : List Int} (hl : xs.length = ys.length) (h : ∀ j : Nat, j < xs.length → gI xs j = gI ys j) : xs = ys := by
  refine List.ext_getElem hl fun j h1 h2 => ?_
  have := h j h1
  rwa [gI_nat xs j h1, gI_nat ys j h2] at this

set_option maxHeartbeats 1000000 in
theorem eqInt64S_any (v u : Value) (xs ys : List Int) (w : World) (B C : Nat) (hx : Ints w B v xs) (hy : Ints w C u ys) (c : Bool) (hc : decide (xs = ys) = c) :
    Calls Try.prog 56 #[v, u] w fun e w' => e = .returned (.bool c) ∧ ∃ n, w.drewN n = w' := by
  obtain ⟨A, cA, rfl, lA, hA⟩ := hx.open_
  obtain ⟨D, cD, rfl, lD, hD⟩ := hy.open_
  unfold maxLen at lA lD
  by_cases hl : xs.length = ys.length
  · have hln : ((xs.length : Int) != (ys.length : Int)) = false := by simp [hl]
    have hl1 : xs.length ≤ ys.length := by omega
    have hl2 : ys.length ≤ xs.length := by omega
    have HL := Lib.hid hl
    clear hl
    go_enter Try.func56, Try.ntmps56
    go_wp2
    go_loopw [5] (fun i wr => ∃ k : Nat, k ≤ xs.length ∧ i = .int .i64 k ∧ (∃ n, w.drewN n = wr) ∧ Hid (∀ j : Nat, j < k → gI xs j = gI ys j)) (fun i _ => xs.length - (intOf i).toNat)
    case atStart => exact ⟨0, Nat.zero_le _, rfl, ⟨0, rfl⟩, fun j hj => absurd hj (by omega)⟩
    case round =>
      obtain ⟨k, hk, rfl, ⟨n, rfl⟩, hall⟩ := hrel
      by_cases hlt : k < xs.length
      · obtain ⟨g, rfl, _, _⟩ := hA (by omega)
        obtain ⟨g', rfl, _, _⟩ := hD (by omega)
        have c1 := Ints.cell hx (k := k) hlt
        have c2 := Ints.cell hy (k := k) (by omega)
        have i1 : (k : Int) < (xs.length : Int) := by omega
        have i2 : (k : Int) < (ys.length : Int) := by omega
        have i0 : (0 : Int) ≤ (k : Int) := by omega
        by_cases he : gI xs k = gI ys k
        · have hne : (gI xs k != gI ys k) = false := by simp [he]
          have HE := Lib.hid he
          clear hc hA hD hx hy he
          go_wp2
          go_quiet (fail)
          go_wp2
          go_roundw
          case rel => exact ⟨k + 1, by omega, by go_num, ⟨_, rfl⟩, fun j hj => by
            by_cases hjk : j = k
            · subst hjk; exact HE.out
            · exact hall.out j (by omega)⟩
          case measure => simp [intOf]; omega
        · have hne : (gI xs k != gI ys k) = true := by simp [he]
          have hcf : c = false := by
            rw [← hc]
            refine decide_eq_false fun e => he ?_
            rw [e]
          subst hcf
          clear hc hA hD hx hy he
          go_wp2
          go_quiet (fail)
          go_wp2
          go_ret
          exact ⟨rfl, drawn2 _ _ _⟩
      · have hct : c = true := by
          rw [← hc]
          exact decide_eq_true (eq_of_gI HL.out fun j hj => hall.out j (by omega))
        subst hct
        clear hc hA hD hx hy
        go_wp2
        go_ret
        exact ⟨rfl, n, rfl⟩
  · have hln : ((xs.length : Int) != (ys.length : Int)) = true := by simp; omega
    have hcf : c = false := by
      rw [← hc]
      refine decide_eq_false fun e => hl ?_
      rw [e]
    subst hcf
    clear hc hA hD hx hy hl
    go_enter Try.func56, Try.ntmps56
    go_wp2
    go_ret
    exact ⟨rfl, 0, rfl⟩

/-- The numbers from k on, as many as n. -/
def upFrom (k : Int) (n : Nat) : List Int := (List.range n).map fun j : Nat => k + (j : Int)
theorem upFrom_length (k : Int) (n : Nat) : (upFrom k n).length = n := by simp [upFrom]
theorem upFrom_get (k : Int) (n j : Nat) (h : j < n) : (upFrom k n)[j]? = some (k + j) := by simp [upFrom, h]

set_option maxHeartbeats 1000000 in
theorem markInt64S_any (v : Value) (xs : List Int) (k0 : Int) (w : World) (B : Nat) (hx : Ints w B v xs) (hk0 : 0 ≤ k0) (hk1 : k0 + xs.length ≤ 4000000000000000000) :
    Calls Try.prog 60 #[v, .int .i64 k0] w fun e w' => e = .returned (.int .i64 (k0 + xs.length)) ∧ Ints w' B v (upFrom k0 xs.length) ∧ w.grownBy w' v.ownBlock := by
  obtain ⟨A, cA, rfl, lA, hA⟩ := hx.open_
  unfold maxLen at lA
  go_enter Try.func60, Try.ntmps60
  go_wp2
  go_loopw [1, 5] (fun m i wr => ∃ k : Nat, k ≤ xs.length ∧ m = .int .i64 (k0 + k) ∧ i = .int .i64 k ∧ Ints wr B (.slice A xs.length cA) ((upFrom k0 xs.length).take k ++ xs.drop k) ∧ w.grownBy wr (Value.slice A xs.length cA).ownBlock) (fun _ i _ => xs.length - (intOf i).toNat)
  case atStart => exact ⟨0, Nat.zero_le _, by simp, rfl, by simpa using hx, World.grownBy.refl _ _⟩
  case round =>
    obtain ⟨k, hk, rfl, rfl, hI, hg⟩ := hrel
    by_cases hlt : k < xs.length
    · obtain ⟨g, rfl, _, _⟩ := hA (by omega)
      have hlen : ((upFrom k0 xs.length).take k ++ xs.drop k).length = xs.length := by simp [upFrom_length]; omega
      have hs := hI.cell (k := k) (by omega)
      have hf := hI.free k
      have hset := hI.set_ k (k0 + (k : Int))
      have e1 : ((upFrom k0 xs.length).take k ++ xs.drop k).set k (k0 + (k : Int)) = (upFrom k0 xs.length).take (k + 1) ++ xs.drop (k + 1) := by
        have h1 : ((upFrom k0 xs.length).take k).length = k := by simp [upFrom_length]; omega
        rw [List.set_append_right _ _ (by omega), h1, Nat.sub_self, List.drop_eq_getElem_cons hlt, List.set_cons_zero, List.take_add_one, upFrom_get _ _ _ hlt]
        simp
      rw [e1] at hset
      have hg2 : w.grownBy (wr.setCell ⟨g, k, none⟩ (.int .i64 (k0 + (k : Int)))) (some g) :=
        ⟨hg.os, hg.tape, hg.output, by simpa [World.setCell] using hg.size, fun i hi hne => (Below.heap_setCell wr ⟨g, k, none⟩ _ i (fun e => hne (by rw [e]))).trans (hg.block i hi hne)⟩
      have i1 : (k : Int) < (xs.length : Int) := by omega
      clear hI hA hx e1 hlen
      go_wp2
      go_roundw
      case rel => exact ⟨k + 1, by omega, by go_num, by go_num, hset, hg2⟩
      case measure => simp [intOf]; omega
    · have e : k = xs.length := by omega
      subst e
      simp only [List.drop_length, List.append_nil] at hI
      rw [List.take_of_length_le (by simp [upFrom_length])] at hI
      clear hA hx
      go_wp2
      go_ret
      exact ⟨rfl, hI, hg⟩

set_option maxHeartbeats 1000000 in
theorem heldInt64S_any (v : Value) (n : Nat) (k0 : Int) (w : World) (B : Nat) (hx : Ints w B v (upFrom k0 n)) (hk0 : 0 ≤ k0) (hk1 : k0 + n ≤ 4000000000000000000) :
    Calls Try.prog 61 #[v, .int .i64 k0] w fun e w' => e = .returned (.int .i64 (k0 + n)) ∧ w = w' := by
  obtain ⟨A, cA, rfl, lA, hA⟩ := hx.open_
  rw [upFrom_length] at lA hA hx ⊢
  unfold maxLen at lA
  go_enter Try.func61, Try.ntmps61
  go_wp2
  go_loop [1, 5] (fun m i => ∃ k : Nat, k ≤ n ∧ m = .int .i64 (k0 + k) ∧ i = .int .i64 k) (fun _ i => n - (intOf i).toNat)
  case atStart => exact ⟨0, Nat.zero_le _, by simp, rfl⟩
  case round =>
    obtain ⟨k, hk, rfl, rfl⟩ := hrel
    by_cases hlt : k < n
    · obtain ⟨g, rfl, _, _⟩ := hA (by omega)
      have hs := hx.cell (k := k) (by rw [upFrom_length]; exact hlt)
      have e1 : gI (upFrom k0 n) k = k0 + k := by
        rw [gI_nat _ _ (by rw [upFrom_length]; exact hlt)]
        simp [upFrom]
      rw [e1] at hs
      have i1 : (k : Int) < (n : Int) := by omega
      have hne : (k0 + (k : Int) != k0 + (k : Int)) = false := by simp
      clear hA hx e1
      go_wp2
      go_round
      case rel => exact ⟨k + 1, by omega, by go_num, by go_num⟩
      case measure => simp [intOf]; omega
    · have e : k = n := by omega
      subst e
      clear hA hx
      go_wp2
      go_ret
      exact ⟨rfl, rfl⟩

set_option maxHeartbeats 400000 in
theorem szInt64S_any (a : Option Addr) (len cap : Nat) (left : Int) (w : World) (h0 : 0 ≤ left) (h1 : left ≤ 1048576) (hl : len ≤ 9223372036854775807) :
    Calls Try.prog 52 #[.slice a len cap, .int .i64 left] w fun e w' => e = .returned (.int .i64 (if (len : Int) ≤ left then left - len else -1)) ∧ w = w' := by
  by_cases h : (len : Int) ≤ left
  · rw [if_pos h]
    go_enter Try.func52, Try.ntmps52
    go_wp2
    go_ret
    exact ⟨rfl, rfl⟩
  · rw [if_neg h]
    go_enter Try.func52, Try.ntmps52
    go_wp2
    go_ret
    exact ⟨rfl, rfl⟩
end Go.Proofs.Ytcfdbjjfdddfeaa

namespace Go.Proofs.Ytcfdbjjfdddfeaa
open Go.RowKit Knot

set_option maxHeartbeats 1000000 in
theorem l00Same_any (v u : Value) (xs ys : List Int) (w : World) (B C : Nat) (hx : Ints w B v xs) (hy : Ints w C u ys) (c : Bool) (hc : decide (xs = ys) = c) :
    Calls Try.prog 53 #[v, u] w fun e w' => e = .returned (.bool c) ∧ ∃ n, w.drewN n = w' := by
  obtain ⟨A, cA, rfl, lA, hA⟩ := hx.open_
  obtain ⟨D, cD, rfl, lD, hD⟩ := hy.open_
  unfold maxLen at lA lD
  by_cases hl : xs.length = ys.length
  · have hln : ((xs.length : Int) != (ys.length : Int)) = false := by simp [hl]
    have hl1 : xs.length ≤ ys.length := by omega
    have hl2 : ys.length ≤ xs.length := by omega
    have HL := Lib.hid hl
    clear hl
    go_enter Try.func53, Try.ntmps53
    go_wp2
    go_loopw [5] (fun i wr => ∃ k : Nat, k ≤ xs.length ∧ i = .int .i64 k ∧ (∃ n, w.drewN n = wr) ∧ Hid (∀ j : Nat, j < k → gI xs j = gI ys j)) (fun i _ => xs.length - (intOf i).toNat)
    case atStart => exact ⟨0, Nat.zero_le _, rfl, ⟨0, rfl⟩, fun j hj => absurd hj (by omega)⟩
    case round =>
      obtain ⟨k, hk, rfl, ⟨n, rfl⟩, hall⟩ := hrel
      by_cases hlt : k < xs.length
      · obtain ⟨g, rfl, _, _⟩ := hA (by omega)
        obtain ⟨g', rfl, _, _⟩ := hD (by omega)
        have c1 := Ints.cell hx (k := k) hlt
        have c2 := Ints.cell hy (k := k) (by omega)
        have i1 : (k : Int) < (xs.length : Int) := by omega
        have i2 : (k : Int) < (ys.length : Int) := by omega
        have i0 : (0 : Int) ≤ (k : Int) := by omega
        by_cases he : gI xs k = gI ys k
        · have hne : (gI xs k != gI ys k) = false := by simp [he]
          have HE := Lib.hid he
          clear hc hA hD hx hy he
          go_wp2
          go_quiet (fail)
          go_wp2
          go_roundw
          case rel => exact ⟨k + 1, by omega, by go_num, ⟨_, rfl⟩, fun j hj => by
            by_cases hjk : j = k
            · subst hjk; exact HE.out
            · exact hall.out j (by omega)⟩
          case measure => simp [intOf]; omega
        · have hne : (gI xs k != gI ys k) = true := by simp [he]
          have hcf : c = false := by
            rw [← hc]
            refine decide_eq_false fun e => he ?_
            rw [e]
          subst hcf
          clear hc hA hD hx hy he
          go_wp2
          go_quiet (fail)
          go_wp2
          go_ret
          exact ⟨rfl, drawn2 _ _ _⟩
      · have hct : c = true := by
          rw [← hc]
          exact decide_eq_true (eq_of_gI HL.out fun j hj => hall.out j (by omega))
        subst hct
        clear hc hA hD hx hy
        go_wp2
        go_ret
        exact ⟨rfl, n, rfl⟩
  · have hln : ((xs.length : Int) != (ys.length : Int)) = true := by simp; omega
    have hcf : c = false := by
      rw [← hc]
      refine decide_eq_false fun e => hl ?_
      rw [e]
    subst hcf
    clear hc hA hD hx hy hl
    go_enter Try.func53, Try.ntmps53
    go_wp2
    go_ret
    exact ⟨rfl, 0, rfl⟩
set_option maxHeartbeats 1000000 in
theorem Equal_any (v u : Value) (xs ys : List Int) (w : World) (B C : Nat) (hx : Ints w B v xs) (hy : Ints w C u ys) (c : Bool) (hc : decide (xs = ys) = c) :
    Calls Try.prog 55 #[v, u] w fun e w' => e = .returned (.bool c) ∧ ∃ n, w.drewN n = w' := by
  obtain ⟨A, cA, rfl, lA, hA⟩ := hx.open_
  obtain ⟨D, cD, rfl, lD, hD⟩ := hy.open_
  unfold maxLen at lA lD
  by_cases hl : xs.length = ys.length
  · have hln : ((xs.length : Int) != (ys.length : Int)) = false := by simp [hl]
    have hl1 : xs.length ≤ ys.length := by omega
    have hl2 : ys.length ≤ xs.length := by omega
    have HL := Lib.hid hl
    clear hl
    go_enter Try.func55, Try.ntmps55
    go_wp2
    go_loopw [13] (fun i wr => ∃ k : Nat, k ≤ xs.length ∧ i = .int .i64 k ∧ (∃ n, w.drewN n = wr) ∧ Hid (∀ j : Nat, j < k → gI xs j = gI ys j)) (fun i _ => xs.length - (intOf i).toNat)
    case atStart => exact ⟨0, Nat.zero_le _, rfl, ⟨0, rfl⟩, fun j hj => absurd hj (by omega)⟩
    case round =>
      obtain ⟨k, hk, rfl, ⟨n, rfl⟩, hall⟩ := hrel
      by_cases hlt : k < xs.length
      · obtain ⟨g, rfl, _, _⟩ := hA (by omega)
        obtain ⟨g', rfl, _, _⟩ := hD (by omega)
        have c1 := Ints.cell hx (k := k) hlt
        have c2 := Ints.cell hy (k := k) (by omega)
        have i1 : (k : Int) < (xs.length : Int) := by omega
        have i2 : (k : Int) < (ys.length : Int) := by omega
        have i0 : (0 : Int) ≤ (k : Int) := by omega
        by_cases he : gI xs k = gI ys k
        · have hne : (gI xs k != gI ys k) = false := by simp [he]
          have HE := Lib.hid he
          clear hc hA hD hx hy he
          go_wp2
          go_quiet (fail)
          go_wp2
          go_roundw
          case rel => exact ⟨k + 1, by omega, by go_num, ⟨_, rfl⟩, fun j hj => by
            by_cases hjk : j = k
            · subst hjk; exact HE.out
            · exact hall.out j (by omega)⟩
          case measure => simp [intOf]; omega
        · have hne : (gI xs k != gI ys k) = true := by simp [he]
          have hcf : c = false := by
            rw [← hc]
            refine decide_eq_false fun e => he ?_
            rw [e]
          subst hcf
          clear hc hA hD hx hy he
          go_wp2
          go_quiet (fail)
          go_wp2
          go_ret
          exact ⟨rfl, drawn2 _ _ _⟩
      · have hct : c = true := by
          rw [← hc]
          exact decide_eq_true (eq_of_gI HL.out fun j hj => hall.out j (by omega))
        subst hct
        clear hc hA hD hx hy
        go_wp2
        go_ret
        exact ⟨rfl, n, rfl⟩
  · have hln : ((xs.length : Int) != (ys.length : Int)) = true := by simp; omega
    have hcf : c = false := by
      rw [← hc]
      refine decide_eq_false fun e => hl ?_
      rw [e]
    subst hcf
    clear hc hA hD hx hy hl
    go_enter Try.func55, Try.ntmps55
    go_wp2
    go_ret
    exact ⟨rfl, 0, rfl⟩
end Go.Proofs.Ytcfdbjjfdddfeaa

namespace Go.Proofs.Ytcfdbjjfdddfeaa
open Go.RowKit Knot

/-- From a to b only blocks from lo to hi (and new ones) have turned. -/
structure Chg (lo hi : Nat) (w w' : World) : Prop where
  os : w'.os = w.os
  tape : w'.tape = w.tape
  output : w'.output = w.output
  size : w.heap.size ≤ w'.heap.size
  block : ∀ k, k < w.heap.size → (k < lo ∨ hi ≤ k) → w'.heap[k]? = w.heap[k]?

theorem Chg.ofBelow {lo hi : Nat} {w w' : World} (h : Below w.heap.size w w') : Chg lo hi w w' := ⟨h.os, h.tape, h.output, h.size, fun k hk _ => h.block k hk⟩
theorem Chg.trans {lo hi : Nat} {a b c : World} (h : Chg lo hi a b) (k : Chg lo hi b c) : Chg lo hi a c :=
  ⟨k.os.trans h.os, k.tape.trans h.tape, k.output.trans h.output, Nat.le_trans h.size k.size, fun i hi hd => (k.block i (Nat.lt_of_lt_of_le hi h.size) hd).trans (h.block i hi hd)⟩
theorem Chg.toBelow {lo hi B : Nat} {w w' : World} (h : Chg lo hi w w') (hB : B ≤ lo) (hs : B ≤ w.heap.size) : Below B w w' := ⟨h.os, h.tape, h.output, h.size, fun k hk => h.block k (by omega) (.inl (by omega))⟩
theorem Chg.mono {lo hi lo' hi' : Nat} {w w' : World} (h : Chg lo hi w w') (h1 : lo' ≤ lo) (h2 : hi ≤ hi') : Chg lo' hi' w w' := ⟨h.os, h.tape, h.output, h.size, fun k hk hd => h.block k hk (by omega)⟩
theorem bchg {lo hi : Nat} {w a b : World} (h : Below w.heap.size w a) (k : Chg lo hi a b) (hlo : w.heap.size ≤ lo) : Below w.heap.size w b := h.trans (k.toBelow hlo h.size)
theorem Box.chg {w w' : World} {k : Nat} {t : TypeId} {cs : Array Value} (h : Box w k t cs) {lo hi : Nat} (hb : Chg lo hi w w') (hd : k < lo ∨ hi ≤ k) : Box w' k t cs := (hb.block k h.lt hd).trans h

/-- A slice of int64 whose row lies from block lo on and below block hi. -/
def IntsIn (w : World) (lo hi : Nat) (v : Value) (xs : List Int) : Prop := Ints w lo v xs ∧ (∀ k, v.ownBlock = some k → k < hi) ∧ hi ≤ w.heap.size ∧ xs.length ≤ 2000000
section
variable {w w' : World} {lo hi : Nat} {v : Value} {xs : List Int}
theorem IntsIn.ofInts (h : Ints w lo v xs) (hl : xs.length ≤ 2000000) : IntsIn w lo w.heap.size v xs := ⟨h, fun _ hk => (Row.lt h hk).2, Nat.le_refl _, hl⟩
theorem IntsIn.len (h : IntsIn w lo hi v xs) : xs.length ≤ 2000000 := h.2.2.2
theorem IntsIn.hi_le (h : IntsIn w lo hi v xs) : hi ≤ w.heap.size := h.2.2.1
theorem IntsIn.ints (h : IntsIn w lo hi v xs) : Ints w 0 v xs := Row.le h.1 (Nat.zero_le _)
theorem IntsIn.chg (h : IntsIn w lo hi v xs) {lo' hi' : Nat} (hb : Chg lo' hi' w w') (hd : hi ≤ lo' ∨ hi' ≤ lo) : IntsIn w' lo hi v xs :=
  ⟨Row.keep h.1 fun g hg hs => hb.block g hs (by have := h.2.1 g hg; have := (Row.lt h.1 hg).1; omega), h.2.1, Nat.le_trans h.2.2.1 hb.size, h.2.2.2⟩
theorem IntsIn.below (h : IntsIn w lo hi v xs) (hb : Below w.heap.size w w') : IntsIn w' lo hi v xs := ⟨Row.below h.1 hb, h.2.1, Nat.le_trans h.2.2.1 hb.size, h.2.2.2⟩
theorem IntsIn.wider (h : IntsIn w lo hi v xs) {lo' hi' : Nat} (h1 : lo' ≤ lo) (h2 : hi ≤ hi') (h3 : hi' ≤ w.heap.size) : IntsIn w lo' hi' v xs := ⟨Row.le h.1 h1, fun k hk => by have := h.2.1 k hk; omega, h3, h.2.2.2⟩
theorem IntsIn.nil (w : World) (lo hi : Nat) (h : hi ≤ w.heap.size) : IntsIn w lo hi (.slice none 0 0) [] := ⟨Row.nil w lo, fun k hk => by simp [Value.ownBlock] at hk, h, by simp⟩
theorem IntsIn.alloc (h : IntsIn w lo hi v xs) (o : Obj) : IntsIn (w.alloc o) lo hi v xs := h.below (Joins.below_alloc1 _ _)
end

theorem IsRow.alloc {k : IntKind} {w : World} {a : Option Addr} {len cap : Nat} {zs : List Int} (h : IsRow k w a len cap zs) (o : Obj) : IsRow k (w.alloc o) a len cap zs := h.below (Joins.below_alloc1 _ _)

theorem toInts_any (a : Option Addr) (len cap : Nat) (zs : List Int) (w : World) (hr : IsRow .i64 w a len cap zs) (hsz : len ≤ 1048576) :
    Calls Try.prog 54 #[.slice a len cap] w fun e w' => ∃ g, e = .returned (.slice (some ⟨g, 0, none⟩) len len) ∧ IntsIn w' w.heap.size w'.heap.size (.slice (some ⟨g, 0, none⟩) len len) (zs.take len) ∧ Below w.heap.size w w' :=
  (toInt64S_any a len cap zs w hr hsz).mono fun _ _ ⟨g, he, hi, hb⟩ => ⟨g, he, IntsIn.ofInts hi (by simp; omega), hb⟩
theorem eqInts_any (v u : Value) (xs ys : List Int) (w : World) (lo hi lo' hi' : Nat) (hx : IntsIn w lo hi v xs) (hy : IntsIn w lo' hi' u ys) (c : Bool) (hc : decide (xs = ys) = c) :
    Calls Try.prog 56 #[v, u] w fun e w' => e = .returned (.bool c) ∧ Below w.heap.size w w' :=
  (eqInt64S_any v u xs ys w lo lo' hx.1 hy.1 c hc).mono fun _ _ ⟨he, hb⟩ => ⟨he, bdrawn hb⟩
theorem markInts_any (v : Value) (xs : List Int) (k0 : Int) (w : World) (lo hi : Nat) (hx : IntsIn w lo hi v xs) (hk0 : 0 ≤ k0) (hk1 : k0 + xs.length ≤ 4000000000000000000) :
    Calls Try.prog 60 #[v, .int .i64 k0] w fun e w' => e = .returned (.int .i64 (k0 + xs.length)) ∧ IntsIn w' lo hi v (upFrom k0 xs.length) ∧ Chg lo hi w w' :=
  (markInt64S_any v xs k0 w lo hx.1 hk0 hk1).mono fun _ _ ⟨he, hi', hg⟩ => ⟨he, ⟨hi', hx.2.1, Nat.le_trans hx.2.2.1 hg.size, by rw [upFrom_length]; exact hx.2.2.2⟩, ⟨hg.os, hg.tape, hg.output, hg.size, fun k hk hd => hg.block k hk (fun e => by
    have h1 := (Row.lt hx.1 e.symm).1
    have h2 := hx.2.1 k e.symm
    omega)⟩⟩
theorem heldInts_any (v : Value) (n : Nat) (k0 : Int) (w : World) (lo hi : Nat) (hx : IntsIn w lo hi v (upFrom k0 n)) (hk0 : 0 ≤ k0) (hk1 : k0 + n ≤ 4000000000000000000) :
    Calls Try.prog 61 #[v, .int .i64 k0] w fun e w' => e = .returned (.int .i64 (k0 + n)) ∧ Below w.heap.size w w' :=
  (heldInt64S_any v n k0 w lo hx.1 hk0 hk1).mono fun _ _ ⟨he, hw⟩ => ⟨he, by rw [← hw]; exact Below.refl _ _⟩

/-! ### The same, in the form that the laws' walks take -/
section
variable {w : World} {lo hi lo' hi' : Nat} {v u : Value} {xs ys : List Int} {k0 : Int} {r : Bool}
theorem K_eqInts (hx : IntsIn w lo hi v xs) (hy : IntsIn w lo' hi' u ys) (hr : decide (xs = ys) = r) : Calls Try.prog 56 #[v, u] w fun e w' => e = .returned (.bool r) ∧ Below w.heap.size w w' :=
  eqInts_any v u xs ys w lo hi lo' hi' hx hy r hr
theorem K_markInts (hx : IntsIn w lo hi v xs) (hk0 : 0 ≤ k0) (hk1 : k0 ≤ 1000000000000) :
    Calls Try.prog 60 #[v, .int .i64 k0] w fun e w' => e = .returned (.int .i64 (k0 + xs.length)) ∧ IntsIn w' lo hi v (upFrom k0 xs.length) ∧ Chg lo hi w w' :=
  markInts_any v xs k0 w lo hi hx hk0 (by have := hx.len; omega)
theorem K_heldInts {n : Nat} (hx : IntsIn w lo hi v (upFrom k0 n)) (hk0 : 0 ≤ k0) (hk1 : k0 ≤ 1000000000000) :
    Calls Try.prog 61 #[v, .int .i64 k0] w fun e w' => e = .returned (.int .i64 (k0 + n)) ∧ Below w.heap.size w w' :=
  heldInts_any v n k0 w lo hi hx hk0 (by have := hx.len; rw [upFrom_length] at this; omega)
end
end Go.Proofs.Ytcfdbjjfdddfeaa

namespace Go.Proofs.Ytcfdbjjfdddfeaa
open Go.RowKit Knot

theorem cut_alloc {V w : World} (h : Below V.heap.size V w) (o : Obj) : Below V.heap.size V (w.alloc o) := bnext h (Joins.below_alloc1 _ _)
theorem cut_set {V w : World} (h : Below V.heap.size V w) {p : Addr} (hp : V.heap.size ≤ p.block) (u : Value) : Below V.heap.size V (w.setCell p u) := h.setCell hp u
theorem cut_le {V w : World} (h : Below V.heap.size V w) : V.heap.size ≤ w.heap.size := h.size
theorem cut_box2 {w : World} {k : Nat} {t : TypeId} {u0 u1 : Value} (h : Box w k t #[u0, u1]) (a b : Value) : Box ((w.setCell ⟨k, 0, none⟩ a).setCell ⟨k, 1, none⟩ b) k t #[a, b] := by
  simpa using (h.set_ 0 a).set_ 1 b
theorem cut_box3 {w : World} {k : Nat} {t : TypeId} {u0 u1 u2 : Value} (h : Box w k t #[u0, u1, u2]) (a b c : Value) : Box (((w.setCell ⟨k, 0, none⟩ a).setCell ⟨k, 1, none⟩ b).setCell ⟨k, 2, none⟩ c) k t #[a, b, c] := by
  simpa using ((h.set_ 0 a).set_ 1 b).set_ 2 c
theorem cut_drew {V : World} : Below V.heap.size V V.drew := below_drewN _ _ 1
theorem cut_drewbox {w : World} {k : Nat} {t : TypeId} {cs : Array Value} (h : Box w k t cs) : Box w.drew k t cs := h
end Go.Proofs.Ytcfdbjjfdddfeaa

namespace Go.Proofs.Ytcfdbjjfdddfeaa
open Go.RowKit Knot

/-- 'out = append(out, y)' of one int64, out a slice of the call's own: y has been laid in a new block; the row is the old one or a new one. -/
theorem append_one_at {ops : Array Oper} {rest : List Oper} {o : Oper} {a : Act} {Q : Exit → Act → World → Prop} {wr : World} (hgd : o.guard = none) (s x : Operand)
    (ho : o.op = .call { callee := .builtin .append, args := #[s, x], argTypes := #[22, 22] })
    (B H : Nat) (v : Value) (xs : List Int) (y : Int) (hv : Ints wr B v xs) (hs : a.eval s = v) (hx : a.eval x = .slice (some ⟨H, 0, none⟩) 1 1) (hH : wr.heap.size = H)
    (hlen : xs.length < 1000000000) (hB : B ≤ wr.heap.size)
    (h : ∀ g c w', Ints w' B (.slice (some ⟨g, 0, none⟩) (xs.length + 1) c) (xs ++ [y]) → wr.grownBy w' v.ownBlock → (v.ownBlock = some g ∨ wr.heap.size ≤ g) →
      wpList Try.prog ops Q rest (a.put o.dst (.slice (some ⟨g, 0, none⟩) (xs.length + 1) c)) w') :
    wpList Try.prog ops Q (o :: rest) a (wr.alloc (.cells #[.int .i64 y] 2)) := by
  subst hH
  obtain ⟨i0, hi, hz0, hz1, hz2⟩ := info_parts info_int
  have hown := World.ownsRow.alloc hv (.cells #[.int .i64 y] 2)
  refine wpList_append_own_at _ hgd s x 22 ho B 2 i0 (.int .i64 0) 1 8 Try.underlying22 hi hz0 hz1 hz2 rfl (by decide) v xs.length (xs.map (Value.int .i64)) hs hown ⟨wr.heap.size, 0, none⟩ 1 1 [.int .i64 y] hx rfl (cell_one_new _ _ _)
    (fun u hu => by simp at hu; subst hu; rfl) (by unfold maxLen; omega) (by omega) (by rw [World.size_alloc]; omega) ?_
  intro v' w' hown' hgrow _ hat
  have hI : Ints w' B v' (xs ++ [y]) := by
    unfold Ints Row
    rw [List.length_append, List.map_append]
    exact hown'
  rcases hI.form with ⟨_, h2⟩ | ⟨g, c, rfl, _⟩
  · simp at h2
  · have e : (xs ++ [y]).length = xs.length + 1 := by simp
    rw [e] at hI hat ⊢
    refine h g c w' hI ⟨hgrow.os, hgrow.tape, hgrow.output, by have := hgrow.size; rw [World.size_alloc] at this; omega, fun k hk hne => ?_⟩ ?_
    · exact (hgrow.block k (by rw [World.size_alloc]; omega) hne).trans (Below.heap_alloc _ _ _ hk)
    · rcases hat with e | e
      · exact .inl e.symm
      · rw [World.size_alloc] at e
        simp [Value.ownBlock] at e
        exact .inr (by omega)
end Go.Proofs.Ytcfdbjjfdddfeaa

namespace Go.Proofs.Ytcfdbjjfdddfeaa
open Go.RowKit Knot

theorem append_gen {α : Type} {enc : α → Value} {T E : TypeId} {z : Value} {bytes : Nat} (hT : Try.prog.underlying T = some (.slice E)) (hinfo : (Try.prog.info? E).map (fun i => (i.zero, i.size, i.bytes)) = some (some z, 1, bytes)) (hzs : z.cells.size = 1) (hby : bytes ≤ 64)
    {ops : Array Oper} {rest : List Oper} {o : Oper} {a : Act} {Q : Exit → Act → World → Prop} {wr : World} (hgd : o.guard = none) (s x : Operand)
    (ho : o.op = .call { callee := .builtin .append, args := #[s, x], argTypes := #[T, T] })
    (B H : Nat) (v : Value) (xs : List α) (y : α) (henc : (enc y).oneCell' = true) (hv : Row enc E wr B v xs) (hs : a.eval s = v) (hx : a.eval x = .slice (some ⟨H, 0, none⟩) 1 1) (hH : wr.heap.size = H)
    (hlen : xs.length < 1000000000) (hB : B ≤ wr.heap.size)
    (h : ∀ g c w', Row enc E w' B (.slice (some ⟨g, 0, none⟩) (xs.length + 1) c) (xs ++ [y]) → wr.grownBy w' v.ownBlock → (v.ownBlock = some g ∨ wr.heap.size ≤ g) →
      wpList Try.prog ops Q rest (a.put o.dst (.slice (some ⟨g, 0, none⟩) (xs.length + 1) c)) w') :
    wpList Try.prog ops Q (o :: rest) a (wr.alloc (.cells #[enc y] E)) := by
  subst hH
  obtain ⟨i0, hi, hz0, hz1, hz2⟩ := info_parts hinfo
  have hown := World.ownsRow.alloc hv (.cells #[enc y] E)
  refine wpList_append_own_at _ hgd s x T ho B E i0 z 1 bytes hT hi hz0 hz1 hz2 hzs (by decide) v xs.length (xs.map enc) hs hown ⟨wr.heap.size, 0, none⟩ 1 1 [enc y] hx rfl (cell_one_new _ _ _)
    (fun u hu => by simp at hu; subst hu; exact henc) (by unfold maxLen; omega) (by
      have : (xs.length + 1) * bytes ≤ 1000000000 * 64 := Nat.mul_le_mul (by omega) hby
      omega) (by rw [World.size_alloc]; omega) ?_
  intro v' w' hown' hgrow _ hat
  have hI : Row enc E w' B v' (xs ++ [y]) := by
    unfold Row
    rw [List.length_append, List.map_append]
    exact hown'
  rcases hI.form with ⟨_, h2⟩ | ⟨g, c, rfl, _⟩
  · simp at h2
  · have e : (xs ++ [y]).length = xs.length + 1 := by simp
    rw [e] at hI hat ⊢
    refine h g c w' hI ⟨hgrow.os, hgrow.tape, hgrow.output, by have := hgrow.size; rw [World.size_alloc] at this; omega, fun k hk hne => ?_⟩ ?_
    · exact (hgrow.block k (by rw [World.size_alloc]; omega) hne).trans (Below.heap_alloc _ _ _ hk)
    · rcases hat with e | e
      · exact .inl e.symm
      · rw [World.size_alloc] at e
        simp [Value.ownBlock] at e
        exact .inr (by omega)
/-- 'append(a, b...)' of two rows of one-cell elements. -/
theorem append_rows {α : Type} {enc : α → Value} {T E : TypeId} {z : Value} {bytes : Nat} (hT : Try.prog.underlying T = some (.slice E)) (hinfo : (Try.prog.info? E).map (fun i => (i.zero, i.size, i.bytes)) = some (some z, 1, bytes)) (hzs : z.cells.size = 1) (hby : bytes ≤ 64) (henc : ∀ y, (enc y).oneCell' = true)
    {ops : Array Oper} {rest : List Oper} {o : Oper} {a : Act} {Q : Exit → Act → World → Prop} {w : World} (hgd : o.guard = none) (s x : Operand)
    (ho : o.op = .call { callee := .builtin .append, args := #[s, x], argTypes := #[T, T] })
    (B C : Nat) (v u : Value) (xs ys : List α) (hv : Row enc E w B v xs) (hu : Row enc E w C u ys) (hs : a.eval s = v) (hx : a.eval x = u)
    (hlen : xs.length + ys.length < 1000000000) (hB : B ≤ w.heap.size)
    (h : ∀ v' w', Row enc E w' B v' (xs ++ ys) → w.grownBy w' v.ownBlock → (v'.ownBlock = v.ownBlock ∨ v'.ownBlock = some w.heap.size) → wpList Try.prog ops Q rest (a.put o.dst v') w') :
    wpList Try.prog ops Q (o :: rest) a w := by
  obtain ⟨i0, hi, hz0, hz1, hz2⟩ := info_parts hinfo
  rcases hu.form with ⟨rfl, rfl⟩ | ⟨g, c, rfl, _, _, h3, h4⟩
  · refine wpList_append_own_none hgd s x T ho B E i0 1 hT hi v xs.length (xs.map enc) hs hv hx ?_
    exact h v w (by rw [List.append_nil]; exact hv) ⟨rfl, rfl, rfl, Nat.le_refl _, fun _ _ _ => rfl⟩ (.inl rfl)
  · refine wpList_append_own_at _ hgd s x T ho B E i0 z 1 bytes hT hi hz0 hz1 hz2 hzs (by decide) v xs.length (xs.map enc) hs hv ⟨g, 0, none⟩ ys.length c (ys.map enc) hx (by simp)
      (fun j w0 hj => ?_) (fun w0 hw => ?_) (by unfold maxLen; omega) (by
        have : (xs.length + ys.length) * bytes ≤ 1000000000 * 64 := Nat.mul_le_mul (by omega) hby
        omega) hB ?_
    · have hj' : j < ys.length := by
        have := List.getElem?_eq_some_iff.1 hj
        obtain ⟨h1, _⟩ := this
        simpa using h1
      have := Row.cell hu hj'
      rw [add_plain', Nat.zero_add, this]
      simp [hj'] at hj
      rw [hj]
    · obtain ⟨k, _, rfl⟩ := List.mem_map.1 hw
      exact henc k
    · intro v' w' hown hgrow _ hat
      refine h v' w' ?_ hgrow hat
      unfold Row
      rw [List.length_append, List.map_append]
      exact hown
end Go.Proofs.Ytcfdbjjfdddfeaa

namespace Go.Proofs.Ytcfdbjjfdddfeaa
open Go.RowKit Knot

theorem append_row {ops : Array Oper} {rest : List Oper} {o : Oper} {a : Act} {Q : Exit → Act → World → Prop} {w : World} (hgd : o.guard = none) (s x : Operand)
    (ho : o.op = .call { callee := .builtin .append, args := #[s, x], argTypes := #[22, 22] })
    (B C : Nat) (v u : Value) (xs ys : List Int) (hv : Ints w B v xs) (hu : Ints w C u ys) (hs : a.eval s = v) (hx : a.eval x = u)
    (hlen : xs.length + ys.length < 1000000000) (hB : B ≤ w.heap.size)
    (h : ∀ v' w', Ints w' B v' (xs ++ ys) → w.grownBy w' v.ownBlock → wpList Try.prog ops Q rest (a.put o.dst v') w') :
    wpList Try.prog ops Q (o :: rest) a w := by
  obtain ⟨i0, hi, hz0, hz1, hz2⟩ := info_parts info_int
  rcases hu.form with ⟨rfl, rfl⟩ | ⟨g, c, rfl, _, _, h3, h4⟩
  · refine wpList_append_own_none hgd s x 22 ho B 2 i0 1 Try.underlying22 hi v xs.length (xs.map (Value.int .i64)) hs hv hx ?_
    exact h v w (by rw [List.append_nil]; exact hv) ⟨rfl, rfl, rfl, Nat.le_refl _, fun _ _ _ => rfl⟩
  · refine wpList_append_own _ hgd s x 22 ho B 2 i0 (.int .i64 0) 1 8 Try.underlying22 hi hz0 hz1 hz2 rfl (by decide) v xs.length (xs.map (Value.int .i64)) hs hv ⟨g, 0, none⟩ ys.length c (ys.map (Value.int .i64)) hx (by simp)
      (fun j w0 hj => ?_) (fun w0 hw => ?_) (by unfold maxLen; omega) (by omega) hB ?_
    · have hj' : j < ys.length := by
        have := List.getElem?_eq_some_iff.1 hj
        obtain ⟨h1, _⟩ := this
        simpa using h1
      have := Row.cell hu hj'
      rw [add_plain', Nat.zero_add, this]
      simp [hj'] at hj
      rw [hj]
    · obtain ⟨k, _, rfl⟩ := List.mem_map.1 hw
      rfl
    · intro v' w' hown hgrow _
      refine h v' w' ?_ hgrow
      unfold Ints Row
      rw [List.length_append, List.map_append]
      exact hown

set_option maxHeartbeats 1000000 in
theorem Clone_any {w : World} {lo hi : Nat} {v : Value} {xs : List Int} (hx : IntsIn w lo hi v xs) :
    Calls Try.prog 82 #[v] w fun e w' => ∃ A c, e = .returned (.slice A xs.length c) ∧ IntsIn w' w.heap.size w'.heap.size (.slice A xs.length c) xs ∧ Below w.heap.size w w' := by
  have hl := hx.len
  have hI := hx.ints
  have hq := fun (u : World) (a : Option Addr) (l c : Nat) => Lib.run_eql_slice_nil (P := Try.prog) u 22 2 a l c 0 0 Try.underlying22
  rcases hI.form with ⟨rfl, rfl⟩ | ⟨g, c, rfl, _, _, _, _⟩
  · clear hI hl hx
    go_enter Try.func82, Try.ntmps82
    go_wp2
    go_ret
    exact ⟨none, 0, rfl, IntsIn.nil _ _ _ (Nat.le_refl _), Below.refl _ _⟩
  · clear hx
    have bl := Joins.below_alloc1 w (.cells #[] 2)
    have hL : Ints (w.alloc (.cells #[] 2)) w.heap.size (.slice (some ⟨w.heap.size, 0, none⟩) 0 0) [] := Row.none_ w
    have hI2 : Ints (w.alloc (.cells #[] 2)) 0 _ xs := Row.below hI bl
    have hlen : ([] : List Int).length + xs.length < 1000000000 := by simp; omega
    go_enter Try.func82, Try.ntmps82
    go_wp2_with (at_builtin; refine append_row rfl _ _ rfl w.heap.size 0 _ _ [] xs hL hI2 rfl rfl hlen (by rw [World.size_alloc]; omega) ?_)
    intro v' w' hI' hg
    try simp only [List.nil_append] at hI'
    obtain ⟨A, cA, rfl, _, _⟩ := hI'.open_
    have hb2 : Below w.heap.size w w' := bl.grown hg (by rw [World.size_alloc]; omega) (fun j hj => (Row.lt hL hj).1)
    clear hL hI hI2 hg bl
    go_wp2
    go_ret
    exact ⟨A, cA, rfl, IntsIn.ofInts hI' hl, hb2⟩
set_option maxHeartbeats 1000000 in
theorem l00Own_any {w : World} {lo hi : Nat} {v : Value} {xs : List Int} (hx : IntsIn w lo hi v xs) :
    Calls Try.prog 81 #[v] w fun e w' => ∃ A c, e = .returned (.slice A xs.length c) ∧ IntsIn w' w.heap.size w'.heap.size (.slice A xs.length c) xs ∧ Below w.heap.size w w' := by
  have hl := hx.len
  have hI := hx.ints
  have bl := Joins.below_alloc1 w (.cells #[] 2)
  have hL : Ints (w.alloc (.cells #[] 2)) w.heap.size (.slice (some ⟨w.heap.size, 0, none⟩) 0 0) [] := Row.none_ w
  have hI2 : Ints (w.alloc (.cells #[] 2)) 0 v xs := Row.below hI bl
  have hlen : ([] : List Int).length + xs.length < 1000000000 := by simp; omega
  obtain ⟨D, cD, rfl, _, _⟩ := hI.open_
  go_enter Try.func81, Try.ntmps81
  go_wp2_with (at_builtin; refine append_row rfl _ _ rfl w.heap.size 0 _ _ [] xs hL hI2 rfl rfl hlen (by rw [World.size_alloc]; omega) ?_)
  intro v' w' hI' hg
  try simp only [List.nil_append] at hI'
  obtain ⟨A, cA, rfl, _, _⟩ := hI'.open_
  have hb2 : Below w.heap.size w w' := bl.grown hg (by rw [World.size_alloc]; omega) (fun j hj => (Row.lt hL hj).1)
  clear hL hI hI2 hg bl
  go_wp2
  go_ret
  exact ⟨A, cA, rfl, IntsIn.ofInts hI' hl, hb2⟩
end Go.Proofs.Ytcfdbjjfdddfeaa

namespace Go.Proofs.Ytcfdbjjfdddfeaa
open Go.RowKit Knot

/-- A row of points, flat. -/
def ptF (l : List (Int × Int)) : List Int := l.flatMap fun x => [x.1, x.2]
theorem ptF_length (l : List (Int × Int)) : (ptF l).length = 2 * l.length := by
  induction l with
  | nil => rfl
  | cons a t ih =>
    show ([a.1, a.2] ++ ptF t).length = _
    rw [List.length_append, ih]
    simp
    omega
theorem ptF_append (l m : List (Int × Int)) : ptF (l ++ m) = ptF l ++ ptF m := by simp [ptF]
theorem ptF_at : ∀ (l : List (Int × Int)) (i : Nat) (h : i < l.length), gI (ptF l) ((2 * i : Nat) : Int) = l[i].1 ∧ gI (ptF l) ((2 * i + 1 : Nat) : Int) = l[i].2
  | [], i, h => by simp at h
  | a :: l, 0, _ => by simp [ptF, gI]
  | a :: l, i + 1, h => by
    have ih := ptF_at l i (by simpa using h)
    have e : ptF (a :: l) = a.1 :: a.2 :: ptF l := rfl
    rw [e]
    unfold gI at ih ⊢
    simp only [Int.toNat_natCast, List.getElem_cons_succ] at ih ⊢
    rw [show 2 * (i + 1) = 2 * i + 1 + 1 by omega]
    simp only [List.getD_cons_succ]
    exact ih
end Go.Proofs.Ytcfdbjjfdddfeaa
