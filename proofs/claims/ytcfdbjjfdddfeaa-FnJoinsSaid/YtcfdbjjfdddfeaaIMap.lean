/-
  A map from int64 to int that the call itself makes.
-/
import Derived.Test.YtcfdbjjfdddfeaaKind
import Derived.Maps.OwnSet
namespace Go.Proofs.Ytcfdbjjfdddfeaa
open Go.RowKit Knot Go.Maps

/-- Block b is a map from int64 to int, of at most n entries, that answers S. -/
def IMap (w : World) (b n : Nat) (S : Int → Option Nat) : Prop :=
  ∃ D : DataW Unit, w.ownsMap Try.prog 2 (plainElem Try.prog 3) b n D ∧ IsMap D ∧ ∀ x : Int, D.atKey (.int .i64 x) (.lit (.int .i64 0)) = .lit (.int .i64 ((S x).getD 0 : Nat)) ∧ Maps.has D (.int .i64 x) = (S x).isSome
theorem imap_law : Keyed Try.prog 2 := int_keyed Try.underlying2
theorem imap_zero (w : World) : (zeroValue 3).run Try.prog w = .ok (.int .i64 0) w := by kernel_rfl
theorem IMap.made (w : World) : IMap (w.alloc (.map #[] 0)) w.heap.size 0 (fun _ => none) :=
  ⟨.map [], World.ownsMap_made _ _ _ _, isMap_empty, fun _ => ⟨rfl, rfl⟩⟩
theorem IMap.lt {w : World} {b n : Nat} {S : Int → Option Nat} (h : IMap w b n S) : b < w.heap.size := by
  obtain ⟨D, h1, _⟩ := h
  exact h1.lt
theorem IMap.grown {w w' : World} {b n : Nat} {S : Int → Option Nat} (h : IMap w b n S) {row : Option Nat} (hg : w.grownBy w' row) (hne : some b ≠ row) : IMap w' b n S := by
  obtain ⟨D, h1, h2⟩ := h
  exact ⟨D, h1.kept hg hne, h2⟩
theorem IMap.below {w w' : World} {b n : Nat} {S : Int → Option Nat} (h : IMap w b n S) (hb : Below w.heap.size w w') : IMap w' b n S :=
  h.grown (row := none) ⟨hb.os, hb.tape, hb.output, hb.size, fun k hk _ => hb.block k hk⟩ (by simp)
theorem IMap.alloc {w : World} {b n : Nat} {S : Int → Option Nat} (h : IMap w b n S) (o : Obj) : IMap (w.alloc o) b n S := h.below (Joins.below_alloc1 _ _)
theorem IMap.setCell {w : World} {b n : Nat} {S : Int → Option Nat} (h : IMap w b n S) {p : Addr} (hp : b ≠ p.block) (u : Value) : IMap (w.setCell p u) b n S :=
  h.grown (row := some p.block) ⟨rfl, rfl, rfl, by rw [World.size_setCell]; exact Nat.le_refl _, fun k _ hk => Below.heap_setCell _ _ _ _ (fun e => hk (by rw [e]))⟩ (fun e => hp (by injection e))
theorem IMap.apart {w : World} {b n : Nat} {S : Int → Option Nat} (h : IMap w b n S) {α : Type} {enc : α → Value} {E : TypeId} {B : Nat} {v : Value} {xs : List α} (r : Row enc E w B v xs) {g : Nat} (hg : v.ownBlock = some g) : g ≠ b := by
  rintro rfl
  obtain ⟨D, ⟨es, clock, hb, _⟩, _⟩ := h
  rcases r.2 with ⟨hv, _⟩ | ⟨g', cap, cur, hv, _, hh, _⟩
  · rw [hv] at hg
    cases hg
  · rw [hv] at hg
    have hg' : g' = g := by injection hg
    subst hg'
    rw [hb] at hh
    cases hh
/-- 'y, ok := m[x]'. -/
theorem wpList_ilook {ops : Array Oper} {rest : List Oper} {o : Oper} {a : Act} {Q : Exit → Act → World → Prop} (w : World) (hgd : o.guard = none) (m x : Operand) (ho : o.op = Op.lookup 80 m x true)
    (b n : Nat) (S : Int → Option Nat) (hm : a.eval m = .map (some b)) (h : IMap w b n S) (y : Int) (hy : (Lit.int .i64 y).wf = true) (hx : a.eval x = .int .i64 y) (r : Option Nat) (hr : S y = r)
    (hK : wpList Try.prog ops Q rest (a.put o.dst (.tuple #[.int .i64 ((r.getD 0 : Nat) : Int), .bool r.isSome])) w) : wpList Try.prog ops Q (o :: rest) a w := by
  obtain ⟨D, h1, h2, h3⟩ := h
  refine wpList_lookup_own_ok_int w hgd m x 80 ho 2 3 .i64 imap_law Try.underlying80 Try.underlying3 (imap_zero w) b n D hm h1 _ _ hx (keyOf_int_mk Try.underlying2 hy) ?_
  intro c hc _
  obtain ⟨h4, h5⟩ := h3 y
  rw [h4, hr] at hc
  rw [h5, hr]
  have hc2 : c = ((r.getD 0 : Nat) : Int) := by
    injection hc with hc
    injection hc with _ hc
    exact hc.symm
  rw [hc2]
  exact hK
/-- .. not there. -/
theorem wpList_imiss {ops : Array Oper} {rest : List Oper} {o : Oper} {a : Act} {Q : Exit → Act → World → Prop} (w : World) (hgd : o.guard = none) (m x : Operand) (ho : o.op = Op.lookup 80 m x true)
    (b n : Nat) (S : Int → Option Nat) (hm : a.eval m = .map (some b)) (h : IMap w b n S) (y : Int) (hy : (Lit.int .i64 y).wf = true) (hx : a.eval x = .int .i64 y) (hr : S y = none)
    (hK : wpList Try.prog ops Q rest (a.put o.dst (.tuple #[.int .i64 0, .bool false])) w) : wpList Try.prog ops Q (o :: rest) a w :=
  wpList_ilook w hgd m x ho b n S hm h y hy hx none hr hK
/-- .. there. -/
theorem wpList_ihit {ops : Array Oper} {rest : List Oper} {o : Oper} {a : Act} {Q : Exit → Act → World → Prop} (w : World) (hgd : o.guard = none) (m x : Operand) (ho : o.op = Op.lookup 80 m x true)
    (b n : Nat) (S : Int → Option Nat) (hm : a.eval m = .map (some b)) (h : IMap w b n S) (y : Int) (hy : (Lit.int .i64 y).wf = true) (hx : a.eval x = .int .i64 y) (i : Nat) (hr : S y = some i)
    (hK : wpList Try.prog ops Q rest (a.put o.dst (.tuple #[.int .i64 i, .bool true])) w) : wpList Try.prog ops Q (o :: rest) a w :=
  wpList_ilook w hgd m x ho b n S hm h y hy hx (some i) hr hK
/-- 'm[x] = z'. -/
theorem wpList_iput {ops : Array Oper} {rest : List Oper} {o : Oper} {a : Act} {Q : Exit → Act → World → Prop} (w : World) (hgd : o.guard = none) (m x v : Operand) (ho : o.op = Op.mapUpdate 80 m x v)
    (b n : Nat) (S : Int → Option Nat) (hm : a.eval m = .map (some b)) (h : IMap w b n S) (hn : n < 1000000) (y : Int) (hy : (Lit.int .i64 y).wf = true) (hx : a.eval x = .int .i64 y) (z : Nat) (hz : z < 1000000) (hv : a.eval v = .int .i64 z)
    (hK : ∀ w', IMap w' b (n + 1) (fun t => if t = y then some z else S t) → w.grownBy w' (some b) → wpList Try.prog ops Q rest (a.put o.dst undef) w') : wpList Try.prog ops Q (o :: rest) a w := by
  obtain ⟨D, h1, h2, h3⟩ := h
  refine wpList_mapUpdate_own w hgd m x v 80 ho 2 3 imap_law Try.underlying80 _ b n D hm h1 (by unfold maxLen; omega) _ _ _ hx hv (keyOf_int_mk Try.underlying2 hy) _ [] (plainElem_int Try.underlying3 (by simp only [Lit.wf, Bool.and_eq_true, decide_eq_true_eq]; rw [show IntKind.i64.min = -9223372036854775808 from rfl, show IntKind.i64.max = 9223372036854775807 from rfl]; omega)) fun w' g1 g2 => ?_
  refine hK w' ⟨_, g1, h2.put _ _, fun t => ?_⟩ g2
  by_cases e : t = y
  · subst e
    rw [atKey_put_same h2 (show WideAt.IsKeyLit (.int .i64 t) from trivial), has_put_same h2 (show WideAt.IsKeyLit (.int .i64 t) from trivial)]
    simp
  · rw [atKey_put_other (fun h => e (by injection h)), has_put_other (fun h => e (by injection h))]
    simp [e, h3 t]
end Go.Proofs.Ytcfdbjjfdddfeaa
