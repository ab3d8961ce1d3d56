/-
  A map from int64 to bool that the call itself makes.
-/
import Derived.Test.YtmagomiehgcbjaaKind
import Derived.Maps.OwnSet
namespace Go.Proofs.Ytmagomiehgcbjaa
open Go.RowKit Knot Go.Maps

/-- Block b is a map from int64 to bool, of at most n entries, that answers S. -/
def BMap (w : World) (b n : Nat) (S : Int → Bool) : Prop :=
  ∃ D : DataW Unit, w.ownsMap Try.prog 2 (plainElem Try.prog 4) b n D ∧ IsMap D ∧ ∀ x : Int, D.atKey (.int .i64 x) (.lit (.bool false)) = .lit (.bool (S x))
theorem bmap_law : Keyed Try.prog 2 := int_keyed Try.underlying2
theorem bmap_zero (w : World) : (zeroValue 4).run Try.prog w = .ok (.bool false) w := by kernel_rfl
theorem BMap.made (w : World) : BMap (w.alloc (.map #[] 0)) w.heap.size 0 (fun _ => false) :=
  ⟨.map [], World.ownsMap_made _ _ _ _, isMap_empty, fun _ => rfl⟩
theorem BMap.lt {w : World} {b n : Nat} {S : Int → Bool} (h : BMap w b n S) : b < w.heap.size := by
  obtain ⟨D, h1, _⟩ := h
  exact h1.lt
theorem BMap.grown {w w' : World} {b n : Nat} {S : Int → Bool} (h : BMap w b n S) {row : Option Nat} (hg : w.grownBy w' row) (hne : some b ≠ row) : BMap w' b n S := by
  obtain ⟨D, h1, h2⟩ := h
  exact ⟨D, h1.kept hg hne, h2⟩
theorem BMap.below {w w' : World} {b n : Nat} {S : Int → Bool} (h : BMap w b n S) (hb : Below w.heap.size w w') : BMap w' b n S :=
  h.grown (row := none) ⟨hb.os, hb.tape, hb.output, hb.size, fun k hk _ => hb.block k hk⟩ (by simp)
theorem BMap.alloc {w : World} {b n : Nat} {S : Int → Bool} (h : BMap w b n S) (o : Obj) : BMap (w.alloc o) b n S := h.below (Joins.below_alloc1 _ _)
theorem elem_bool {P : Program} {e : TypeId} (he : P.underlying e = some .bool) {v : Value} {z : DataW Unit × List MemPlace} (h : plainElem P e v = some z) : ∃ x, v = .bool x ∧ z = (.lit (.bool x), []) := by
  unfold plainElem at h
  rw [he] at h
  cases v <;> simp at h
  exact ⟨_, rfl, h.symm⟩
theorem lit_bool {a b : Bool} (h : ((DataW.lit (.bool a) : DataW Unit), ([] : List MemPlace)) = (DataW.lit (.bool b), [])) : a = b := by
  cases h
  rfl
theorem BMap.apart {w : World} {b n : Nat} {S : Int → Bool} (h : BMap w b n S) {α : Type} {enc : α → Value} {E : TypeId} {B : Nat} {v : Value} {xs : List α} (r : Row enc E w B v xs) {g : Nat} (hg : v.ownBlock = some g) : g ≠ b := by
  rintro rfl
  obtain ⟨D, ⟨es, clock, hb, _⟩, _⟩ := h
  rcases r.2 with ⟨hv, _⟩ | ⟨g', cap, cur, hv, _, hh, _⟩
  · rw [hv] at hg
    cases hg
  · rw [hv] at hg
    have hg' : g' = g := by injection hg
    subst hg'
    rw [hb] at hh
    cases hh
/-- 'm[x]'. -/
theorem BMap.look {w : World} {b n : Nat} {S : Int → Bool} (h : BMap w b n S) {x : Int} (hx : (Lit.int .i64 x).wf = true) : (Instr.lookup 89 (.map (some b)) (.int .i64 x) false).run Try.prog w = .ok (.bool (S x)) w := by
  obtain ⟨D, h1, _, h2⟩ := h
  obtain ⟨v, ps, hrun, hv⟩ := h1.lookup bmap_law Try.underlying89 (bmap_zero w) (plainElem_bool Try.underlying4 false) (keyOf_int_mk Try.underlying2 hx)
  obtain ⟨y, rfl, hc⟩ := elem_bool Try.underlying4 hv
  rw [h2 x] at hc
  have hps : ps = [] := congrArg Prod.snd hc
  subst hps
  rw [hrun, lit_bool hc]
/-- 'm[x] = true'. -/
theorem wpList_bput {ops : Array Oper} {rest : List Oper} {o : Oper} {a : Act} {Q : Exit → Act → World → Prop} (w : World) (hgd : o.guard = none) (m x v : Operand) (ho : o.op = Op.mapUpdate 89 m x v)
    (b n : Nat) (S : Int → Bool) (hm : a.eval m = .map (some b)) (h : BMap w b n S) (hn : n < 1000000) (y : Int) (hy : (Lit.int .i64 y).wf = true) (hx : a.eval x = .int .i64 y) (hv : a.eval v = .bool true)
    (hK : ∀ w', BMap w' b (n + 1) (fun z => if z = y then true else S z) → w.grownBy w' (some b) → wpList Try.prog ops Q rest (a.put o.dst undef) w') : wpList Try.prog ops Q (o :: rest) a w := by
  obtain ⟨D, h1, h2, h3⟩ := h
  refine wpList_mapUpdate_own w hgd m x v 89 ho 2 4 bmap_law Try.underlying89 _ b n D hm h1 (by unfold maxLen; omega) _ _ _ hx hv (keyOf_int_mk Try.underlying2 hy) _ [] (plainElem_bool Try.underlying4 true) fun w' g1 g2 => ?_
  refine hK w' ⟨_, g1, h2.put _ _, fun z => ?_⟩ g2
  by_cases e : z = y
  · subst e
    rw [atKey_put_same h2 (show WideAt.IsKeyLit (.int .i64 z) from trivial)]
    simp
  · rw [atKey_put_other (fun h => e (by injection h)), h3 z]
    simp [e]
end Go.Proofs.Ytmagomiehgcbjaa
