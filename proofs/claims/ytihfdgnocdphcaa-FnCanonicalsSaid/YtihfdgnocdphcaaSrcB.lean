/-
  Words on sources of choices: what stands while one is read.
-/
import Derived.Test.YtihfdgnocdphcaaSrc
namespace Go.Proofs.Ytihfdgnocdphcaa
open Go.RowKit Knot

/-- What stands where the source's box has been changed and new blocks have been made. -/
theorem Row.chgb {α : Type} {enc : α → Value} {E : TypeId} {w w' : World} {B b : Nat} {v : Value} {xs : List α} (h : Row enc E w B v xs) (hc : Chg b (b + 1) w w') (hb : b < B) : Row enc E w' B v xs :=
  Row.keep h fun g hg hl => hc.block g hl (.inr (by have := (Row.lt h hg).1; omega))
theorem Chg.grow {w a c : World} {b : Nat} {r : Option Nat} (h : Chg b (b + 1) w a) (hg : a.grownBy c r) (hr : ∀ j, r = some j → w.heap.size ≤ j) : Chg b (b + 1) w c :=
  ⟨hg.os.trans h.os, hg.tape.trans h.tape, hg.output.trans h.output, Nat.le_trans h.size hg.size, fun k hk hd => (hg.block k (Nat.lt_of_lt_of_le hk h.size) (fun e => by have := hr k e.symm; omega)).trans (h.block k hk hd)⟩
theorem Chg.new {w a : World} {b : Nat} (h : Chg b (b + 1) w a) (o : Obj) : Chg b (b + 1) w (a.alloc o) := h.trans (Chg.ofBelow (Joins.below_alloc1 a o))
theorem Chg.put {w a : World} {b : Nat} (h : Chg b (b + 1) w a) {p : Addr} (hp : w.heap.size ≤ p.block) (u : Value) : Chg b (b + 1) w (a.setCell p u) :=
  ⟨h.os, h.tape, h.output, by simpa [World.setCell] using h.size, fun k hk hd => (Below.heap_setCell a p u k (by omega)).trans (h.block k hk hd)⟩
theorem Src.grown {w w' : World} {b m : Nat} {r : Option Nat} (h : Src w b m) (hg : w.grownBy w' r) (hr : ∀ j, r = some j → b < j) : Src w' b m :=
  h.keep fun k hk hl => hg.block k hl (fun e => by have := hr k e.symm; omega)
theorem Src.put {w : World} {b m : Nat} (h : Src w b m) {p : Addr} (hp : b < p.block) (u : Value) : Src (w.setCell p u) b m :=
  h.keep fun k hk _ => Below.heap_setCell w p u k (by omega)
theorem Src.drewN {w : World} {b m : Nat} (h : Src w b m) (n : Nat) : Src (w.drewN n) b m := h.keep fun _ _ _ => rfl
theorem Box.chgb {w w' : World} {k b : Nat} {t : TypeId} {cs : Array Value} (h : Box w k t cs) (hc : Chg b (b + 1) w w') (hb : k ≠ b) : Box w' k t cs := (hc.block k h.lt (by omega)).trans h
theorem IntsIn.chgb {w w' : World} {lo hi b : Nat} {v : Value} {xs : List Int} (h : IntsIn w lo hi v xs) (hc : Chg b (b + 1) w w') (hb : b < lo) : IntsIn w' lo hi v xs := h.chg hc (.inr (by omega))
end Go.Proofs.Ytihfdgnocdphcaa
