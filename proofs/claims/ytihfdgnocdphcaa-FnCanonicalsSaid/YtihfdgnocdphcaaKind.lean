/-
  Results and arguments in memory: each lies between two block numbers; what is written between two numbers leaves the others as they are.
-/
import Derived.Test.YtihfdgnocdphcaaSl
import Derived.Lib.SmallJoins
namespace Go.Proofs.Ytihfdgnocdphcaa
open Go.RowKit Knot

/-- From a to b only blocks from lo to hi (and new ones) have turned. -/
structure Chg (lo hi : Nat) (w w' : World) : Prop where
  os : w'.os = w.os
  tape : w'.tape = w.tape
  output : w'.output = w.output
  size : w.heap.size ≤ w'.heap.size
  block : ∀ k, k < w.heap.size → (k < lo ∨ hi ≤ k) → w'.heap[k]? = w.heap[k]?

theorem Chg.ofBelow {lo hi : Nat} {w w' : World} (h : Below w.heap.size w w') : Chg lo hi w w' := ⟨h.os, h.tape, h.output, h.size, fun k hk _ => h.block k hk⟩
theorem Chg.trans {lo hi : Nat} {a b c : World} (h : Chg lo hi a b) (k : Chg lo hi b c) : Chg lo hi a c :=
  ⟨k.os.trans h.os, k.tape.trans h.tape, k.output.trans h.output, Nat.le_trans h.size k.size, fun i hi hd => (k.block i (Nat.lt_of_lt_of_le hi h.size) hd).trans (h.block i hi hd)⟩
theorem Chg.toBelow {lo hi B : Nat} {w w' : World} (h : Chg lo hi w w') (hB : B ≤ lo) (hs : B ≤ w.heap.size) : Below B w w' := ⟨h.os, h.tape, h.output, h.size, fun k hk => h.block k (by omega) (.inl (by omega))⟩
theorem Chg.mono {lo hi lo' hi' : Nat} {w w' : World} (h : Chg lo hi w w') (h1 : lo' ≤ lo) (h2 : hi ≤ hi') : Chg lo' hi' w w' := ⟨h.os, h.tape, h.output, h.size, fun k hk hd => h.block k hk (by omega)⟩
theorem bchg {lo hi : Nat} {w a b : World} (h : Below w.heap.size w a) (k : Chg lo hi a b) (hlo : w.heap.size ≤ lo) : Below w.heap.size w b := h.trans (k.toBelow hlo h.size)
theorem Box.chg {w w' : World} {k : Nat} {t : TypeId} {cs : Array Value} (h : Box w k t cs) {lo hi : Nat} (hb : Chg lo hi w w') (hd : k < lo ∨ hi ≤ k) : Box w' k t cs := (hb.block k h.lt hd).trans h

/-- A slice of int64 whose row lies from block lo on and below block hi. -/
def IntsIn (w : World) (lo hi : Nat) (v : Value) (xs : List Int) : Prop := Ints w lo v xs ∧ (∀ k, v.ownBlock = some k → k < hi) ∧ hi ≤ w.heap.size ∧ xs.length ≤ 2000000
section
variable {w w' : World} {lo hi : Nat} {v : Value} {xs : List Int}
theorem IntsIn.ofInts (h : Ints w lo v xs) (hl : xs.length ≤ 2000000) : IntsIn w lo w.heap.size v xs := ⟨h, fun _ hk => (Row.lt h hk).2, Nat.le_refl _, hl⟩
theorem IntsIn.len (h : IntsIn w lo hi v xs) : xs.length ≤ 2000000 := h.2.2.2
theorem IntsIn.hi_le (h : IntsIn w lo hi v xs) : hi ≤ w.heap.size := h.2.2.1
theorem IntsIn.ints (h : IntsIn w lo hi v xs) : Ints w 0 v xs := Row.le h.1 (Nat.zero_le _)
theorem IntsIn.chg (h : IntsIn w lo hi v xs) {lo' hi' : Nat} (hb : Chg lo' hi' w w') (hd : hi ≤ lo' ∨ hi' ≤ lo) : IntsIn w' lo hi v xs :=
  ⟨Row.keep h.1 fun g hg hs => hb.block g hs (by have := h.2.1 g hg; have := (Row.lt h.1 hg).1; omega), h.2.1, Nat.le_trans h.2.2.1 hb.size, h.2.2.2⟩
theorem IntsIn.below (h : IntsIn w lo hi v xs) (hb : Below w.heap.size w w') : IntsIn w' lo hi v xs := ⟨Row.below h.1 hb, h.2.1, Nat.le_trans h.2.2.1 hb.size, h.2.2.2⟩
theorem IntsIn.wider (h : IntsIn w lo hi v xs) {lo' hi' : Nat} (h1 : lo' ≤ lo) (h2 : hi ≤ hi') (h3 : hi' ≤ w.heap.size) : IntsIn w lo' hi' v xs := ⟨Row.le h.1 h1, fun k hk => by have := h.2.1 k hk; omega, h3, h.2.2.2⟩
theorem IntsIn.nil (w : World) (lo hi : Nat) (h : hi ≤ w.heap.size) : IntsIn w lo hi (.slice none 0 0) [] := ⟨Row.nil w lo, fun k hk => by simp [Value.ownBlock] at hk, h, by simp⟩
theorem IntsIn.alloc (h : IntsIn w lo hi v xs) (o : Obj) : IntsIn (w.alloc o) lo hi v xs := h.below (Joins.below_alloc1 _ _)
end

theorem IsRow.alloc {k : IntKind} {w : World} {a : Option Addr} {len cap : Nat} {zs : List Int} (h : IsRow k w a len cap zs) (o : Obj) : IsRow k (w.alloc o) a len cap zs := h.below (Joins.below_alloc1 _ _)

theorem toInts_any (a : Option Addr) (len cap : Nat) (zs : List Int) (w : World) (hr : IsRow .i64 w a len cap zs) (hsz : len ≤ 1048576) :
    Calls Try.prog 74 #[.slice a len cap] w fun e w' => ∃ g, e = .returned (.slice (some ⟨g, 0, none⟩) len len) ∧ IntsIn w' w.heap.size w'.heap.size (.slice (some ⟨g, 0, none⟩) len len) (zs.take len) ∧ Below w.heap.size w w' :=
  (toInt64S_any a len cap zs w hr hsz).mono fun _ _ ⟨g, he, hi, hb⟩ => ⟨g, he, IntsIn.ofInts hi (by simp; omega), hb⟩
theorem eqInts_any (v u : Value) (xs ys : List Int) (w : World) (lo hi lo' hi' : Nat) (hx : IntsIn w lo hi v xs) (hy : IntsIn w lo' hi' u ys) (c : Bool) (hc : decide (xs = ys) = c) :
    Calls Try.prog 32 #[v, u] w fun e w' => e = .returned (.bool c) ∧ Below w.heap.size w w' :=
  (eqInt64S_any v u xs ys w lo lo' hx.1 hy.1 c hc).mono fun _ _ ⟨he, hb⟩ => ⟨he, bdrawn hb⟩
theorem markInts_any (v : Value) (xs : List Int) (k0 : Int) (w : World) (lo hi : Nat) (hx : IntsIn w lo hi v xs) (hk0 : 0 ≤ k0) (hk1 : k0 + xs.length ≤ 4000000000000000000) :
    Calls Try.prog 33 #[v, .int .i64 k0] w fun e w' => e = .returned (.int .i64 (k0 + xs.length)) ∧ IntsIn w' lo hi v (upFrom k0 xs.length) ∧ Chg lo hi w w' :=
  (markInt64S_any v xs k0 w lo hx.1 hk0 hk1).mono fun _ _ ⟨he, hi', hg⟩ => ⟨he, ⟨hi', hx.2.1, Nat.le_trans hx.2.2.1 hg.size, by rw [upFrom_length]; exact hx.2.2.2⟩, ⟨hg.os, hg.tape, hg.output, hg.size, fun k hk hd => hg.block k hk (fun e => by
    have h1 := (Row.lt hx.1 e.symm).1
    have h2 := hx.2.1 k e.symm
    omega)⟩⟩
theorem heldInts_any (v : Value) (n : Nat) (k0 : Int) (w : World) (lo hi : Nat) (hx : IntsIn w lo hi v (upFrom k0 n)) (hk0 : 0 ≤ k0) (hk1 : k0 + n ≤ 4000000000000000000) :
    Calls Try.prog 34 #[v, .int .i64 k0] w fun e w' => e = .returned (.int .i64 (k0 + n)) ∧ Below w.heap.size w w' :=
  (heldInt64S_any v n k0 w lo hx.1 hk0 hk1).mono fun _ _ ⟨he, hw⟩ => ⟨he, by rw [← hw]; exact Below.refl _ _⟩

/-! ### The same, in the form that the laws' walks take -/
section
variable {w : World} {lo hi lo' hi' : Nat} {v u : Value} {xs ys : List Int} {k0 : Int} {r : Bool}
theorem K_eqInts (hx : IntsIn w lo hi v xs) (hy : IntsIn w lo' hi' u ys) (hr : decide (xs = ys) = r) : Calls Try.prog 32 #[v, u] w fun e w' => e = .returned (.bool r) ∧ Below w.heap.size w w' :=
  eqInts_any v u xs ys w lo hi lo' hi' hx hy r hr
theorem K_markInts (hx : IntsIn w lo hi v xs) (hk0 : 0 ≤ k0) (hk1 : k0 ≤ 1000000000000) :
    Calls Try.prog 33 #[v, .int .i64 k0] w fun e w' => e = .returned (.int .i64 (k0 + xs.length)) ∧ IntsIn w' lo hi v (upFrom k0 xs.length) ∧ Chg lo hi w w' :=
  markInts_any v xs k0 w lo hi hx hk0 (by have := hx.len; omega)
theorem K_heldInts {n : Nat} (hx : IntsIn w lo hi v (upFrom k0 n)) (hk0 : 0 ≤ k0) (hk1 : k0 ≤ 1000000000000) :
    Calls Try.prog 34 #[v, .int .i64 k0] w fun e w' => e = .returned (.int .i64 (k0 + n)) ∧ Below w.heap.size w w' :=
  heldInts_any v n k0 w lo hi hx hk0 (by have := hx.len; rw [upFrom_length] at this; omega)
end
end Go.Proofs.Ytihfdgnocdphcaa
