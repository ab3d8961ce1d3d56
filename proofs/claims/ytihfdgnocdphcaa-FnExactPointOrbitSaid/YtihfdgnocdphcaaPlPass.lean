/-
  Plain mathematics: Pass. No program is in sight.
-/
import Derived.Test.YtihfdgnocdphcaaPlOrb
namespace Knot

def gI (l : List Int) (i : Int) : Int := l.getD i.toNat 0
def gB (l : List Bool) (i : Int) : Bool := l.getD i.toNat false
def sB (l : List Bool) (i : Int) : List Bool := l.set i.toNat true

structure Pairing (n : Nat) (P : List Int) : Prop where
  len : P.length = n
  lo : ∀ i : Int, 0 ≤ i → i < n → 0 ≤ gI P i
  hi : ∀ i : Int, 0 ≤ i → i < n → gI P i < n
  ne : ∀ i : Int, 0 ≤ i → i < n → gI P i ≠ i
  inv : ∀ i : Int, 0 ≤ i → i < n → gI P (gI P i) = i

/-- From a on along the links, over what is known on this side, to the other side. -/
def chain (P L : List Int) (n : Int) : Nat → Int → List Bool → Int × List Bool
  | 0, a, s => (a, s)
  | f + 1, a, s => if a < n then chain P L n f (gI L (gI P a)) (sB (sB s a) (gI P a)) else (a, s)

def pass1 (P L : List Int) (n : Nat) : Nat → List Int × List Bool
  | 0 => ([], List.replicate n false)
  | k + 1 => ((pass1 P L n k).1 ++ [(chain P L n n (gI L ((n : Int) + k)) (pass1 P L n k).2).1 - n], (chain P L n n (gI L ((n : Int) + k)) (pass1 P L n k).2).2)

def cyc (P L : List Int) : Nat → Int → List Bool → List Bool
  | 0, _, s => s
  | f + 1, a, s => if gB s a then s else cyc P L f (gI L (gI P a)) (sB (sB s a) (gI P a))

/-- Closed loops among the first k, and what has been seen. -/
def cycTo (P L : List Int) (n : Nat) (s : List Bool) : Nat → Int × List Bool
  | 0 => (0, s)
  | k + 1 => if gB (cycTo P L n s k).2 k then cycTo P L n s k else ((cycTo P L n s k).1 + 1, cyc P L (n + 1) k (cycTo P L n s k).2)

def pass (P L : List Int) (n : Nat) : List Int × Int := ((pass1 P L n n).1, (cycTo P L n (pass1 P L n n).2 n).1)
def loopsOf (P L : List Int) (n : Nat) : Int := (cycTo P L n (List.replicate n false) n).1

def nxt (P L : List Int) (a : Int) : Int := gI L (gI P a)

/-- A chain that begins on the other side comes to the other side. -/
theorem chain_leaves {n : Nat} {P L : List Int} (hP : Pairing n P) (hL : Pairing (2 * n) L) (k : Nat) (hk : k < n) :
    ∃ j, j ≤ n ∧ (n : Int) ≤ it (nxt P L) j (gI L ((n : Int) + k)) ∧ ∀ i, i < j → it (nxt P L) i (gI L ((n : Int) + k)) < n := by
  apply Classical.byContradiction
  intro hno
  have hall : ∀ j, j ≤ n → it (nxt P L) j (gI L ((n : Int) + k)) < n := by
    intro j
    induction j using Nat.strongRecOn with
    | _ j ih =>
      intro hj
      apply Classical.byContradiction
      intro hge
      exact hno ⟨j, hj, by omega, fun i hi => ih i hi (by omega)⟩
  have h0 : ∀ j, j ≤ n → 0 ≤ it (nxt P L) j (gI L ((n : Int) + k)) := by
    intro j
    induction j with
    | zero => intro _; exact hL.lo _ (by omega) (by omega)
    | succ j ih =>
      intro hj
      have h1 := ih (by omega)
      have h2 := hall j (by omega)
      have h3 := hP.lo _ h1 h2
      have h4 := hP.hi _ h1 h2
      exact hL.lo _ h3 (by omega)
  have hinj : ∀ i j, i < j → j ≤ n → it (nxt P L) i (gI L ((n : Int) + k)) ≠ it (nxt P L) j (gI L ((n : Int) + k)) := by
    intro i
    induction i with
    | zero =>
      intro j hij hj e
      obtain ⟨j, rfl⟩ : ∃ m, j = m + 1 := ⟨j - 1, by omega⟩
      have h1 := h0 j (by omega)
      have h2 := hall j (by omega)
      have h3 := hP.lo _ h1 h2
      have h4 := hP.hi _ h1 h2
      have h5 : gI L (gI L ((n : Int) + k)) = gI L (gI L (gI P (it (nxt P L) j (gI L ((n : Int) + k))))) := congrArg (gI L) e
      rw [hL.inv _ (by omega) (by omega), hL.inv _ h3 (by omega)] at h5
      omega
    | succ i ih =>
      intro j hij hj e
      obtain ⟨j, rfl⟩ : ∃ m, j = m + 1 := ⟨j - 1, by omega⟩
      have h1 := h0 j (by omega)
      have h2 := hall j (by omega)
      have h1' := h0 i (by omega)
      have h2' := hall i (by omega)
      have h3 := hP.lo _ h1 h2
      have h4 := hP.hi _ h1 h2
      have h3' := hP.lo _ h1' h2'
      have h4' := hP.hi _ h1' h2'
      have h5 : gI L (gI L (gI P (it (nxt P L) i (gI L ((n : Int) + k))))) = gI L (gI L (gI P (it (nxt P L) j (gI L ((n : Int) + k))))) := congrArg (gI L) e
      rw [hL.inv _ h3' (by omega), hL.inv _ h3 (by omega)] at h5
      have h6 := congrArg (gI P) h5
      rw [hP.inv _ h1' h2', hP.inv _ h1 h2] at h6
      exact ih j (by omega) (by omega) h6
  have hnd : ((List.range (n + 1)).map fun j => (it (nxt P L) j (gI L ((n : Int) + k))).toNat).Nodup := by
    rw [List.nodup_iff_pairwise_ne, List.pairwise_map, List.pairwise_iff_getElem]
    intro i j hi hj hij e
    simp only [List.length_range, List.getElem_range] at hi hj e
    have a1 := h0 i (by omega)
    have a2 := h0 j (by omega)
    exact hinj i j hij (by omega) (by omega)
  have hl := pigeon n _ hnd (by
    intro x hx
    obtain ⟨j, hj, rfl⟩ := List.mem_map.1 hx
    have hj' := List.mem_range.1 hj
    have a1 := h0 j (by omega)
    have a2 := hall j (by omega)
    omega)
  simp at hl
  omega

end Knot
