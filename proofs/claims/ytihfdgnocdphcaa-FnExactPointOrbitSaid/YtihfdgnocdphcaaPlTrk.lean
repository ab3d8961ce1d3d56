/-
  Plain mathematics: Trk. No program is in sight.
-/
import Derived.Test.YtihfdgnocdphcaaPlPan
import Derived.Test.YtihfdgnocdphcaaPlPass
namespace Knot

/-! ### The walk of a walker, step by step -/

/-- The first states of a walk. -/
def trk (p : Pan) (a : Wk) (n : Nat) : List Wk := (List.range n).map fun j => it (stepW p) j a
theorem trk_length (p : Pan) (a : Wk) (n : Nat) : (trk p a n).length = n := by simp [trk]
theorem trk_succ (p : Pan) (a : Wk) (n : Nat) : trk p a (n + 1) = trk p a n ++ [it (stepW p) n a] := by simp [trk, List.range_succ]
/-- The points at which walkers stand, one after the other (X, Y, X, Y, ..). -/
def flatP (l : List Wk) : List Int := l.flatMap fun a => [a.X, a.Y]
theorem flatP_append (l m : List Wk) : flatP (l ++ m) = flatP l ++ flatP m := by simp [flatP]
def segsP (p : Pan) (l : List Wk) : List Int := l.map (segI p)
/-- How many segments; the tracing of a panel. -/
def segN (p : Pan) : Nat := (4 * p.W * p.H).toNat
def traceP (p : Pan) (k : Nat) : List (List Wk) × List Int := traceTo (stepW p) (fun w => (segI p w).toNat) (fun k => startI p k) (segN p) k
theorem traceP_sys {p : Pan} (hp : Ok p) (k : Nat) : (sys p hp).traceTo k = traceP p k := rfl
theorem segN_le {p : Pan} (hp : Ok p) : segN p ≤ 256 := by
  show (4 * p.W * p.H).toNat ≤ 256
  have := hp.w1
  have := hp.w8
  have := hp.h1
  have := hp.h8
  have h : 4 * p.W * p.H ≤ 4 * 8 * 8 := Int.mul_le_mul (by omega) (by omega) (by omega) (by omega)
  omega
/-- The first return of a walk; the states up to it are the curve. -/
theorem trk_orb {p : Pan} (hp : Ok p) {a : Wk} (ha : OkW p a) :
    ∃ T, 1 ≤ T ∧ T ≤ 512 ∧ it (stepW p) T a = a ∧ (∀ i, 1 ≤ i → i < T → it (stepW p) i a ≠ a) ∧ orbF (stepW p) a (2 * segN p) a = trk p a T := by
  obtain ⟨T, h1, h2, h3, h4⟩ := (sys p hp).first a ha
  have hs : (sys p hp).N = segN p := rfl
  have hN := segN_le hp
  rw [hs] at h2
  refine ⟨T, h1, by omega, h3, h4, ?_⟩
  have he := orbF_eq (stepW p) a T h3 h4 (2 * segN p) 0 (by omega) (by omega)
  rw [show orbF (stepW p) a (2 * segN p) a = orbF (stepW p) a (2 * segN p) (it (stepW p) 0 a) from rfl, he]
  simp [trk, List.range_eq_range']
theorem trk_ok {p : Pan} (hp : Ok p) {a : Wk} (ha : OkW p a) (i : Nat) : OkW p (it (stepW p) i a) := (sys p hp).itV i a ha

/-! ### The tracing, round by round -/
theorem traceP_len (p : Pan) : ∀ k, (traceP p k).2.length = segN p
  | 0 => by simp [traceP, traceTo]
  | k + 1 => by
    have ih := traceP_len p k
    unfold traceP at ih ⊢
    unfold traceTo
    simp only []
    split
    · exact ih
    · rw [mark_length]; exact ih
theorem traceP_count (p : Pan) : ∀ k, (traceP p k).1.length ≤ k
  | 0 => by simp [traceP, traceTo]
  | k + 1 => by
    have ih := traceP_count p k
    unfold traceP at ih ⊢
    unfold traceTo
    simp only []
    split
    · omega
    · simp; omega
theorem gI_getD (l : List Int) (k : Nat) : gI l k = l.getD k 0 := by simp [gI]
theorem traceP_seen {p : Pan} {k : Nat} (h : 0 ≤ gI (traceP p k).2 k) : traceP p (k + 1) = traceP p k := by
  rw [gI_getD] at h
  unfold traceP at h ⊢
  conv => lhs; unfold traceTo
  simp only []
  rw [if_pos h]
/-- The segments of a walk's first states, as places. -/
def segN' (p : Pan) (l : List Wk) : List Nat := l.map fun w => (segI p w).toNat
theorem traceP_new {p : Pan} {k : Nat} (h : ¬ 0 ≤ gI (traceP p k).2 k) :
    traceP p (k + 1) = ((traceP p k).1 ++ [orbF (stepW p) (startI p k) (2 * segN p) (startI p k)], mark (traceP p k).1.length (traceP p k).2 (segN' p (orbF (stepW p) (startI p k) (2 * segN p) (startI p k)))) := by
  rw [gI_getD] at h
  unfold traceP at h ⊢
  conv => lhs; unfold traceTo
  simp only []
  rw [if_neg h]
  rfl
theorem mark_take (c : Int) (own : List Int) (ss : List Nat) (i : Nat) (hi : i < ss.length) : mark c own (ss.take (i + 1)) = (mark c own (ss.take i)).set ss[i] c := by
  rw [List.take_add_one, List.getElem?_eq_getElem hi]
  unfold mark
  rw [List.foldl_append]
  rfl
theorem mark_all (c : Int) (own : List Int) (ss : List Nat) {n : Nat} (h : ss.length ≤ n) : mark c own (ss.take n) = mark c own ss := by rw [List.take_of_length_le h]
theorem trk_get (p : Pan) (a : Wk) (n i : Nat) (h : i < n) : (trk p a n)[i]? = some (it (stepW p) i a) := by simp [trk, h]
theorem gI_segsP (p : Pan) (a : Wk) (n i : Nat) (h : i < n) : gI (segsP p (trk p a n)) i = segI p (it (stepW p) i a) := by
  simp [gI, segsP, List.getD, trk_get p a n i h]
theorem segN'_get (p : Pan) (a : Wk) (n i : Nat) (h : i < n) : ∃ hi : i < (segN' p (trk p a n)).length, (segN' p (trk p a n))[i] = (segI p (it (stepW p) i a)).toNat :=
  ⟨by simp [segN', trk_length, h], by simp [segN', trk]⟩
theorem segN'_length (p : Pan) (l : List Wk) : (segN' p l).length = l.length := by simp [segN']
end Knot
