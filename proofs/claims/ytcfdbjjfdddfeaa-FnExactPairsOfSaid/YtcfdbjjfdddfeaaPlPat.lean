/-
  Plain mathematics: Pat. No program is in sight.
-/
import Derived.Test.YtcfdbjjfdddfeaaPlLnp
namespace Knot

/-! ### A pairing passed on, step by step -/

/-- A row being filled: what is known, then zeros. -/
def oZ (l : List Int) (n : Nat) : List Int := l ++ List.replicate (n - l.length) 0
theorem oZ_len {l : List Int} {n : Nat} (h : l.length ≤ n) : (oZ l n).length = n := by unfold oZ; simp; omega
theorem oZ_nil (n : Nat) : oZ [] n = List.replicate n 0 := by simp [oZ]
theorem oZ_full {l : List Int} {n : Nat} (h : l.length = n) : oZ l n = l := by unfold oZ; simp [h]
theorem oZ_set {l : List Int} {n k : Nat} (hk : l.length = k) (hn : k < n) (x : Int) : (oZ l n).set k x = oZ (l ++ [x]) n := by
  unfold oZ
  rw [List.set_append_right _ _ (by omega), hk, Nat.sub_self]
  have h1 : n - k = (n - (l ++ [x]).length) + 1 := by simp; omega
  rw [h1, List.replicate_succ, List.set_cons_zero]
  simp

/-- A chain with some steps left: where it ends, and what will have been seen. -/
structure Ch (P L : List Int) (n : Nat) (a : Int) (s : List Bool) (j : Nat) (e : Int) (sf : List Bool) : Prop where
  low : ∀ i, i < j → 0 ≤ it (nxt P L) i a ∧ it (nxt P L) i a < n
  last : it (nxt P L) j a = e
  mark : marks P L a s j = sf
theorem Ch.zero {P L : List Int} {n : Nat} {a e : Int} {s sf : List Bool} (h : Ch P L n a s 0 e sf) : a = e ∧ s = sf := ⟨h.last, h.mark⟩
theorem Ch.head {P L : List Int} {n j : Nat} {a e : Int} {s sf : List Bool} (h : Ch P L n a s (j + 1) e sf) : 0 ≤ a ∧ a < n := h.low 0 (by omega)
theorem Ch.next {P L : List Int} {n j : Nat} {a e : Int} {s sf : List Bool} (h : Ch P L n a s (j + 1) e sf) : Ch P L n (gI L (gI P a)) (sB (sB s a) (gI P a)) j e sf := by
  refine ⟨fun i hi => ?_, ?_, ?_⟩
  · have := h.low (i + 1) (by omega)
    rw [it_succ'] at this
    exact this
  · have := h.last
    rw [it_succ'] at this
    exact this
  · have := h.mark
    rw [marks_front] at this
    exact this
section
variable {P L : List Int} {n : Nat} (hP : Pairing n P) (hL : Pairing (2 * n) L)
include hP hL
theorem pass1_chain {k : Nat} (hk : k < n) : ∃ (j : Nat) (e : Int) (sf : List Bool), j ≤ n ∧ (n : Int) ≤ e ∧ e < ((2 * n : Nat) : Int) ∧ Ch P L n (gI L ((n : Int) + k)) (pass1 P L n k).2 j e sf ∧ pass1 P L n (k + 1) = ((pass1 P L n k).1 ++ [e - n], sf) := by
  obtain ⟨j, hj, he, hlt⟩ := chain_leaves hP hL k hk
  have hc := chain_eq P L n j n (gI L ((n : Int) + k)) (pass1 P L n k).2 hj hlt he
  have hrng : ∀ i, i ≤ j → 0 ≤ it (nxt P L) i (gI L ((n : Int) + k)) ∧ it (nxt P L) i (gI L ((n : Int) + k)) < ((2 * n : Nat) : Int) := by
    intro i
    induction i with
    | zero => intro _; exact ⟨hL.lo _ (by omega) (by omega), hL.hi _ (by omega) (by omega)⟩
    | succ i ih =>
      intro hi
      have h1 := ih (by omega)
      have h2 := hlt i (by omega)
      have p0 := hP.lo _ h1.1 h2
      have p1 := hP.hi _ h1.1 h2
      exact ⟨hL.lo _ p0 (by omega), hL.hi _ p0 (by omega)⟩
  refine ⟨j, it (nxt P L) j (gI L ((n : Int) + k)), marks P L (gI L ((n : Int) + k)) (pass1 P L n k).2 j, hj, he, (hrng j (Nat.le_refl _)).2, ⟨fun i hi => ⟨(hrng i (by omega)).1, hlt i hi⟩, rfl, rfl⟩, ?_⟩
  conv => lhs; unfold pass1
  rw [hc]
theorem pass1_len : ∀ k, k ≤ n → (pass1 P L n k).1.length = k ∧ (pass1 P L n k).2.length = n := fun k hk => ⟨(passed hP hL k hk).len, (passed hP hL k hk).slen⟩
theorem pass_agree {x : Int} (x0 : 0 ≤ x) (x1 : x < n) (hx : gB (pass1 P L n n).2 x = false) : gI L (gI P x) = gI (inL P L n) (gI P x) := by
  have hu := (unseen_iff hP hL x0 x1).1 hx
  have h1 : Lk P L n x (gI P x) := (Lk.refl x0 (by omega)).p x1
  have h2 := unseen_small hP hL hu h1
  have h3 := unseen_small hP hL hu h1.l
  rw [inL_get h2.1 h2.2, if_pos h3.2]
theorem pass_as : pass P L n = ((pass1 P L n n).1, (cycTo P (inL P L n) n (pass1 P L n n).2 n).1) := by
  unfold pass
  rw [cycTo_congr hP (inL_pair hP hL) (pass1_len hP hL n (Nat.le_refl _)).2 (fun x x0 x1 hx => pass_agree hP hL x0 x1 hx) n (Nat.le_refl _)]
end
/-- What has been seen stays seen. -/
def Wide (s0 s : List Bool) : Prop := ∀ x : Int, 0 ≤ x → gB s x = false → gB s0 x = false
theorem wide_put {n : Nat} {s0 s : List Bool} (hs : s.length = n) (h : Wide s0 s) {a : Int} (a0 : 0 ≤ a) (a1 : a < n) : Wide s0 (sB s a) := by
  intro x x0 hx
  refine h x x0 ?_
  cases hb : gB s x
  · rfl
  · rw [(gB_sB x0 a0 (by rw [hs]; exact a1)).2 (.inr hb)] at hx
    cases hx
theorem cyc_wide {P L' : List Int} {n : Nat} (hP : Pairing n P) (hL' : Pairing n L') {s : List Bool} (hs : s.length = n) {k : Nat} (hk : k ≤ n) : Wide s (cycTo P L' n s k).2 := by
  intro x x0 hx
  cases hb : gB s x
  · rfl
  · rw [cycTo_mono hP hL' x0 hs hb k hk] at hx
    cases hx
/-- Links being filled: those at points above Y are laid. -/
def Laid (p : Pan) (X : Int) (tw : Bool) (L : List Int) (y : Int) : Prop := ∀ i, 0 ≤ i → i < 4 * p.H → ptL p X i < y → gI L (if tw then i else swp p i) = (if tw then linkA p X i else swp p (linkA p X i))
def lkOf (p : Pan) (X : Int) (tw : Bool) : List Int := if tw then links p X else linksR p X
theorem lkOf_len (p : Pan) (X : Int) (tw : Bool) : (lkOf p X tw).length = 2 * colN p := by
  unfold lkOf links linksR colN
  split <;> simp
theorem ptL_le {p : Pan} {X i : Int} (h0 : 0 ≤ i) (h1 : i < 4 * p.H) : 0 ≤ ptL p X i ∧ ptL p X i ≤ 2 * p.H := by
  unfold ptL rowL
  split <;> split <;> omega
theorem laid_all {p : Pan} {X : Int} {tw : Bool} {L : List Int} (hH : 1 ≤ p.H) (hl : L.length = 2 * colN p) {y : Int} (hy : 2 * p.H < y) (h : Laid p X tw L y) : L = lkOf p X tw := by
  refine List.ext_getElem (by rw [hl, lkOf_len]) fun i h1 h2 => ?_
  have hc : (colN p : Int) = 2 * p.H := by unfold colN; omega
  have e1 : gI L (i : Int) = L[i] := by simp [gI, List.getD, h1]
  have e2 : gI (lkOf p X tw) (i : Int) = (lkOf p X tw)[i] := by simp [gI, List.getD, h2]
  rw [← e1, ← e2]
  have i1 : (i : Int) < 4 * p.H := by omega
  cases tw
  · obtain ⟨s1, s2, s3⟩ := swp_swp (p := p) (i := (i : Int)) (by omega) i1
    have := h (swp p i) s2 s3 (by have := ptL_le (p := p) (X := X) s2 s3; omega)
    simp only [Bool.false_eq_true, if_false] at this
    rw [s1] at this
    rw [this]
    show _ = gI (linksR p X) i
    rw [linksR_get (by omega) i1]
  · have := h i (by omega) i1 (by have := ptL_le (p := p) (X := X) (i := (i : Int)) (by omega) i1; omega)
    simp only [if_true] at this
    rw [this]
    show _ = gI (links p X) i
    rw [links_get (by omega) i1]
/-- Links being filled at a point: those of the first pairs there are laid too. -/
def LaidAt (p : Pan) (X : Int) (tw : Bool) (L : List Int) (y : Int) (m : Nat) : Prop := ∀ i, 0 ≤ i → i < 4 * p.H → (ptL p X i < y ∨ (ptL p X i = y ∧ ∃ a b, (a, b) ∈ (pairsP p X y).take m ∧ (a = (X - 1) * (2 * p.H) + i ∨ b = (X - 1) * (2 * p.H) + i))) →
  gI L (if tw then i else swp p i) = (if tw then linkA p X i else swp p (linkA p X i))
theorem laidAt_zero {p : Pan} {X : Int} {tw : Bool} {L : List Int} {y : Int} (h : Laid p X tw L y) : LaidAt p X tw L y 0 := fun i h0 h1 hh => h i h0 h1 (by
  rcases hh with h | ⟨_, a, b, hm, _⟩
  · exact h
  · simp at hm)
theorem laidAt_full {p : Pan} (hp : Ok p) {X : Int} (hX : 0 < X ∧ X < 2 * p.W) {tw : Bool} {L : List Int} {y : Int} (hy : (X + y) % 2 = 1) {m : Nat} (hm : (pairsP p X y).length ≤ m) (h : LaidAt p X tw L y m) : Laid p X tw L (y + 2) := by
  intro i h0 h1 hlt
  refine h i h0 h1 ?_
  have hpt := pt_has hX h0 h1
  have hpar := hpt.2.2.2.2
  by_cases e : ptL p X i = y
  · obtain ⟨a, b, hab, hor⟩ := pairs_all hp hX h0 h1
    rw [e] at hab
    exact .inr ⟨e, a, b, by rw [List.take_of_length_le hm]; exact hab, hor⟩
  · exact .inl (by omega)
theorem laidAt_step {p : Pan} (hp : Ok p) {X : Int} (hX : 0 < X ∧ X < 2 * p.W) {tw : Bool} {L : List Int} (hl : L.length = 2 * colN p) {y : Int} (hh : Has p X y) {m : Nat} {a b : Int} (hm : m < (pairsP p X y).length) (hab : (pairsP p X y)[m] = (a, b)) {i j : Int}
    (hi : a = (X - 1) * (2 * p.H) + i) (hj : b = (X - 1) * (2 * p.H) + j) (i0 : 0 ≤ i) (i1 : i < 4 * p.H) (h : LaidAt p X tw L y m) :
    j = linkA p X i ∧ LaidAt p X tw (((L.set (if tw then i else swp p i).toNat (if tw then j else swp p j))).set (if tw then j else swp p j).toNat (if tw then i else swp p i)) y (m + 1) := by
  have hmem : (a, b) ∈ pairsP p X y := by rw [← hab]; exact List.getElem_mem hm
  obtain ⟨i', i0', i1', ea, eb, ept⟩ := pairs_link hp hX hh hmem
  obtain rfl : i' = i := by omega
  obtain rfl : j = linkA p X i' := by omega
  refine ⟨rfl, ?_⟩
  obtain ⟨j0, j1, jn⟩ := linkA_rng (p := p) (X := X) i0 i1
  have jpt := linkA_pt (p := p) (X := X) i0 i1
  have jinv := linkA_inv (p := p) (X := X) i0 i1
  have hc : (colN p : Int) = 2 * p.H := by have := hp.h1; unfold colN; omega
  obtain ⟨si1, si2, si3⟩ := swp_swp (p := p) i0 i1
  obtain ⟨sj1, sj2, sj3⟩ := swp_swp (p := p) j0 j1
  have cast : ∀ q : Int, 0 ≤ q → q < 4 * p.H → 0 ≤ (if tw then q else swp p q) ∧ (if tw then q else swp p q) < 4 * p.H := fun q q0 q1 => by
    split
    · exact ⟨q0, q1⟩
    · exact (swp_swp q0 q1).2
  have cinj : ∀ q r : Int, 0 ≤ q → q < 4 * p.H → 0 ≤ r → r < 4 * p.H → (if tw then q else swp p q) = (if tw then r else swp p r) → q = r := fun q r q0 q1 r0 r1 e => by
    split at e
    · exact e
    · rw [← (swp_swp (p := p) q0 q1).1, e, (swp_swp (p := p) r0 r1).1]
  intro q q0 q1 hq
  have cq := cast q q0 q1
  have ci := cast i' i0 i1
  have cj := cast (linkA p X i') j0 j1
  by_cases e1 : q = linkA p X i'
  · rw [e1, jinv]
    have : gI (((L.set (if tw then i' else swp p i').toNat (if tw then linkA p X i' else swp p (linkA p X i')))).set (if tw then linkA p X i' else swp p (linkA p X i')).toNat (if tw then i' else swp p i')) (if tw then linkA p X i' else swp p (linkA p X i')) = (if tw then i' else swp p i') := by
      unfold gI
      rw [List.getD, List.getElem?_set_self (by rw [List.length_set]; omega)]
      rfl
    exact this
  · have n1 : (if tw then linkA p X i' else swp p (linkA p X i')).toNat ≠ (if tw then q else swp p q).toNat := fun e => e1 (cinj _ _ q0 q1 j0 j1 (by omega))
    by_cases e2 : q = i'
    · subst e2
      unfold gI
      rw [List.getD, List.getElem?_set_ne n1, List.getElem?_set_self (by omega)]
      rfl
    · have n2 : (if tw then i' else swp p i').toNat ≠ (if tw then q else swp p q).toNat := fun e => e2 (cinj _ _ q0 q1 i0 i1 (by omega))
      have e3 : gI (((L.set (if tw then i' else swp p i').toNat (if tw then linkA p X i' else swp p (linkA p X i')))).set (if tw then linkA p X i' else swp p (linkA p X i')).toNat (if tw then i' else swp p i')) (if tw then q else swp p q) = gI L (if tw then q else swp p q) := by
        unfold gI
        rw [List.getD, List.getElem?_set_ne n1, List.getElem?_set_ne n2]
        rfl
      rw [e3]
      refine h q q0 q1 ?_
      rcases hq with hq | ⟨hq1, a', b', hq2, hq3⟩
      · exact .inl hq
      · refine .inr ⟨hq1, a', b', ?_, hq3⟩
        rw [List.take_succ_eq_append_getElem hm, List.mem_append, List.mem_singleton, hab] at hq2
        rcases hq2 with hq2 | hq2
        · exact hq2
        · exfalso
          injection hq2 with h1 h2
          rcases hq3 with hq3 | hq3 <;> omega
end Knot
