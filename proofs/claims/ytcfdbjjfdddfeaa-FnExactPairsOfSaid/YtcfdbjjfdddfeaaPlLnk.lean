/-
  Plain mathematics: Lnk. No program is in sight.
-/
import Derived.Test.YtcfdbjjfdddfeaaPlCls
import Derived.Test.YtcfdbjjfdddfeaaPlSid
namespace Knot

/-! ### The pairs of segments at a point; the links between two columns -/

/-- The segment at a point in a direction. -/
def sg (p : Pan) (x y dx dy : Int) : Int := segI p ⟨x, y, dx, dy⟩
/-- The pairs of segments that are joined at a point. -/
def pairsP (p : Pan) (x y : Int) : List (Int × Int) :=
  if x = 0 then [(sg p x y 1 (-1), sg p x y 1 1)]
  else if x = 2 * p.W then [(sg p x y (-1) (-1), sg p x y (-1) 1)]
  else if y = 0 then [(sg p x y (-1) 1, sg p x y 1 1)]
  else if y = 2 * p.H then [(sg p x y (-1) (-1), sg p x y 1 (-1))]
  else if brk p x y = 1 then [(sg p x y (-1) (-1), sg p x y (-1) 1), (sg p x y 1 (-1), sg p x y 1 1)]
  else if brk p x y = 2 then [(sg p x y (-1) (-1), sg p x y 1 (-1)), (sg p x y (-1) 1, sg p x y 1 1)]
  else [(sg p x y (-1) (-1), sg p x y 1 1), (sg p x y 1 (-1), sg p x y (-1) 1)]

/-- The row of a segment of the column left (below 2H) or right of the points with an X. -/
def rowL (p : Pan) (i : Int) : Int := if i < 2 * p.H then i else i - 2 * p.H
/-- The Y of its point. -/
def ptL (p : Pan) (X i : Int) : Int := if (X + rowL p i) % 2 = 1 then rowL p i else rowL p i + 1
/-- The other row at that point. -/
def othL (p : Pan) (X i : Int) : Int := if (X + rowL p i) % 2 = 1 then rowL p i - 1 else rowL p i + 1
/-- To which segment it is joined there. -/
def linkA (p : Pan) (X i : Int) : Int :=
  if ptL p X i = 0 ∨ ptL p X i = 2 * p.H ∨ brk p X (ptL p X i) = 2 then (if i < 2 * p.H then 2 * p.H + rowL p i else rowL p i)
  else if brk p X (ptL p X i) = 1 then (if i < 2 * p.H then othL p X i else 2 * p.H + othL p X i)
  else (if i < 2 * p.H then 2 * p.H + othL p X i else othL p X i)

section
variable {p : Pan} (hp : Ok p) {X : Int} (hX : 0 < X ∧ X < 2 * p.W)

theorem linkA_rng {i : Int} (h0 : 0 ≤ i) (h1 : i < 4 * p.H) : 0 ≤ linkA p X i ∧ linkA p X i < 4 * p.H ∧ linkA p X i ≠ i := by
  unfold linkA othL ptL rowL
  generalize brk p X _ = k
  split <;> split <;> (try split) <;> (try split) <;> (try split) <;> omega

theorem linkA_pt {i : Int} (h0 : 0 ≤ i) (h1 : i < 4 * p.H) : ptL p X (linkA p X i) = ptL p X i := by
  have e : ∀ k, linkA p X i = (if ptL p X i = 0 ∨ ptL p X i = 2 * p.H ∨ brk p X (ptL p X i) = 2 then (if i < 2 * p.H then 2 * p.H + rowL p i else rowL p i)
    else if brk p X (ptL p X i) = 1 then (if i < 2 * p.H then othL p X i else 2 * p.H + othL p X i)
    else (if i < 2 * p.H then 2 * p.H + othL p X i else othL p X i)) → k = brk p X (ptL p X i) → ptL p X (linkA p X i) = ptL p X i := by
    intro k hk _
    rw [hk]
    generalize brk p X (ptL p X i) = b
    unfold othL ptL rowL
    by_cases hi : i < 2 * p.H
    · simp only [if_pos hi]
      split <;> (try split) <;> (try split) <;> (try split) <;> (try split) <;> omega
    · simp only [if_neg hi]
      split <;> (try split) <;> (try split) <;> (try split) <;> (try split) <;> omega
  exact e _ rfl rfl

theorem linkA_inv {i : Int} (h0 : 0 ≤ i) (h1 : i < 4 * p.H) : linkA p X (linkA p X i) = i := by
  have hpt := linkA_pt (p := p) (X := X) h0 h1
  have hr := linkA_rng (p := p) (X := X) h0 h1
  generalize hj : linkA p X i = j at *
  unfold linkA at hj ⊢
  rw [hpt]
  have hpi : ptL p X i = (if (X + rowL p i) % 2 = 1 then rowL p i else rowL p i + 1) := rfl
  have hpj : ptL p X j = (if (X + rowL p j) % 2 = 1 then rowL p j else rowL p j + 1) := rfl
  rw [hpt] at hpj
  generalize brk p X (ptL p X i) = b at *
  generalize ptL p X i = y at *
  unfold othL rowL at *
  by_cases hi : i < 2 * p.H
  · simp only [if_pos hi] at *
    split at hj
    · rename_i hc
      rw [if_pos hc]
      subst hj
      rw [if_neg (by omega), if_neg (by omega)]
      omega
    · rename_i hc
      rw [if_neg hc]
      split at hj
      · rename_i hc2
        rw [if_pos hc2]
        have hj2 : j < 2 * p.H := by split at hj <;> split at hpi <;> omega
        simp only [if_pos hj2] at *
        split at hj <;> split <;> split at hpi <;> split at hpj <;> omega
      · rename_i hc2
        rw [if_neg hc2]
        have hj2 : ¬ j < 2 * p.H := by split at hj <;> split at hpi <;> omega
        simp only [if_neg hj2] at *
        split at hj <;> split <;> split at hpi <;> split at hpj <;> omega
  · simp only [if_neg hi] at *
    split at hj
    · rename_i hc
      rw [if_pos hc]
      subst hj
      rw [if_pos (by omega), if_pos (by omega)]
      omega
    · rename_i hc
      rw [if_neg hc]
      split at hj
      · rename_i hc2
        rw [if_pos hc2]
        have hj2 : ¬ j < 2 * p.H := by split at hj <;> split at hpi <;> omega
        simp only [if_neg hj2] at *
        split at hj <;> split <;> split at hpi <;> split at hpj <;> omega
      · rename_i hc2
        rw [if_neg hc2]
        have hj2 : j < 2 * p.H := by split at hj <;> split at hpi <;> omega
        simp only [if_pos hj2] at *
        split at hj <;> split <;> split at hpi <;> split at hpj <;> omega
end

/-- The links as a list: first the left column, then the right one. -/
def links (p : Pan) (X : Int) : List Int := (List.range (2 * (2 * p.H).toNat)).map fun i : Nat => linkA p X i
/-- The same, first the right column. -/
def linksR (p : Pan) (X : Int) : List Int := (List.range (2 * (2 * p.H).toNat)).map fun i : Nat => if linkA p X (if (i : Int) < 2 * p.H then (i : Int) + 2 * p.H else (i : Int) - 2 * p.H) < 2 * p.H
  then linkA p X (if (i : Int) < 2 * p.H then (i : Int) + 2 * p.H else (i : Int) - 2 * p.H) + 2 * p.H else linkA p X (if (i : Int) < 2 * p.H then (i : Int) + 2 * p.H else (i : Int) - 2 * p.H) - 2 * p.H
def swp (p : Pan) (i : Int) : Int := if i < 2 * p.H then i + 2 * p.H else i - 2 * p.H
theorem links_get {p : Pan} {X i : Int} (h0 : 0 ≤ i) (h1 : i < 4 * p.H) : gI (links p X) i = linkA p X i := by
  obtain ⟨k, rfl⟩ := Int.eq_ofNat_of_zero_le h0
  have hk : k < 2 * (2 * p.H).toNat := by omega
  unfold links gI
  simp [List.getD, hk]
theorem linksR_get {p : Pan} {X i : Int} (h0 : 0 ≤ i) (h1 : i < 4 * p.H) : gI (linksR p X) i = swp p (linkA p X (swp p i)) := by
  obtain ⟨k, rfl⟩ := Int.eq_ofNat_of_zero_le h0
  have hk : k < 2 * (2 * p.H).toNat := by omega
  unfold linksR gI swp
  simp [List.getD, hk]
theorem swp_swp {p : Pan} {i : Int} (h0 : 0 ≤ i) (h1 : i < 4 * p.H) : swp p (swp p i) = i ∧ 0 ≤ swp p i ∧ swp p i < 4 * p.H := by
  unfold swp
  split <;> split <;> omega
theorem links_pair {p : Pan} (hH : 1 ≤ p.H) (X : Int) : Pairing (2 * (2 * p.H).toNat) (links p X) := by
  refine ⟨by simp [links], fun i h0 h1 => ?_, fun i h0 h1 => ?_, fun i h0 h1 => ?_, fun i h0 h1 => ?_⟩ <;>
    have hr := linkA_rng (p := p) (X := X) h0 (show i < 4 * p.H by omega) <;> rw [links_get h0 (by omega)]
  · exact hr.1
  · omega
  · exact hr.2.2
  · rw [links_get hr.1 hr.2.1]
    exact linkA_inv h0 (by omega)
theorem linksR_pair {p : Pan} (hH : 1 ≤ p.H) (X : Int) : Pairing (2 * (2 * p.H).toNat) (linksR p X) := by
  refine ⟨by simp [linksR], fun i h0 h1 => ?_, fun i h0 h1 => ?_, fun i h0 h1 => ?_, fun i h0 h1 => ?_⟩ <;>
    obtain ⟨s1, s2, s3⟩ := swp_swp (p := p) h0 (show i < 4 * p.H by omega) <;>
    have hr := linkA_rng (p := p) (X := X) s2 s3 <;> obtain ⟨t1, t2, t3⟩ := swp_swp (p := p) hr.1 hr.2.1 <;> rw [linksR_get h0 (by omega)]
  · exact t2
  · omega
  · intro e
    rw [e] at t1
    exact hr.2.2 t1.symm
  · rw [linksR_get t2 t3, t1, linkA_inv s2 s3, s1]

section
variable {p : Pan} (hp : Ok p) {X : Int} (hX : 0 < X ∧ X < 2 * p.W)
include hp hX

omit hp in
theorem step_over {s dy y : Int} (hs : s = 1 ∨ s = -1) (hdy : dy = 1 ∨ dy = -1) :
    segI p ⟨X - s, y - dy, s, dy⟩ = (if s = 1 then X - 1 else X) * (2 * p.H) + min (y - dy) y ∧
    segI p (stepW p ⟨X - s, y - dy, s, dy⟩) = (if brk p X y = 1 then (if s = 1 then X - 1 else X) else (if s = 1 then X else X - 1)) * (2 * p.H) + min y (y + if y = 0 ∨ y = 2 * p.H ∨ brk p X y = 2 then -dy else dy) := by
  have e1 : X - s + s = X := by omega
  have e2 : y - dy + dy = y := by omega
  constructor
  · unfold segI
    simp only [e1, e2]
    congr 2
    split <;> omega
  · unfold segI stepW
    simp only [e1, e2]
    have e3 : (X = 0 ∨ X = 2 * p.W ∨ brk p X y = 1) ↔ brk p X y = 1 := by omega
    simp only [e3]
    congr 2
    split <;> split <;> omega

/-- A step over a point between two columns. -/
theorem link_step {i : Int} (h0 : 0 ≤ i) (h1 : i < 4 * p.H) :
    ∃ w, OkW p w ∧ segI p w = (X - 1) * (2 * p.H) + i ∧ segI p (stepW p w) = (X - 1) * (2 * p.H) + linkA p X i ∧ w.X + w.dx = X := by
  have hH := hp.h1
  have hXX : X * (2 * p.H) = (X - 1) * (2 * p.H) + 2 * p.H := by rw [Int.sub_mul]; omega
  obtain ⟨r, hr⟩ : ∃ r, r = rowL p i := ⟨_, rfl⟩
  obtain ⟨y, hy⟩ : ∃ y, y = ptL p X i := ⟨_, rfl⟩
  obtain ⟨o, ho⟩ : ∃ o, o = othL p X i := ⟨_, rfl⟩
  obtain ⟨dy, hdy⟩ : ∃ dy : Int, dy = if (X + r) % 2 = 1 then -1 else 1 := ⟨_, rfl⟩
  obtain ⟨s, hs⟩ : ∃ s : Int, s = if i < 2 * p.H then 1 else -1 := ⟨_, rfl⟩
  have hlk : linkA p X i = (if y = 0 ∨ y = 2 * p.H ∨ brk p X y = 2 then (if i < 2 * p.H then 2 * p.H + r else r)
    else if brk p X y = 1 then (if i < 2 * p.H then o else 2 * p.H + o) else (if i < 2 * p.H then 2 * p.H + o else o)) := by
    rw [hr, hy, ho]; rfl
  have hr' : r = if i < 2 * p.H then i else i - 2 * p.H := hr
  have hy' : y = if (X + r) % 2 = 1 then r else r + 1 := by rw [hy, hr]; rfl
  have ho' : o = if (X + r) % 2 = 1 then r - 1 else r + 1 := by rw [ho, hr]; rfl
  have hdy2 : dy = 1 ∨ dy = -1 := by split at hdy <;> omega
  have hs2 : s = 1 ∨ s = -1 := by split at hs <;> omega
  have hrb : 0 ≤ r ∧ r < 2 * p.H := by split at hr' <;> omega
  have hedge : y = 0 ∨ y = 2 * p.H → brk p X y = 0 := by
    intro h
    unfold brk
    rw [if_pos]
    unfold Edge
    omega
  obtain ⟨e1, e2⟩ := step_over (p := p) hX (y := y) hs2 hdy2
  refine ⟨⟨X - s, y - dy, s, dy⟩, okW_mk hs2 hdy2 ⟨by omega, by omega, ?_, ?_, ?_⟩ ⟨?_, ?_, ?_, ?_, ?_⟩, ?_, ?_, by show X - s + s = X; omega⟩
  · split at hy' <;> split at hdy <;> omega
  · split at hy' <;> split at hdy <;> omega
  · split at hy' <;> split at hdy <;> omega
  · omega
  · omega
  · split at hy' <;> split at hdy <;> omega
  · split at hy' <;> split at hdy <;> omega
  · split at hy' <;> split at hdy <;> omega
  · rw [e1]
    have hm : min (y - dy) y = r := by split at hy' <;> split at hdy <;> omega
    rw [hm]
    by_cases hi : i < 2 * p.H
    · rw [if_pos hi] at hs hr'
      rw [if_pos hs, hr']
    · rw [if_neg hi] at hs hr'
      rw [if_neg (by omega), hXX, hr']
      omega
  · rw [e2, hlk]
    generalize hb : brk p X y = b at *
    have m1 : min y (y + -dy) = r := by split at hy' <;> split at hdy <;> omega
    have m2 : min y (y + dy) = o := by split at hy' <;> split at hdy <;> split at ho' <;> omega
    by_cases hi : i < 2 * p.H
    · rw [if_pos hi] at hs
      simp only [if_pos hi, if_pos hs]
      by_cases hc : y = 0 ∨ y = 2 * p.H ∨ b = 2
      · rw [if_pos hc, if_pos hc, m1, if_neg (by omega), hXX]; omega
      · rw [if_neg hc, if_neg hc, m2]
        split
        · rfl
        · rw [hXX]; omega
    · rw [if_neg hi] at hs
      simp only [if_neg hi, if_neg (show ¬ s = 1 by omega)]
      by_cases hc : y = 0 ∨ y = 2 * p.H ∨ b = 2
      · rw [if_pos hc, if_pos hc, m1, if_neg (by omega)]
      · rw [if_neg hc, if_neg hc, m2]
        split
        · rw [hXX]; omega
        · rfl

/-- Every step over a point between two columns is a link. -/
theorem step_link {w : Wk} (h : OkW p w) (hw : w.X + w.dx = X) :
    ∃ i, 0 ≤ i ∧ i < 4 * p.H ∧ segI p w = (X - 1) * (2 * p.H) + i ∧ segI p (stepW p w) = (X - 1) * (2 * p.H) + linkA p X i := by
  have hH := hp.h1
  have hXX : X * (2 * p.H) = (X - 1) * (2 * p.H) + 2 * p.H := by rw [Int.sub_mul]; omega
  obtain ⟨i, h0, h1, hi⟩ : ∃ i, 0 ≤ i ∧ i < 4 * p.H ∧ segI p w = (X - 1) * (2 * p.H) + i := by
    obtain ⟨x, y, dx, dy⟩ := w
    obtain ⟨d1, d2, ⟨a1, a2, a3, a4, a5⟩, ⟨b1, b2, b3, b4, b5⟩⟩ := h
    simp only [] at *
    unfold segI
    simp only []
    rcases d1 with rfl | rfl
    · refine ⟨min y (y + dy), by omega, by omega, ?_⟩
      rw [show min x (x + 1) = X - 1 by omega]
    · refine ⟨2 * p.H + min y (y + dy), by omega, by omega, ?_⟩
      rw [show min x (x + -1) = X by omega, hXX]
      omega
  refine ⟨i, h0, h1, hi, ?_⟩
  obtain ⟨v, hv, hvi, hvs, hvX⟩ := link_step hp hX h0 h1
  rcases seg_same h hv (by rw [hi, hvi]) with e | e
  · rw [e]; exact hvs
  · -- the other walker on this segment does not come to X
    exfalso
    rw [e] at hw
    have hd := hv.dx
    unfold backW at hw
    simp only [] at hw
    omega
end
end Knot
