/-
  Plain mathematics: Col. No program is in sight.
-/
import Derived.Test.YtcfdbjjfdddfeaaPlLnk
namespace Knot

/-! ### Columns: what is known from the left and from the right; together they tell the number of curves -/

def nbrK (k : Nat) : Int := if k % 2 = 0 then (k : Int) + 1 else (k : Int) - 1
def nbrsK (n : Nat) : List Int := (List.range n).map nbrK
theorem nbrsK_get {n : Nat} {i : Int} (h0 : 0 ≤ i) (h1 : i < n) : gI (nbrsK n) i = if i % 2 = 0 then i + 1 else i - 1 := by
  obtain ⟨k, rfl⟩ := Int.eq_ofNat_of_zero_le h0
  have hk : k < n := by omega
  unfold nbrsK gI
  simp [List.getD, hk]
  unfold nbrK
  split <;> split <;> omega
theorem nbrsK_pair {n : Nat} (hn : n % 2 = 0) : Pairing n (nbrsK n) := by
  refine ⟨by simp [nbrsK], fun i h0 h1 => ?_, fun i h0 h1 => ?_, fun i h0 h1 => ?_, fun i h0 h1 => ?_⟩ <;> rw [nbrsK_get h0 h1]
  · split <;> omega
  · split <;> omega
  · split <;> omega
  · split
    · rw [nbrsK_get (by omega) (by omega), if_neg (by omega)]; omega
    · rw [nbrsK_get (by omega) (by omega), if_pos (by omega)]; omega

def colN (p : Pan) : Nat := (2 * p.H).toNat
/-- What is known at a column from the left. -/
def colL (p : Pan) : Nat → List Int × Int
  | 0 => (nbrsK (colN p), 0)
  | x + 1 => ((pass (colL p x).1 (links p ((x : Int) + 1)) (colN p)).1, (colL p x).2 + (pass (colL p x).1 (links p ((x : Int) + 1)) (colN p)).2)
/-- What is known from the right, k columns from the last. -/
def colR (p : Pan) : Nat → List Int × Int
  | 0 => (nbrsK (colN p), 0)
  | k + 1 => ((pass (colR p k).1 (linksR p (2 * p.W - 1 - k)) (colN p)).1, (colR p k).2 + (pass (colR p k).1 (linksR p (2 * p.W - 1 - k)) (colN p)).2)

/-- Joined by steps over points with certain X. -/
inductive Jt (p : Pan) (T : Int → Prop) : Nat → Nat → Prop
  | refl {a : Nat} (h : a < segN p) : Jt p T a a
  | step {a : Nat} {w : Wk} (h : Jt p T a (segI p w).toNat) (hw : OkW p w) (ht : T (w.X + w.dx)) : Jt p T a (segI p (stepW p w)).toNat

section
variable {p : Pan} (hp : Ok p)

theorem seg_nat {w : Wk} (h : OkW p w) : ((segI p w).toNat : Int) = segI p w := by
  have := seg_bounds h
  omega
include hp
theorem Jt.lt {T : Int → Prop} {a b : Nat} (h : Jt p T a b) : a < segN p ∧ b < segN p := by
  induction h with
  | refl h => exact ⟨h, h⟩
  | step h hw ht ih => exact ⟨ih.1, seg_lt hp (hw.step hp)⟩
omit hp in
theorem Jt.trans {T : Int → Prop} {a b c : Nat} (h : Jt p T a b) (k : Jt p T b c) : Jt p T a c := by
  induction k with
  | refl _ => exact h
  | step k hw ht ih => exact .step ih hw ht
theorem Jt.one {T : Int → Prop} {w : Wk} (hw : OkW p w) (ht : T (w.X + w.dx)) : Jt p T (segI p w).toNat (segI p (stepW p w)).toNat := .step (.refl (seg_lt hp hw)) hw ht
theorem Jt.symm {T : Int → Prop} {a b : Nat} (h : Jt p T a b) : Jt p T b a := by
  induction h with
  | refl h => exact .refl h
  | @step w h hw ht ih =>
    have hs := hw.step hp
    have h1 := Jt.one hp (T := T) hs.back (by
      show T ((stepW p w).X + (stepW p w).dx + -(stepW p w).dx)
      rw [show (stepW p w).X + (stepW p w).dx + -(stepW p w).dx = w.X + w.dx by
        show w.X + w.dx + _ + -_ = _
        omega]
      exact ht)
    rw [step_back_step, seg_back, seg_back] at h1
    exact h1.trans ih
omit hp in
theorem Jt.min {T : Int → Prop} {Q : Nat → Prop} (hQ : ∀ w, OkW p w → T (w.X + w.dx) → Q (segI p w).toNat → Q (segI p (stepW p w)).toNat) {a b : Nat} (h : Jt p T a b) (ha : Q a) : Q b := by
  induction h with
  | refl _ => exact ha
  | step h hw ht ih => exact hQ _ hw ht ih
theorem Jt.on {T : Int → Prop} {a b : Nat} (h : Jt p T a b) : On p hp a b := by
  induction h with
  | refl h => exact On.refl hp h
  | step h hw ht ih => exact ih.trans hp (On.step hp hw)

omit hp in
/-- The column of a segment beside a point. -/
theorem seg_col {w : Wk} (h : OkW p w) : ∃ c r, (c = w.X + w.dx - 1 ∨ c = w.X + w.dx) ∧ 0 ≤ c ∧ c < 2 * p.W ∧ 0 ≤ r ∧ r < 2 * p.H ∧ segI p w = c * (2 * p.H) + r := by
  obtain ⟨d1, d2, ⟨a1, a2, a3, a4, a5⟩, ⟨b1, b2, b3, b4, b5⟩⟩ := h
  exact ⟨min w.X (w.X + w.dx), min w.Y (w.Y + w.dy), by omega, by omega, by omega, by omega, by omega, rfl⟩
theorem seg_col' {w : Wk} (h : OkW p w) : ∃ c r, (c = w.X + w.dx - 1 ∨ c = w.X + w.dx) ∧ 0 ≤ c ∧ c < 2 * p.W ∧ 0 ≤ r ∧ r < 2 * p.H ∧ segI p (stepW p w) = c * (2 * p.H) + r := by
  obtain ⟨d1, d2, ⟨a1, a2, a3, a4, a5⟩, ⟨b1, b2, b3, b4, b5⟩⟩ := h.step hp
  have hX : (stepW p w).X = w.X + w.dx := rfl
  exact ⟨min (stepW p w).X ((stepW p w).X + (stepW p w).dx), min (stepW p w).Y ((stepW p w).Y + (stepW p w).dy), by omega, by omega, by omega, by omega, by omega, rfl⟩

omit hp in
theorem col_lt {c r X n : Int} (hn : 0 < n) (hr : 0 ≤ r) (hr2 : r < n) : c * n + r < X * n ↔ c < X := by
  constructor
  · intro h
    apply Classical.byContradiction
    intro hc
    have := Int.mul_le_mul_of_nonneg_right (show X ≤ c by omega) (show 0 ≤ n by omega)
    omega
  · intro h
    exact lin_lt h hr2 hn

theorem segN_int : (segN p : Int) = 2 * p.W * (2 * p.H) := by
  have h1 := hp.w1
  have h2 := hp.h1
  have h : 0 ≤ 2 * p.W * (2 * p.H) := Int.mul_nonneg (by omega) (by omega)
  have e : 4 * p.W * p.H = 2 * p.W * (2 * p.H) := by rw [Int.mul_assoc 2, Int.mul_left_comm p.W, ← Int.mul_assoc 2 2, Int.mul_assoc 4]; rfl
  show ((4 * p.W * p.H).toNat : Int) = _
  rw [e]
  omega

/-- The pairs at the left and right border. -/
theorem border_step {w : Wk} (h : OkW p w) (hw : w.X + w.dx = 0 ∨ w.X + w.dx = 2 * p.W) :
    ∃ c r : Int, 0 ≤ r ∧ r < 2 * p.H ∧ (c = 0 ∧ w.X + w.dx = 0 ∨ c = 2 * p.W - 1 ∧ w.X + w.dx = 2 * p.W) ∧ segI p w = c * (2 * p.H) + r ∧ segI p (stepW p w) = c * (2 * p.H) + (if r % 2 = 0 then r + 1 else r - 1) := by
  have w1 := hp.w1
  obtain ⟨x, y, dx, dy⟩ := w
  obtain ⟨d1, d2, ⟨a1, a2, a3, a4, a5⟩, ⟨b1, b2, b3, b4, b5⟩⟩ := h
  simp only [] at *
  have hk : brk p (x + dx) (y + dy) = 0 := by
    unfold brk
    rw [if_pos]
    unfold Edge
    omega
  unfold segI stepW
  simp only []
  rw [hk, if_pos (by omega), if_neg (by omega)]
  refine ⟨min x (x + dx), min y (y + dy), by omega, by omega, by omega, rfl, ?_⟩
  congr 1
  · congr 1; omega
  · split <;> omega
theorem border_on {x : Int} (hx : x = 0 ∨ x = 2 * p.W) {r : Int} (r0 : 0 ≤ r) (r1 : r < 2 * p.H) :
    ∃ w, OkW p w ∧ w.X + w.dx = x ∧ segI p w = (if x = 0 then 0 else 2 * p.W - 1) * (2 * p.H) + r ∧ segI p (stepW p w) = (if x = 0 then 0 else 2 * p.W - 1) * (2 * p.H) + (if r % 2 = 0 then r + 1 else r - 1) := by
  have w1 := hp.w1
  obtain ⟨s, hs⟩ : ∃ s : Int, s = if x = 0 then -1 else 1 := ⟨_, rfl⟩
  obtain ⟨dy, hdy⟩ : ∃ dy : Int, dy = if r % 2 = 0 then 1 else -1 := ⟨_, rfl⟩
  have hs2 : s = 1 ∨ s = -1 := by split at hs <;> omega
  have hdy2 : dy = 1 ∨ dy = -1 := by split at hdy <;> omega
  obtain ⟨y, hy⟩ : ∃ y : Int, y = if r % 2 = 0 then r else r + 1 := ⟨_, rfl⟩
  have hk : OkW p ⟨x - s, y, s, dy⟩ := okW_mk hs2 hdy2 ⟨by split at hs <;> omega, by split at hs <;> omega, by split at hy <;> omega, by split at hy <;> omega, by split at hs <;> split at hy <;> omega⟩
    ⟨by omega, by omega, by split at hy <;> split at hdy <;> omega, by split at hy <;> split at hdy <;> omega, by split at hy <;> split at hdy <;> omega⟩
  obtain ⟨c, q, q0, q1, hc, h1, h2⟩ := border_step hp hk (by show x - s + s = 0 ∨ x - s + s = _; omega)
  have hq : q = r ∧ c = (if x = 0 then 0 else 2 * p.W - 1) := by
    have hcc : c = (if x = 0 then 0 else 2 * p.W - 1) := by
      have : (c = 0 ∧ x - s + s = 0 ∨ c = 2 * p.W - 1 ∧ x - s + s = 2 * p.W) := hc
      split <;> omega
    have h3 : segI p ⟨x - s, y, s, dy⟩ = (if x = 0 then 0 else 2 * p.W - 1) * (2 * p.H) + r := by
      unfold segI
      simp only []
      congr 1
      · congr 1
        split at hs <;> split <;> omega
      · split at hy <;> split at hdy <;> omega
    rw [h1, hcc] at h3
    exact ⟨by omega, hcc⟩
  rw [hq.1, hq.2] at h1 h2
  exact ⟨_, hk, by show x - s + s = x; omega, h1, h2⟩

theorem sideL : ∀ x : Nat, (x : Int) < 2 * p.W → Side (fun a => (a : Int) < ((x : Int) + 1) * (2 * p.H)) (fun a b => (a : Int) < ((x : Int) + 1) * (2 * p.H) ∧ Jt p (fun q => q < (x : Int) + 1) a b)
    (fun i => ((x : Int) * (2 * p.H)).toNat + i) (colN p) (colL p x).1 (colL p x).2 := by
  have w1 := hp.w1
  have h1 := hp.h1
  have hn : (colN p : Int) = 2 * p.H := by unfold colN; omega
  have hN := segN_int hp
  -- domains
  have dom : ∀ (x : Nat) (a b : Nat), (a : Int) < ((x : Int) + 1) * (2 * p.H) → Jt p (fun q => q < (x : Int) + 1) a b → (b : Int) < ((x : Int) + 1) * (2 * p.H) := by
    intro x a b ha h
    refine h.min (Q := fun b => (b : Int) < ((x : Int) + 1) * (2 * p.H)) (fun w hw ht _ => ?_) ha
    obtain ⟨c, r, hc, c0, c1, r0, r1, e⟩ := seg_col' hp hw
    rw [seg_nat (hw.step hp), e, col_lt (by omega) r0 r1]
    omega
  have lt : ∀ (x : Nat) (a : Nat), (x : Int) < 2 * p.W → (a : Int) < ((x : Int) + 1) * (2 * p.H) → a < segN p := by
    intro x a hx ha
    have : ((x : Int) + 1) * (2 * p.H) ≤ 2 * p.W * (2 * p.H) := Int.mul_le_mul_of_nonneg_right (by omega) (by omega)
    omega
  have colv : ∀ (x i : Nat), i < colN p → ((((x : Int) * (2 * p.H)).toNat + i : Nat) : Int) = (x : Int) * (2 * p.H) + i := by
    intro x i hi
    have : 0 ≤ (x : Int) * (2 * p.H) := Int.mul_nonneg (by omega) (by omega)
    omega
  have mul1 : ∀ x : Nat, ((x : Int) + 1) * (2 * p.H) = (x : Int) * (2 * p.H) + 2 * p.H := fun x => by rw [Int.add_mul]; omega
  intro x
  induction x with
  | zero =>
    intro hx
    refine ⟨nbrsK_pair (by unfold colN; omega), fun a ha => ⟨ha, .refl (lt 0 a hx ha)⟩, fun a b h => ⟨dom 0 a b h.1 h.2, h.2.symm hp⟩, fun a b d h k => ⟨h.1, h.2.trans k.2⟩, fun a b h => ⟨h.1, dom 0 a b h.1 h.2⟩, fun i hi => ?_, fun i j hi hj e => by omega, fun i j hi hj => ?_, ⟨[], rfl, by simp, by simp, ?_⟩⟩
    · rw [colv 0 i hi, mul1]; omega
    · have hcol : ∀ i : Nat, i < colN p → (((((0 : Nat) : Int) * (2 * p.H)).toNat + i : Nat)) = i := fun i hi => by
        have : ((0 : Nat) : Int) * (2 * p.H) = 0 := by simp
        rw [this]; omega
      show (_ ∧ Jt p _ _ _) ↔ _
      rw [hcol i hi, hcol j hj]
      have hgi := nbrsK_get (n := colN p) (i := (i : Int)) (by omega) (by omega)
      show _ ↔ (j : Int) = i ∨ (j : Int) = gI (nbrsK (colN p)) i
      rw [hgi]
      constructor
      · rintro ⟨_, h⟩
        refine h.min (Q := fun b => (b : Int) = i ∨ (b : Int) = if (i : Int) % 2 = 0 then (i : Int) + 1 else (i : Int) - 1) (fun w hw ht hq => ?_) (.inl rfl)
        have hX : w.X + w.dx = 0 := by
          have h3 := hw.there.1
          have ht' : w.X + w.dx < ((0 : Nat) : Int) + 1 := ht
          omega
        obtain ⟨c, r, r0, r1, hc, e1, e2⟩ := border_step hp hw (.inl hX)
        obtain rfl : c = 0 := by omega
        rw [Int.zero_mul, Int.zero_add] at e1 e2
        rw [seg_nat hw, e1] at hq
        rw [seg_nat (hw.step hp), e2]
        split at hq <;> split <;> (try split) <;> omega
      · intro h
        refine ⟨by rw [mul1]; omega, ?_⟩
        rcases h with h | h
        · obtain rfl : j = i := by omega
          exact .refl (lt 0 _ hx (by rw [mul1]; omega))
        · obtain ⟨w, hw, hX, e1, e2⟩ := border_on hp (.inl rfl) (r := (i : Int)) (by omega) (by omega)
          rw [if_pos rfl, Int.zero_mul, Int.zero_add] at e1 e2
          have := Jt.one hp (T := fun q => q < ((0 : Nat) : Int) + 1) hw (by omega)
          rw [e1, e2, ← h] at this
          exact this
    · rintro a ⟨ha, hn'⟩
      exfalso
      have ha' : (a : Int) < (((0 : Nat) : Int) + 1) * (2 * p.H) := ha
      rw [mul1] at ha'
      have e : ((((0 : Nat) : Int) * (2 * p.H)).toNat + a) = a := by
        have : ((0 : Nat) : Int) * (2 * p.H) = 0 := by simp
        rw [this]; omega
      refine hn' a (by have : ((0 : Nat) : Int) * (2 * p.H) = 0 := by simp
                       omega) ⟨ha, ?_⟩
      rw [e]
      exact .refl (lt 0 a hx ha)
  | succ x ih =>
    intro hx
    have hxx : (x : Int) < 2 * p.W := by omega
    have hX : 0 < (x : Int) + 1 ∧ (x : Int) + 1 < 2 * p.W := by omega
    have hs := ih hxx
    have nodev : ∀ q : Int, 0 ≤ q → q < ((2 * colN p : Nat) : Int) → ((node (fun i => ((x : Int) * (2 * p.H)).toNat + i) (fun i => (((x + 1 : Nat) : Int) * (2 * p.H)).toNat + i) (colN p) q : Nat) : Int) = (x : Int) * (2 * p.H) + q := by
      intro q q0 q1
      by_cases hq : q < (colN p : Int)
      · rw [node_lo hq, colv x _ (by omega)]
        omega
      · rw [node_hi hq, colv (x + 1) _ (by omega)]
        have := mul1 x
        rw [show (((x + 1 : Nat) : Int)) = (x : Int) + 1 by omega]
        omega
    refine hs.step (links_pair h1 ((x : Int) + 1)) (fun a => ?_) (fun i hi hh => ?_) (fun i j hi hj e => by omega) (fun a ha => ⟨ha, .refl (lt (x + 1) a hx ha)⟩) (fun a b h => ⟨dom (x + 1) a b h.1 h.2, h.2.symm hp⟩) (fun a b d h k => ⟨h.1, h.2.trans k.2⟩) (fun a b h => ⟨h.1, dom (x + 1) a b h.1 h.2⟩) ?_ ?_ ?_
    · constructor
      · intro ha
        by_cases hc : (a : Int) < ((x : Int) + 1) * (2 * p.H)
        · exact .inl hc
        · right
          have h2 : (a : Int) < (((x + 1 : Nat) : Int) + 1) * (2 * p.H) := ha
          rw [mul1 (x + 1)] at h2
          have e : ((x + 1 : Nat) : Int) = (x : Int) + 1 := by omega
          rw [e] at h2
          refine ⟨a - ((((x + 1 : Nat) : Int)) * (2 * p.H)).toNat, ?_, ?_⟩
          · rw [e]
            have := mul1 x
            have h0 : 0 ≤ (x : Int) * (2 * p.H) := Int.mul_nonneg (by omega) (by omega)
            omega
          · rw [e]
            have h0 : 0 ≤ (x : Int) * (2 * p.H) := Int.mul_nonneg (by omega) (by omega)
            have := mul1 x
            omega
      · rintro (h | ⟨i, hi, rfl⟩)
        · show (a : Int) < (((x + 1 : Nat) : Int) + 1) * (2 * p.H)
          rw [mul1 (x + 1), show ((x + 1 : Nat) : Int) = (x : Int) + 1 by omega]
          omega
        · show (((((x + 1 : Nat) : Int) * (2 * p.H)).toNat + i : Nat) : Int) < (((x + 1 : Nat) : Int) + 1) * (2 * p.H)
          rw [colv (x + 1) i hi, mul1 (x + 1)]
          omega
    · have hh' : (((((x + 1 : Nat) : Int) * (2 * p.H)).toNat + i : Nat) : Int) < ((x : Int) + 1) * (2 * p.H) := hh
      rw [colv (x + 1) i hi, show ((x + 1 : Nat) : Int) = (x : Int) + 1 by omega] at hh'
      omega
    · rintro a b ⟨ha, h⟩
      refine ⟨?_, ?_⟩
      · rw [mul1 (x + 1), show ((x + 1 : Nat) : Int) = (x : Int) + 1 by omega]
        omega
      · refine h.min (Q := fun b => Jt p (fun q => q < ((x + 1 : Nat) : Int) + 1) a b) (fun w hw ht hq => .step hq hw (by
          have ht' : w.X + w.dx < (x : Int) + 1 := ht
          show w.X + w.dx < ((x + 1 : Nat) : Int) + 1
          omega)) (.refl (lt x a hxx ha))
    · intro q q0 q1
      obtain ⟨w, hw, e1, e2, hwX⟩ := link_step hp hX q0 (show q < 4 * p.H by omega)
      rw [show (x : Int) + 1 - 1 = x by omega] at e1 e2
      have hr := linkA_rng (p := p) (X := (x : Int) + 1) q0 (show q < 4 * p.H by omega)
      have hv1 := nodev q q0 q1
      have hv2 := nodev (gI (links p ((x : Int) + 1)) q) (by rw [links_get q0 (by omega)]; exact hr.1) (by rw [links_get q0 (by omega)]; omega)
      rw [links_get q0 (by omega)] at hv2
      have hj := Jt.one hp (T := fun q => q < ((x + 1 : Nat) : Int) + 1) hw (by omega)
      have f1 := seg_nat hw
      have f2 := seg_nat (hw.step hp)
      rw [e1] at f1
      rw [e2] at f2
      have g1 : (segI p w).toNat = node (fun i => ((x : Int) * (2 * p.H)).toNat + i) (fun i => (((x + 1 : Nat) : Int) * (2 * p.H)).toNat + i) (colN p) q := by omega
      have g2 : (segI p (stepW p w)).toNat = node (fun i => ((x : Int) * (2 * p.H)).toNat + i) (fun i => (((x + 1 : Nat) : Int) * (2 * p.H)).toNat + i) (colN p) (gI (links p ((x : Int) + 1)) q) := by
        rw [links_get q0 (by omega)]; omega
      rw [g1, g2] at hj
      refine ⟨?_, hj⟩
      rw [hv1, mul1 (x + 1), show ((x + 1 : Nat) : Int) = (x : Int) + 1 by omega, mul1 x]
      omega
    · intro Q hQR hQL a b hab hQa
      refine hab.2.min (Q := Q) (fun w hw ht hq => ?_) hQa
      have ht' : w.X + w.dx < ((x + 1 : Nat) : Int) + 1 := ht
      by_cases hc : w.X + w.dx < (x : Int) + 1
      · refine hQR _ _ ⟨?_, Jt.one hp (T := fun q => q < (x : Int) + 1) hw hc⟩ hq
        obtain ⟨c, r, hcc, c0, c1, r0, r1, e⟩ := seg_col hw
        rw [seg_nat hw, e, col_lt (by omega) r0 r1]
        omega
      · obtain ⟨i, i0, i1, e1, e2⟩ := step_link hp hX hw (by omega)
        rw [show (x : Int) + 1 - 1 = x by omega] at e1 e2
        have hv1 := nodev i i0 (by omega)
        have hr := linkA_rng (p := p) (X := (x : Int) + 1) i0 i1
        have hv2 := nodev (gI (links p ((x : Int) + 1)) i) (by rw [links_get i0 i1]; exact hr.1) (by rw [links_get i0 i1]; omega)
        have f1 := seg_nat hw
        have f2 := seg_nat (hw.step hp)
        rw [e1] at f1
        rw [e2] at f2
        rw [links_get i0 i1] at hv2
        have := hQL i i0 (by omega) (by
          rw [show node (fun i => ((x : Int) * (2 * p.H)).toNat + i) (fun i => (((x + 1 : Nat) : Int) * (2 * p.H)).toNat + i) (colN p) i = (segI p w).toNat by omega]
          exact hq)
        rw [links_get i0 i1] at this
        rw [show (segI p (stepW p w)).toNat = node (fun i => ((x : Int) * (2 * p.H)).toNat + i) (fun i => (((x + 1 : Nat) : Int) * (2 * p.H)).toNat + i) (colN p) (linkA p ((x : Int) + 1) i) by omega]
        exact this

/-- The column of which much is known from the right, k columns from the last. -/
def colX (p : Pan) (k : Nat) : Int := 2 * p.W - 1 - k

theorem sideR : ∀ k : Nat, 0 ≤ colX p k → Side (fun a => a < segN p ∧ colX p k * (2 * p.H) ≤ (a : Int)) (fun a b => colX p k * (2 * p.H) ≤ (a : Int) ∧ Jt p (fun q => colX p k < q) a b)
    (fun i => (colX p k * (2 * p.H)).toNat + i) (colN p) (colR p k).1 (colR p k).2 := by
  have w1 := hp.w1
  have h1 := hp.h1
  have hn : (colN p : Int) = 2 * p.H := by unfold colN; omega
  have hN := segN_int hp
  have dom : ∀ (x : Int) (a b : Nat), 0 ≤ x → x * (2 * p.H) ≤ (a : Int) → Jt p (fun q => x < q) a b → x * (2 * p.H) ≤ (b : Int) := by
    intro x a b hx ha h
    refine h.min (Q := fun b => x * (2 * p.H) ≤ (b : Int)) (fun w hw ht _ => ?_) ha
    obtain ⟨c, r, hc, c0, c1, r0, r1, e⟩ := seg_col' hp hw
    rw [seg_nat (hw.step hp), e]
    have ht' : x < w.X + w.dx := ht
    have := Int.mul_le_mul_of_nonneg_right (show x ≤ c by omega) (show 0 ≤ 2 * p.H by omega)
    omega
  have colv : ∀ (x : Int) (i : Nat), 0 ≤ x → (((x * (2 * p.H)).toNat + i : Nat) : Int) = x * (2 * p.H) + i := by
    intro x i hx
    have : 0 ≤ x * (2 * p.H) := Int.mul_nonneg hx (by omega)
    omega
  have mul1 : ∀ x : Int, (x + 1) * (2 * p.H) = x * (2 * p.H) + 2 * p.H := fun x => by rw [Int.add_mul]; omega
  have colt : ∀ (x : Int) (i : Nat), 0 ≤ x → x < 2 * p.W → i < colN p → x * (2 * p.H) + i < segN p := by
    intro x i hx hx2 hi
    rw [hN]
    exact lin_lt hx2 (by omega) (by omega)
  intro k
  induction k with
  | zero =>
    intro hx
    have hX : colX p 0 = 2 * p.W - 1 := by unfold colX; omega
    rw [hX] at hx ⊢
    have m2 := mul1 (2 * p.W - 1)
    rw [show 2 * p.W - 1 + 1 = 2 * p.W by omega, ← hN] at m2
    have m0 : 0 ≤ (2 * p.W - 1) * (2 * p.H) := Int.mul_nonneg hx (by omega)
    refine ⟨nbrsK_pair (by unfold colN; omega), fun a ha => ⟨ha.2, .refl ha.1⟩, fun a b h => ⟨dom _ a b hx h.1 h.2, h.2.symm hp⟩, fun a b d h k => ⟨h.1, h.2.trans k.2⟩, fun a b h => ⟨⟨(h.2.lt hp).1, h.1⟩, (h.2.lt hp).2, dom _ a b hx h.1 h.2⟩, fun i hi => ?_, fun i j hi hj e => by omega, fun i j hi hj => ?_, ⟨[], rfl, by simp, by simp, ?_⟩⟩
    · have := colv (2 * p.W - 1) i hx
      constructor <;> omega
    · have hgi := nbrsK_get (n := colN p) (i := (i : Int)) (by omega) (by omega)
      show _ ↔ (j : Int) = i ∨ (j : Int) = gI (nbrsK (colN p)) i
      rw [hgi]
      have ci := colv (2 * p.W - 1) i hx
      have cj := colv (2 * p.W - 1) j hx
      constructor
      · rintro ⟨_, h⟩
        have := h.min (Q := fun b => (b : Int) = (2 * p.W - 1) * (2 * p.H) + i ∨ (b : Int) = (2 * p.W - 1) * (2 * p.H) + if (i : Int) % 2 = 0 then (i : Int) + 1 else (i : Int) - 1) (fun w hw ht hq => ?_) (.inl ci)
        · rw [cj] at this
          split <;> split at this <;> omega
        · have hX' : w.X + w.dx = 2 * p.W := by
            have h3 := hw.there.2.1
            have ht' : 2 * p.W - 1 < w.X + w.dx := ht
            omega
          obtain ⟨c, r, r0, r1, hc, e1, e2⟩ := border_step hp hw (.inr hX')
          obtain rfl : c = 2 * p.W - 1 := by omega
          rw [seg_nat hw, e1] at hq
          rw [seg_nat (hw.step hp), e2]
          split at hq <;> split <;> (try split) <;> omega
      · intro h
        refine ⟨by omega, ?_⟩
        rcases h with h | h
        · obtain rfl : j = i := by omega
          exact .refl (by have := colt (2 * p.W - 1) j hx (by omega) hj; omega)
        · obtain ⟨w, hw, hwX, e1, e2⟩ := border_on hp (.inr rfl) (r := (i : Int)) (by omega) (by omega)
          rw [if_neg (by omega)] at e1 e2
          have hj2 := Jt.one hp (T := fun q => 2 * p.W - 1 < q) hw (by omega)
          have f1 := seg_nat hw
          have f2 := seg_nat (hw.step hp)
          rw [e1] at f1
          rw [e2] at f2
          rw [show (segI p w).toNat = ((2 * p.W - 1) * (2 * p.H)).toNat + i by omega, show (segI p (stepW p w)).toNat = ((2 * p.W - 1) * (2 * p.H)).toNat + j by split at f2 <;> split at h <;> omega] at hj2
          exact hj2
    · rintro a ⟨⟨ha, ha2⟩, hn'⟩
      exfalso
      refine hn' (a - ((2 * p.W - 1) * (2 * p.H)).toNat) (by omega) ⟨ha2, ?_⟩
      rw [show ((2 * p.W - 1) * (2 * p.H)).toNat + (a - ((2 * p.W - 1) * (2 * p.H)).toNat) = a by omega]
      exact .refl ha
  | succ k ih =>
    intro hx
    obtain ⟨x, hxe⟩ : ∃ x, x = colX p (k + 1) := ⟨_, rfl⟩
    have hk : colX p k = x + 1 := by rw [hxe]; unfold colX; omega
    have hkX : 2 * p.W - 1 - (k : Int) = x + 1 := hk
    have hs := ih (by omega)
    rw [hk] at hs
    rw [← hxe] at hx ⊢
    have hX : 0 < x + 1 ∧ x + 1 < 2 * p.W := by unfold colX at hk; omega
    have m0 : 0 ≤ x * (2 * p.H) := Int.mul_nonneg hx (by omega)
    have m1 := mul1 x
    have nodev : ∀ q : Int, 0 ≤ q → q < ((2 * colN p : Nat) : Int) → ((node (fun i => ((x + 1) * (2 * p.H)).toNat + i) (fun i => (x * (2 * p.H)).toNat + i) (colN p) q : Nat) : Int) = x * (2 * p.H) + swp p q := by
      intro q q0 q1
      unfold swp
      by_cases hq : q < (colN p : Int)
      · rw [node_lo hq, colv (x + 1) _ (by omega), if_pos (by omega)]
        omega
      · rw [node_hi hq, colv x _ hx, if_neg (by omega)]
        omega
    show Side _ _ _ _ (pass (colR p k).1 (linksR p (2 * p.W - 1 - k)) (colN p)).1 ((colR p k).2 + (pass (colR p k).1 (linksR p (2 * p.W - 1 - k)) (colN p)).2)
    rw [hkX]
    refine hs.step (linksR_pair h1 (x + 1)) (fun a => ?_) (fun i hi hh => ?_) (fun i j hi hj e => by omega) (fun a ha => ⟨ha.2, .refl ha.1⟩) (fun a b h => ⟨dom _ a b hx h.1 h.2, h.2.symm hp⟩) (fun a b d h k => ⟨h.1, h.2.trans k.2⟩) (fun a b h => ⟨⟨(h.2.lt hp).1, h.1⟩, (h.2.lt hp).2, dom _ a b hx h.1 h.2⟩) ?_ ?_ ?_
    · constructor
      · rintro ⟨ha, ha2⟩
        by_cases hc : (x + 1) * (2 * p.H) ≤ (a : Int)
        · exact .inl ⟨ha, hc⟩
        · exact .inr ⟨a - (x * (2 * p.H)).toNat, by omega, by omega⟩
      · rintro (⟨ha, ha2⟩ | ⟨i, hi, rfl⟩)
        · exact ⟨ha, by omega⟩
        · have := colt x i hx (by omega) hi
          have := colv x i hx
          exact ⟨by omega, by omega⟩
    · have := colv x i hx
      have h2 : (x + 1) * (2 * p.H) ≤ (((x * (2 * p.H)).toNat + i : Nat) : Int) := hh.2
      omega
    · rintro a b ⟨ha, h⟩
      refine ⟨by omega, ?_⟩
      refine h.min (Q := fun b => Jt p (fun q => x < q) a b) (fun w hw ht hq => .step hq hw (by
        have ht' : x + 1 < w.X + w.dx := ht
        show x < w.X + w.dx
        omega)) (.refl (h.lt hp).1)
    · intro q q0 q1
      obtain ⟨s1, s2, s3⟩ := swp_swp (p := p) q0 (show q < 4 * p.H by omega)
      obtain ⟨w, hw, e1, e2, hwX⟩ := link_step hp hX s2 s3
      rw [show x + 1 - 1 = x by omega] at e1 e2
      have hr := linkA_rng (p := p) (X := x + 1) s2 s3
      obtain ⟨t1, t2, t3⟩ := swp_swp (p := p) hr.1 hr.2.1
      have hv1 := nodev q q0 q1
      have hv2 := nodev (gI (linksR p (x + 1)) q) (by rw [linksR_get q0 (by omega)]; exact t2) (by rw [linksR_get q0 (by omega)]; omega)
      rw [linksR_get q0 (by omega)] at hv2
      rw [t1] at hv2
      have hj := Jt.one hp (T := fun q => x < q) hw (by omega)
      have f1 := seg_nat hw
      have f2 := seg_nat (hw.step hp)
      rw [e1] at f1
      rw [e2] at f2
      have g1 : (segI p w).toNat = node (fun i => ((x + 1) * (2 * p.H)).toNat + i) (fun i => (x * (2 * p.H)).toNat + i) (colN p) q := by omega
      have g2 : (segI p (stepW p w)).toNat = node (fun i => ((x + 1) * (2 * p.H)).toNat + i) (fun i => (x * (2 * p.H)).toNat + i) (colN p) (gI (linksR p (x + 1)) q) := by
        rw [linksR_get q0 (by omega)]; omega
      rw [g1, g2] at hj
      exact ⟨by omega, hj⟩
    · intro Q hQR hQL a b hab hQa
      refine hab.2.min (Q := Q) (fun w hw ht hq => ?_) hQa
      have ht' : x < w.X + w.dx := ht
      by_cases hc : x + 1 < w.X + w.dx
      · refine hQR _ _ ⟨?_, Jt.one hp (T := fun q => x + 1 < q) hw hc⟩ hq
        obtain ⟨c, r, hcc, c0, c1, r0, r1, e⟩ := seg_col hw
        rw [seg_nat hw, e]
        have := Int.mul_le_mul_of_nonneg_right (show x + 1 ≤ c by omega) (show 0 ≤ 2 * p.H by omega)
        omega
      · obtain ⟨i, i0, i1, e1, e2⟩ := step_link hp hX hw (by omega)
        rw [show x + 1 - 1 = x by omega] at e1 e2
        obtain ⟨s1, s2, s3⟩ := swp_swp (p := p) i0 i1
        have hr := linkA_rng (p := p) (X := x + 1) i0 i1
        obtain ⟨t1, t2, t3⟩ := swp_swp (p := p) hr.1 hr.2.1
        have hg := linksR_get (p := p) (X := x + 1) s2 s3
        rw [s1] at hg
        have hv1 := nodev (swp p i) s2 (by omega)
        have hv2 := nodev (gI (linksR p (x + 1)) (swp p i)) (by rw [hg]; exact t2) (by rw [hg]; omega)
        rw [s1] at hv1
        rw [hg] at hv2
        rw [t1] at hv2
        have f1 := seg_nat hw
        have f2 := seg_nat (hw.step hp)
        rw [e1] at f1
        rw [e2] at f2
        have := hQL (swp p i) s2 (by omega) (by
          rw [show node (fun i => ((x + 1) * (2 * p.H)).toNat + i) (fun i => (x * (2 * p.H)).toNat + i) (colN p) (swp p i) = (segI p w).toNat by omega]
          exact hq)
        rw [hg] at this
        rw [show (segI p (stepW p w)).toNat = node (fun i => ((x + 1) * (2 * p.H)).toNat + i) (fun i => (x * (2 * p.H)).toNat + i) (colN p) (swp p (linkA p (x + 1) i)) by omega]
        exact this

/-- At each column the curves closed on both sides and the loops between are all curves. -/
theorem columns_count {x k : Nat} (h : (x : Int) + k = 2 * p.W - 1) : (colL p x).2 + (colR p k).2 + loopsOf (colL p x).1 (colR p k).1 (colN p) = cntP p := by
  have w1 := hp.w1
  have h1 := hp.h1
  have hn : (colN p : Int) = 2 * p.H := by unfold colN; omega
  have hk : colX p k = x := by unfold colX; omega
  have hL := sideL hp x (by omega)
  have hR := sideR hp k (by omega)
  rw [hk] at hR
  have m0 : 0 ≤ (x : Int) * (2 * p.H) := Int.mul_nonneg (by omega) (by omega)
  have m1 : ((x : Int) + 1) * (2 * p.H) = (x : Int) * (2 * p.H) + 2 * p.H := by rw [Int.add_mul]; omega
  have hN := segN_int hp
  have hle : ((x : Int) + 1) * (2 * p.H) ≤ 2 * p.W * (2 * p.H) := Int.mul_le_mul_of_nonneg_right (by omega) (by omega)
  have key : ∃ reps : List Nat, (colL p x).2 + (colR p k).2 + loopsOf (colL p x).1 (colR p k).1 (colN p) = reps.length ∧ Reps (On p hp) (· < segN p) reps := by
    refine hL.meet hR (U := (· < segN p)) (Rt := On p hp) ?_ ?_ (fun a ha => On.refl hp ha) (fun a b h => h.symm hp) (fun a b d h k => h.trans hp k) (fun a b h => h.2.on hp) (fun a b h => h.2.on hp) ?_
    · intro a ha hb
      have ha' : (a : Int) < ((x : Int) + 1) * (2 * p.H) := ha
      have hb' := hb.2
      exact ⟨a - ((x : Int) * (2 * p.H)).toNat, by omega, by omega⟩
    · intro a
      constructor
      · intro ha
        by_cases hc : (a : Int) < ((x : Int) + 1) * (2 * p.H)
        · exact .inl hc
        · exact .inr ⟨ha, by omega⟩
      · rintro (h | h)
        · have h' : (a : Int) < ((x : Int) + 1) * (2 * p.H) := h
          show a < segN p
          omega
        · exact h.1
    · intro Q hQ1 hQ2 a b hab hQa
      refine hab.min hp (Q := Q) (fun w hw hq => ?_) hQa
      obtain ⟨c, r, hcc, c0, c1, r0, r1, e⟩ := seg_col hw
      by_cases hc : w.X + w.dx < (x : Int) + 1
      · refine hQ1 _ _ ⟨?_, Jt.one hp (T := fun q => q < (x : Int) + 1) hw hc⟩ hq
        rw [seg_nat hw, e, col_lt (by omega) r0 r1]
        omega
      · refine hQ2 _ _ ⟨?_, Jt.one hp (T := fun q => (x : Int) < q) hw (by omega)⟩ hq
        rw [seg_nat hw, e]
        have := Int.mul_le_mul_of_nonneg_right (show (x : Int) ≤ c by omega) (show 0 ≤ 2 * p.H by omega)
        omega
  obtain ⟨reps, e, hr⟩ := key
  rw [e, cnt_reps hp hr]
end
end Knot
