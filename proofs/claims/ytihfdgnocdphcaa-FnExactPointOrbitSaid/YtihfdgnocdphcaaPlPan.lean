/-
  Plain mathematics: Pan. No program is in sight.
-/
import Derived.Test.YtihfdgnocdphcaaPlTrb
namespace Knot

structure Pan where
  W : Int
  H : Int
  B : List Int
  deriving DecidableEq

structure Wk where
  X : Int
  Y : Int
  dx : Int
  dy : Int
  deriving DecidableEq

def inner (w h : Int) : Int := w * (h - 1) + h * (w - 1)

structure Ok (p : Pan) : Prop where
  w1 : 1 ≤ p.W
  w8 : p.W ≤ 8
  h1 : 1 ≤ p.H
  h8 : p.H ≤ 8
  len : (p.B.length : Int) = inner p.W p.H
  kind : ∀ k ∈ p.B, 0 ≤ k ∧ k ≤ 2

theorem ok_conj (p : Pan) : Ok p ↔ 1 ≤ p.W ∧ p.W ≤ 8 ∧ 1 ≤ p.H ∧ p.H ≤ 8 ∧ (p.B.length : Int) = inner p.W p.H ∧ ∀ k ∈ p.B, 0 ≤ k ∧ k ≤ 2 :=
  ⟨fun h => ⟨h.w1, h.w8, h.h1, h.h8, h.len, h.kind⟩, fun ⟨a, b, c, d, e, f⟩ => ⟨a, b, c, d, e, f⟩⟩
instance (p : Pan) : Decidable (Ok p) := decidable_of_iff _ (ok_conj p).symm
def Has (p : Pan) (x y : Int) : Prop := 0 ≤ x ∧ x ≤ 2 * p.W ∧ 0 ≤ y ∧ y ≤ 2 * p.H ∧ (x + y) % 2 = 1
def Edge (p : Pan) (x y : Int) : Prop := x = 0 ∨ x = 2 * p.W ∨ y = 0 ∨ y = 2 * p.H
instance (p : Pan) (x y : Int) : Decidable (Has p x y) := by unfold Has; infer_instance
instance (p : Pan) (x y : Int) : Decidable (Edge p x y) := by unfold Edge; infer_instance

/-- The number of the inner points in the rows before y. -/
def rowOf (w y : Int) : Int := y / 2 * (w - 1) + (y - 1) / 2 * w
def num (p : Pan) (x y : Int) : Int := rowOf p.W y + (x - 1) / 2
def brk (p : Pan) (x y : Int) : Int := if Edge p x y then 0 else p.B.getD (num p x y).toNat 0

def stepW (p : Pan) (w : Wk) : Wk :=
  let x := w.X + w.dx
  let y := w.Y + w.dy
  let k := brk p x y
  ⟨x, y, if x = 0 ∨ x = 2 * p.W ∨ k = 1 then -w.dx else w.dx, if y = 0 ∨ y = 2 * p.H ∨ k = 2 then -w.dy else w.dy⟩
def backW (w : Wk) : Wk := ⟨w.X + w.dx, w.Y + w.dy, -w.dx, -w.dy⟩
def segI (p : Pan) (w : Wk) : Int := min w.X (w.X + w.dx) * (2 * p.H) + min w.Y (w.Y + w.dy)
def startI (p : Pan) (k : Int) : Wk :=
  let x := k / (2 * p.H)
  let y := k % (2 * p.H)
  if (x + y) % 2 = 1 then ⟨x, y, 1, 1⟩ else ⟨x, y + 1, 1, -1⟩

structure OkW (p : Pan) (w : Wk) : Prop where
  dx : w.dx = 1 ∨ w.dx = -1
  dy : w.dy = 1 ∨ w.dy = -1
  here : Has p w.X w.Y
  there : Has p (w.X + w.dx) (w.Y + w.dy)

theorem lin_lt {n x y m : Int} (hx : x < m) (hy : y < n) (hn : 0 < n) : x * n + y < m * n := by
  have h : x * n ≤ (m - 1) * n := Int.mul_le_mul_of_nonneg_right (by omega) (by omega)
  rw [Int.sub_mul] at h
  omega
theorem lin_nonneg {n x y : Int} (hx : 0 ≤ x) (hy : 0 ≤ y) (hn : 0 ≤ n) : 0 ≤ x * n + y := by
  have := Int.mul_nonneg hx hn
  omega
theorem lin_div {n x y : Int} (h0 : 0 ≤ y) (h1 : y < n) : (x * n + y) / n = x := by
  rw [Int.add_comm, Int.add_mul_ediv_right _ _ (by omega), Int.ediv_eq_zero_of_lt h0 h1]; omega
theorem lin_mod {n x y : Int} (h0 : 0 ≤ y) (h1 : y < n) : (x * n + y) % n = y := by
  rw [Int.add_comm, Int.add_mul_emod_self_right, Int.emod_eq_of_lt h0 h1]
theorem lin_inj {n x y x' y' : Int} (h0 : 0 ≤ y) (h1 : y < n) (h0' : 0 ≤ y') (h1' : y' < n) (h : x * n + y = x' * n + y') : x = x' ∧ y = y' :=
  ⟨by rw [← lin_div h0 h1 (x := x), h, lin_div h0' h1'], by rw [← lin_mod h0 h1 (x := x), h, lin_mod h0' h1']⟩

section
variable {p : Pan}

theorem okW_mk {X Y dx dy : Int} (h1 : dx = 1 ∨ dx = -1) (h2 : dy = 1 ∨ dy = -1) (h3 : Has p X Y) (h4 : Has p (X + dx) (Y + dy)) : OkW p ⟨X, Y, dx, dy⟩ := ⟨h1, h2, h3, h4⟩

theorem OkW.step {w : Wk} (hp : Ok p) (h : OkW p w) : OkW p (stepW p w) := by
  obtain ⟨h1, h2, ⟨a1, a2, a3, a4, a5⟩, ⟨b1, b2, b3, b4, b5⟩⟩ := h
  obtain ⟨X, Y, dx, dy⟩ := w
  have := hp.w1
  have := hp.h1
  simp only [stepW] at *
  generalize brk p (X + dx) (Y + dy) = k
  refine okW_mk ?_ ?_ ⟨b1, b2, b3, b4, b5⟩ ?_
  · split <;> omega
  · split <;> omega
  · unfold Has
    split <;> split <;> omega

theorem OkW.back {w : Wk} (h : OkW p w) : OkW p (backW w) := by
  obtain ⟨h1, h2, h3, h4⟩ := h
  obtain ⟨X, Y, dx, dy⟩ := w
  simp only [backW] at *
  refine okW_mk (by omega) (by omega) h4 ?_
  rw [show X + dx + -dx = X by omega, show Y + dy + -dy = Y by omega]
  exact h3

theorem back_back (w : Wk) : backW (backW w) = w := by
  unfold backW
  cases w
  simp
  omega

theorem step_back_step (w : Wk) : stepW p (backW (stepW p w)) = backW w := by
  obtain ⟨X, Y, dx, dy⟩ := w
  have e1 : ∀ c : Prop, [Decidable c] → X + dx + (if c then -dx else dx) + -(if c then -dx else dx) = X + dx := fun c _ => by split <;> omega
  have e2 : ∀ c : Prop, [Decidable c] → Y + dy + (if c then -dy else dy) + -(if c then -dy else dy) = Y + dy := fun c _ => by split <;> omega
  simp only [stepW, backW, e1, e2]
  congr 1
  · split <;> simp [*]
  · split <;> simp [*]

theorem seg_back (w : Wk) : segI p (backW w) = segI p w := by
  obtain ⟨X, Y, dx, dy⟩ := w
  simp only [segI, backW]
  rw [show X + dx + -dx = X by omega, show Y + dy + -dy = Y by omega, Int.min_comm (X + dx), Int.min_comm (Y + dy)]

theorem seg_bounds {w : Wk} (h : OkW p w) : 0 ≤ segI p w ∧ segI p w < 4 * p.W * p.H := by
  obtain ⟨h1, h2, ⟨a1, a2, a3, a4, a5⟩, ⟨b1, b2, b3, b4, b5⟩⟩ := h
  unfold segI
  constructor
  · exact lin_nonneg (by omega) (by omega) (by omega)
  · have h := lin_lt (n := 2 * p.H) (x := min w.X (w.X + w.dx)) (y := min w.Y (w.Y + w.dy)) (m := 2 * p.W) (by omega) (by omega) (by omega)
    rw [show 4 * p.W * p.H = 2 * p.W * (2 * p.H) by rw [Int.mul_assoc 2, Int.mul_left_comm p.W, ← Int.mul_assoc 2 2, Int.mul_assoc 4]; rfl]
    exact h

theorem seg_same {a c : Wk} (ha : OkW p a) (hc : OkW p c) (h : segI p a = segI p c) : a = c ∨ a = backW c := by
  obtain ⟨h1, h2, ⟨a1, a2, a3, a4, a5⟩, ⟨b1, b2, b3, b4, b5⟩⟩ := ha
  obtain ⟨h1', h2', ⟨a1', a2', a3', a4', a5'⟩, ⟨b1', b2', b3', b4', b5'⟩⟩ := hc
  unfold segI at h
  obtain ⟨e1, e2⟩ := lin_inj (by omega) (by omega) (by omega) (by omega) h
  obtain ⟨X, Y, dx, dy⟩ := a
  obtain ⟨X', Y', dx', dy'⟩ := c
  simp only [backW, Wk.mk.injEq] at *
  rcases h1 with rfl | rfl <;> rcases h2 with rfl | rfl <;> rcases h1' with rfl | rfl <;> rcases h2' with rfl | rfl <;> omega

theorem start_ok (hp : Ok p) {k : Int} (h0 : 0 ≤ k) (h1 : k < 4 * p.W * p.H) : OkW p (startI p k) ∧ segI p (startI p k) = k := by
  have hH := hp.h1
  have hW := hp.w1
  have hm0 := Int.emod_nonneg k (show 2 * p.H ≠ 0 by omega)
  have hm1 := Int.emod_lt_of_pos k (show 0 < 2 * p.H by omega)
  have hd := Int.mul_ediv_add_emod k (2 * p.H)
  have hx0 : 0 ≤ k / (2 * p.H) := Int.ediv_nonneg h0 (by omega)
  have hx1 : k / (2 * p.H) < 2 * p.W := by
    refine Int.ediv_lt_of_lt_mul (by omega) ?_
    rw [show 2 * p.W * (2 * p.H) = 4 * p.W * p.H by rw [Int.mul_assoc 2, Int.mul_left_comm p.W, ← Int.mul_assoc 2 2, Int.mul_assoc 4]; rfl]
    exact h1
  unfold startI
  simp only []
  generalize k / (2 * p.H) = x at *
  generalize k % (2 * p.H) = y at *
  split
  · rename_i hpar
    refine ⟨okW_mk (.inl rfl) (.inl rfl) ⟨hx0, by omega, hm0, by omega, hpar⟩ ⟨by omega, by omega, by omega, by omega, by omega⟩, ?_⟩
    show min _ (_ + 1) * _ + min _ (_ + 1) = k
    rw [Int.min_eq_left (by omega), Int.min_eq_left (by omega), Int.mul_comm]
    omega
  · rename_i hpar
    refine ⟨okW_mk (.inl rfl) (.inr rfl) ⟨hx0, by omega, by omega, by omega, by omega⟩ ⟨by omega, by omega, by omega, by omega, by omega⟩, ?_⟩
    show min x (x + 1) * _ + min (y + 1) (y + 1 + -1) = k
    rw [Int.min_eq_left (by omega), Int.min_eq_right (by omega), Int.mul_comm]
    omega

theorem back_ne {w : Wk} (h : OkW p w) : backW w ≠ w := by
  obtain ⟨X, Y, dx, dy⟩ := w
  have := h.dx
  simp only [backW, ne_eq, Wk.mk.injEq] at *
  omega

theorem step_ne_back {w : Wk} (h : OkW p w) : stepW p w ≠ backW w := by
  obtain ⟨h1, h2, _, ⟨b1, b2, b3, b4, b5⟩⟩ := h
  obtain ⟨X, Y, dx, dy⟩ := w
  simp only [stepW, backW, ne_eq, Wk.mk.injEq] at *
  rintro ⟨_, _, e1, e2⟩
  split at e1
  · split at e2
    · rename_i c1 c2
      have hk : brk p (X + dx) (Y + dy) = if Edge p (X + dx) (Y + dy) then 0 else p.B.getD (num p (X + dx) (Y + dy)).toNat 0 := rfl
      by_cases he : Edge p (X + dx) (Y + dy)
      · rw [if_pos he] at hk
        rw [hk] at c1 c2
        omega
      · simp only [Edge] at he
        omega
    · omega
  · omega

/-- The walkers of a valid panel. -/
def sys (p : Pan) (hp : Ok p) : Sys Wk where
  V := OkW p
  f := stepW p
  b := backW
  seg := fun w => (segI p w).toNat
  N := (4 * p.W * p.H).toNat
  start := fun k => startI p k
  hf := fun _ h => h.step hp
  hb := fun _ h => h.back
  bb := fun a _ => back_back a
  fbf := fun a _ => step_back_step a
  seg_b := fun a _ => by rw [seg_back]
  seg_eq := fun a c ha hc h => seg_same ha hc (by
    have := seg_bounds ha
    have := seg_bounds hc
    omega)
  seg_lt := fun a ha => by have := seg_bounds ha; omega
  start_V := fun k hk => (start_ok hp (by omega) (by omega)).1
  seg_start := fun k hk => by rw [(start_ok hp (k := (k : Int)) (by omega) (by omega)).2]; omega
  b_ne := fun _ h => back_ne h
  f_ne := fun _ h => step_ne_back h
end
end Knot
