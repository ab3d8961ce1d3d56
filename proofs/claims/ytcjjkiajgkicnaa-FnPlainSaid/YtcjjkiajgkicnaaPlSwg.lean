/-
  Plain mathematics: Swg. No program is in sight.
-/
import Derived.Test.YtcjjkiajgkicnaaPlTrk
namespace Knot

/-! ### Walks in panels without breaks: to and fro in both directions -/

def phs (x d side : Int) : Int := if d < 0 then 2 * side - x else x
/-- To and fro between 0 and a side. -/
def swg (x d side s : Int) : Int × Int :=
  if ((if d < 0 then 2 * side - x else x) + s) % (2 * side) < side then (((if d < 0 then 2 * side - x else x) + s) % (2 * side), 1)
  else (2 * side - ((if d < 0 then 2 * side - x else x) + s) % (2 * side), -1)
def unp (side f : Int) : Int × Int := if f < side then (f, 1) else (2 * side - f, -1)
theorem swg_unp (x d side s : Int) : swg x d side s = unp side ((phs x d side + s) % (2 * side)) := rfl

/-- A place and a direction that do not lead out. -/
def OkS (x d side : Int) : Prop := (d = 1 ∨ d = -1) ∧ (0 ≤ x ∧ x ≤ side) ∧ 0 ≤ x + d ∧ x + d ≤ side
theorem phs_bd {x d side : Int} (h : OkS x d side) : 0 ≤ phs x d side ∧ phs x d side < 2 * side := by
  obtain ⟨h1, h2, h3, h4⟩ := h
  unfold phs
  rcases h1 with rfl | rfl
  · rw [if_neg (by omega)]; omega
  · rw [if_pos (by omega)]; omega
theorem unp_phs {x d side : Int} (h : OkS x d side) : unp side (phs x d side) = (x, d) := by
  obtain ⟨h1, h2, h3, h4⟩ := h
  unfold phs unp
  rcases h1 with rfl | rfl
  · rw [if_neg (show ¬ (1 : Int) < 0 by omega), if_pos (show x < side by omega)]
  · rw [if_pos (show (-1 : Int) < 0 by omega), if_neg (show ¬ 2 * side - x < side by omega)]
    simp
    omega
theorem phs_unp {side f : Int} (h0 : 0 ≤ f) (h1 : f < 2 * side) : OkS (unp side f).1 (unp side f).2 side ∧ phs (unp side f).1 (unp side f).2 side = f := by
  unfold unp
  split
  · refine ⟨⟨.inl rfl, ⟨h0, ?_⟩, ?_, ?_⟩, ?_⟩
    all_goals (try show _ ≤ _)
    all_goals simp only []
    · omega
    · omega
    · omega
    · unfold phs; rw [if_neg (by omega)]
  · refine ⟨⟨.inr rfl, ⟨?_, ?_⟩, ?_, ?_⟩, ?_⟩
    all_goals simp only []
    · omega
    · omega
    · omega
    · omega
    · unfold phs; rw [if_pos (by omega)]; omega
theorem swg_ok {x d side : Int} (h : OkS x d side) (s : Int) : OkS (swg x d side s).1 (swg x d side s).2 side := by
  have hs := phs_bd h
  rw [swg_unp]
  exact (phs_unp (Int.emod_nonneg _ (by omega)) (Int.emod_lt_of_pos _ (by omega))).1
theorem swg_zero {x d side : Int} (h : OkS x d side) : swg x d side 0 = (x, d) := by
  have hs := phs_bd h
  rw [swg_unp, Int.add_zero, Int.emod_eq_of_lt hs.1 hs.2, unp_phs h]
theorem swg_add {x d side : Int} (h : OkS x d side) (s t : Int) : swg (swg x d side s).1 (swg x d side s).2 side t = swg x d side (s + t) := by
  have hs := phs_bd h
  rw [swg_unp _ _ _ t, swg_unp x d side s, (phs_unp (Int.emod_nonneg _ (by omega)) (Int.emod_lt_of_pos _ (by omega))).2, swg_unp, Int.emod_add_emod, Int.add_assoc]
theorem swg_one {x d side : Int} (h : OkS x d side) : swg x d side 1 = (x + d, if x + d = 0 ∨ x + d = side then -d else d) := by
  have hs := phs_bd h
  obtain ⟨h1, h2, h3, h4⟩ := h
  rw [swg_unp]
  unfold phs unp
  rcases h1 with rfl | rfl
  · rw [if_neg (show ¬ (1 : Int) < 0 by omega), Int.emod_eq_of_lt (by omega) (by omega)]
    by_cases hc : x + 1 = side
    · rw [if_neg (show ¬ x + 1 < side by omega), if_pos (.inr hc)]
      simp
      omega
    · rw [if_pos (show x + 1 < side by omega), if_neg (show ¬ (x + 1 = 0 ∨ x + 1 = side) by omega)]
  · rw [if_pos (show (-1 : Int) < 0 by omega)]
    by_cases hc : x = 1
    · subst hc
      rw [show 2 * side - 1 + 1 = 2 * side by omega, Int.emod_self, if_pos (show (0 : Int) < side by omega), if_pos (.inl (by omega))]
      simp
    · rw [Int.emod_eq_of_lt (by omega) (by omega), if_neg (show ¬ 2 * side - x + 1 < side by omega), if_neg (show ¬ (x + -1 = 0 ∨ x + -1 = side) by omega)]
      simp
      omega
/-- Back just at the multiples of the whole way. -/
theorem swg_home {x d side : Int} (h : OkS x d side) (s : Int) : swg x d side s = (x, d) ↔ s % (2 * side) = 0 := by
  have hs := phs_bd h
  have hf0 := Int.emod_nonneg (phs x d side + s) (show 2 * side ≠ 0 by omega)
  have hf1 := Int.emod_lt_of_pos (phs x d side + s) (show 0 < 2 * side by omega)
  constructor
  · intro he
    have h1 := (phs_unp hf0 hf1).2
    rw [← swg_unp, he] at h1
    have h1' : phs x d side = (phs x d side + s) % (2 * side) := h1
    have h2 := Int.mul_ediv_add_emod (phs x d side + s) (2 * side)
    rw [← h1'] at h2
    have h3 : s = 2 * side * ((phs x d side + s) / (2 * side)) := by omega
    rw [h3]
    exact Int.mul_emod_right _ _
  · intro h0
    rw [swg_unp, Int.add_emod, h0, Int.add_zero, Int.emod_emod_of_dvd _ (Int.dvd_refl _), Int.emod_eq_of_lt hs.1 hs.2, unp_phs h]
theorem swg_mod {x d side : Int} (s t : Int) (h : s % (2 * side) = t % (2 * side)) : swg x d side s = swg x d side t := by
  rw [swg_unp, swg_unp, Int.add_emod, h, ← Int.add_emod]

/-! ### Panels -/
def plainP (W H : Int) : Pan := ⟨W, H, List.replicate (inner W H).toNat 0⟩
theorem plain_brk (W H x y : Int) : brk (plainP W H) x y = 0 := by
  unfold brk plainP
  split
  · rfl
  · simp [List.getD, List.getElem?_replicate]
    split <;> rfl
theorem plain_ok {W H : Int} (hW : 1 ≤ W ∧ W ≤ 8) (hH : 1 ≤ H ∧ H ≤ 8) : Ok (plainP W H) := by
  have h0 : 0 ≤ inner W H := by
    unfold inner
    have h1 : 0 ≤ W * (H - 1) := Int.mul_nonneg (by omega) (by omega)
    have h2 : 0 ≤ H * (W - 1) := Int.mul_nonneg (by omega) (by omega)
    omega
  refine ⟨hW.1, hW.2, hH.1, hH.2, ?_, ?_⟩
  · show ((List.replicate (inner W H).toNat (0 : Int)).length : Int) = inner W H
    rw [List.length_replicate]
    omega
  · intro k hk
    have := List.eq_of_mem_replicate hk
    omega
theorem okW_okS {p : Pan} {w : Wk} (h : OkW p w) : OkS w.X w.dx (2 * p.W) ∧ OkS w.Y w.dy (2 * p.H) := by
  obtain ⟨h1, h2, ⟨a1, a2, a3, a4, a5⟩, ⟨b1, b2, b3, b4, b5⟩⟩ := h
  exact ⟨⟨h1, ⟨a1, a2⟩, b1, b2⟩, ⟨h2, ⟨a3, a4⟩, b3, b4⟩⟩
/-- Where a walker is after some steps. -/
def swgW (W H : Int) (w : Wk) (s : Int) : Wk := ⟨(swg w.X w.dx (2 * W) s).1, (swg w.Y w.dy (2 * H) s).1, (swg w.X w.dx (2 * W) s).2, (swg w.Y w.dy (2 * H) s).2⟩
theorem plain_step {W H : Int} {w : Wk} (h : OkW (plainP W H) w) : stepW (plainP W H) w = swgW W H w 1 := by
  obtain ⟨hx, hy⟩ := okW_okS h
  have ex := swg_one (side := 2 * W) hx
  have ey := swg_one (side := 2 * H) hy
  unfold stepW swgW
  simp only []
  rw [ex, ey, plain_brk]
  have e1 : ∀ c : Prop, (c ∨ (0 : Int) = 1) ↔ c := fun c => by simp
  have e2 : ∀ c : Prop, (c ∨ (0 : Int) = 2) ↔ c := fun c => by simp
  have f1 : (w.X + w.dx = 0 ∨ w.X + w.dx = 2 * (plainP W H).W ∨ (0 : Int) = 1) ↔ (w.X + w.dx = 0 ∨ w.X + w.dx = 2 * W) := by
    show (_ ∨ _ = 2 * W ∨ _) ↔ _
    omega
  have f2 : (w.Y + w.dy = 0 ∨ w.Y + w.dy = 2 * (plainP W H).H ∨ (0 : Int) = 2) ↔ (w.Y + w.dy = 0 ∨ w.Y + w.dy = 2 * H) := by
    show (_ ∨ _ = 2 * H ∨ _) ↔ _
    omega
  simp only [f1, f2]
theorem plain_it {W H : Int} (hW : 1 ≤ W ∧ W ≤ 8) (hH : 1 ≤ H ∧ H ≤ 8) {w : Wk} (h : OkW (plainP W H) w) : ∀ n : Nat, it (stepW (plainP W H)) n w = swgW W H w n
  | 0 => by
    obtain ⟨hx, hy⟩ := okW_okS h
    show w = swgW W H w 0
    unfold swgW
    rw [swg_zero (side := 2 * W) hx, swg_zero (side := 2 * H) hy]
  | n + 1 => by
    have ih := plain_it hW hH h n
    have hk := trk_ok (plain_ok hW hH) h n
    obtain ⟨hx, hy⟩ := okW_okS h
    show stepW (plainP W H) (it (stepW (plainP W H)) n w) = _
    rw [plain_step hk, ih]
    unfold swgW
    simp only []
    rw [swg_add (side := 2 * W) hx, swg_add (side := 2 * H) hy]
    congr 1
theorem swgW_home {W H : Int} {w : Wk} (h : OkW (plainP W H) w) (s : Int) : swgW W H w s = w ↔ s % (4 * W) = 0 ∧ s % (4 * H) = 0 := by
  obtain ⟨hx, hy⟩ := okW_okS h
  have h1 := swg_home (side := 2 * W) hx s
  have h2 := swg_home (side := 2 * H) hy s
  rw [show 2 * (2 * W) = 4 * W by omega] at h1
  rw [show 2 * (2 * H) = 4 * H by omega] at h2
  rw [← h1, ← h2]
  unfold swgW
  constructor
  · intro e
    have e1 := congrArg Wk.X e
    have e2 := congrArg Wk.Y e
    have e3 := congrArg Wk.dx e
    have e4 := congrArg Wk.dy e
    exact ⟨Prod.ext e1 e3, Prod.ext e2 e4⟩
  · rintro ⟨e1, e2⟩
    rw [e1, e2]
theorem swgW_far {W H : Int} {w : Wk} {s n m : Int} (h1 : n % (4 * W) = 0) (h2 : n % (4 * H) = 0) : swgW W H w (m * n + s) = swgW W H w s := by
  have key : ∀ M : Int, n % M = 0 → (m * n + s) % M = s % M := by
    intro M h
    rw [Int.add_emod, Int.mul_emod, h, Int.mul_zero, Int.zero_emod, Int.zero_add, Int.emod_emod_of_dvd _ (Int.dvd_refl _)]
  unfold swgW
  rw [swg_mod (m * n + s) s (side := 2 * W) (by rw [show 2 * (2 * W) = 4 * W by omega]; exact key _ h1), swg_mod (m * n + s) s (side := 2 * H) (by rw [show 2 * (2 * H) = 4 * H by omega]; exact key _ h2)]

/-- The least common multiple. -/
theorem lcm_is {a b : Int} (ha : 1 ≤ a) (hb : 1 ≤ b) : a / (Int.gcd a b : Int) * b = (Nat.lcm a.toNat b.toNat : Int) := by
  obtain ⟨m, rfl⟩ := Int.eq_ofNat_of_zero_le (show 0 ≤ a by omega)
  obtain ⟨n, rfl⟩ := Int.eq_ofNat_of_zero_le (show 0 ≤ b by omega)
  have hg : Int.gcd (m : Int) (n : Int) = Nat.gcd m n := by simp [Int.gcd]
  rw [hg, Int.toNat_natCast, Int.toNat_natCast]
  have hd : Nat.gcd m n ∣ m := Nat.gcd_dvd_left m n
  have : m / Nat.gcd m n * n = Nat.lcm m n := by
    unfold Nat.lcm
    rw [Nat.mul_comm m n, Nat.mul_comm (m / _) n, Nat.mul_div_assoc n hd]
  rw [← this]
  simp
theorem lcm_zero {a b s : Int} (ha : 1 ≤ a) (hb : 1 ≤ b) (s0 : 0 ≤ s) : (s % (4 * a) = 0 ∧ s % (4 * b) = 0) ↔ s % (4 * (a / (Int.gcd a b : Int) * b)) = 0 := by
  rw [lcm_is ha hb]
  obtain ⟨m, rfl⟩ := Int.eq_ofNat_of_zero_le (show 0 ≤ a by omega)
  obtain ⟨n, rfl⟩ := Int.eq_ofNat_of_zero_le (show 0 ≤ b by omega)
  obtain ⟨t, rfl⟩ := Int.eq_ofNat_of_zero_le s0
  rw [Int.toNat_natCast, Int.toNat_natCast]
  have e : ∀ k : Nat, ((t : Int) % (4 * (k : Int)) = 0 ↔ 4 * k ∣ t) := by
    intro k
    rw [show (4 * (k : Int)) = ((4 * k : Nat) : Int) by omega, ← Int.natCast_emod]
    rw [Nat.dvd_iff_mod_eq_zero]
    omega
  rw [e m, e n, e (Nat.lcm m n)]
  constructor
  · rintro ⟨h1, h2⟩
    have h3 : Nat.lcm (4 * m) (4 * n) ∣ t := Nat.lcm_dvd h1 h2
    rwa [Nat.lcm_mul_left] at h3
  · intro h
    exact ⟨Nat.dvd_trans (Nat.mul_dvd_mul_left 4 (Nat.dvd_lcm_left m n)) h, Nat.dvd_trans (Nat.mul_dvd_mul_left 4 (Nat.dvd_lcm_right m n)) h⟩
theorem lcm_pos {a b : Int} (ha : 1 ≤ a) (hb : 1 ≤ b) : 1 ≤ a / (Int.gcd a b : Int) * b := by
  rw [lcm_is ha hb]
  have := Nat.lcm_pos (m := a.toNat) (n := b.toNat) (by omega) (by omega)
  omega
end Knot
