/-
  Plain mathematics: Pln. No program is in sight.
-/
import Derived.Test.YtcjjkiajgkicnaaPlCls
import Derived.Test.YtcjjkiajgkicnaaPlSwg
namespace Knot

/-! ### Panels without breaks: how many curves, how long, how often they touch the border -/

namespace Sys
variable {α : Type} [DecidableEq α] (S : Sys α)

/-- The segments of one curve are all different. -/
theorem orb_nodup (k : Nat) (hk : k < S.N) : ((orbF S.f (S.start k) (2 * S.N) (S.start k)).map S.seg).Nodup := by
  obtain ⟨T, h1, h2, h3, h4⟩ := S.first _ (S.start_V k hk)
  have he := orbF_eq S.f (S.start k) T h3 h4 (2 * S.N) 0 (by omega) (by omega)
  simp only [it] at he
  rw [he, List.map_map, List.nodup_iff_pairwise_ne, List.pairwise_map, List.pairwise_iff_getElem]
  intro i j hi hj hij e
  simp only [List.length_range'] at hi hj
  simp only [List.getElem_range', Function.comp, Nat.one_mul, Nat.zero_add] at e
  have := S.same_seg _ (S.start_V k hk) i j (by omega) e
  exact h4 (j - i) (by omega) (by omega) this

/-- Together the curves are as long as there are segments. -/
theorem traced_sum {reps : List Nat} {r : List (List α) × List Int} (h : S.Traced S.N r reps) : (r.1.map List.length).sum = S.N := by
  have hr : r.1 = reps.map fun s => orbF S.f (S.start s) (2 * S.N) (S.start s) := by
    apply List.ext_getElem?
    intro i
    rw [List.getElem?_map]
    by_cases hi : i < reps.length
    · rw [List.getElem?_eq_getElem hi]
      exact h.cur i _ (List.getElem?_eq_getElem hi)
    · rw [List.getElem?_eq_none (by rw [h.len]; omega), List.getElem?_eq_none (by omega)]
      rfl
  have hp : (reps.flatMap fun s => (orbF S.f (S.start s) (2 * S.N) (S.start s)).map S.seg).Perm (List.range S.N) := by
    rw [List.perm_ext_iff_of_nodup]
    · intro t
      rw [List.mem_flatMap, List.mem_range]
      constructor
      · rintro ⟨s, hs, ht⟩
        exact S.rel_lt (h.lt s hs) ((S.orb_mem s (h.lt s hs) t).1 ht)
      · intro ht
        obtain ⟨s, hs, hr⟩ := h.all t ht
        exact ⟨s, hs, (S.orb_mem s (h.lt s hs) t).2 hr⟩
    · rw [List.nodup_iff_pairwise_ne, List.pairwise_flatMap]
      refine ⟨fun s hs => List.nodup_iff_pairwise_ne.1 (S.orb_nodup s (h.lt s hs)), ?_⟩
      refine List.Pairwise.imp_of_mem ?_ h.apart
      intro a b ha hb hn x hx y hy e
      subst e
      have h1 := (S.orb_mem a (h.lt a ha) x).1 hx
      have h2 := (S.orb_mem b (h.lt b hb) x).1 hy
      exact hn (S.rel_trans (h.lt a ha) h1 (S.rel_symm (h.lt b hb) h2))
    · exact List.nodup_range
  have hl := hp.length_eq
  rw [List.length_range, List.length_flatMap] at hl
  rw [hr, List.map_map]
  refine Eq.trans ?_ hl
  congr 1
  apply List.map_congr_left
  intro s _
  simp
end Sys

/-- Each curve of a panel is a walk from a beginning to its first return. -/
theorem traceP_curve {p : Pan} (hp : Ok p) {i : Nat} (hi : i < (traceP p (segN p)).1.length) :
    ∃ s : Nat, s < segN p ∧ (traceP p (segN p)).1[i] = orbF (stepW p) (startI p s) (2 * segN p) (startI p s) := by
  obtain ⟨reps, h⟩ := (sys p hp).traced (segN p) (Nat.le_refl _)
  have hl := h.len
  have hi2 : i < reps.length := by rw [← hl]; exact hi
  have hc := h.cur i _ (List.getElem?_eq_getElem hi2)
  refine ⟨reps[i], h.lt _ (List.getElem_mem _), ?_⟩
  have e : (traceP p (segN p)).1[i]? = some (orbF (stepW p) (startI p reps[i]) (2 * segN p) (startI p reps[i])) := hc
  rw [List.getElem?_eq_getElem hi] at e
  injection e

/-- The length of each curve of a panel without breaks. -/
def plnL (W H : Int) : Int := 4 * (W / (Int.gcd W H : Int) * H)
theorem plnL_pos {W H : Int} (hW : 1 ≤ W) (hH : 1 ≤ H) : 4 ≤ plnL W H := by
  unfold plnL
  have := lcm_pos hW hH
  omega
theorem plain_curve {W H : Int} (hW : 1 ≤ W ∧ W ≤ 8) (hH : 1 ≤ H ∧ H ≤ 8) {i : Nat} (hi : i < (traceP (plainP W H) (segN (plainP W H))).1.length) :
    ∃ w : Wk, OkW (plainP W H) w ∧ (traceP (plainP W H) (segN (plainP W H))).1[i] = trk (plainP W H) w (plnL W H).toNat := by
  have hp := plain_ok hW hH
  obtain ⟨s, hs, e⟩ := traceP_curve hp hi
  have hs' : (s : Int) < 4 * (plainP W H).W * (plainP W H).H := by
    have : segN (plainP W H) = (4 * (plainP W H).W * (plainP W H).H).toNat := rfl
    omega
  have hw := (start_ok hp (k := (s : Int)) (by omega) hs').1
  obtain ⟨T, t1, t2, t3, t4, t5⟩ := trk_orb hp hw
  refine ⟨_, hw, ?_⟩
  rw [e, t5]
  congr 1
  have hL := plnL_pos hW.1 hH.1
  have home : ∀ n : Nat, it (stepW (plainP W H)) n (startI (plainP W H) s) = startI (plainP W H) s ↔ (n : Int) % plnL W H = 0 := by
    intro n
    rw [plain_it hW hH hw n, swgW_home hw, lcm_zero hW.1 hH.1 (by omega)]
    rfl
  have d1 := (home T).1 t3
  have d2 := (home (plnL W H).toNat).2 (by rw [Int.toNat_of_nonneg (by omega)]; exact Int.emod_self)
  have hle : T ≤ (plnL W H).toNat := by
    rcases Nat.lt_or_ge (plnL W H).toNat T with h | h
    · exact absurd d2 (t4 _ (by omega) h)
    · exact h
  rcases Nat.lt_or_ge T (plnL W H).toNat with h | h
  · rw [Int.emod_eq_of_lt (by omega) (by omega)] at d1
    omega
  · omega

theorem sum_same (n : Nat) : ∀ l : List Nat, (∀ x ∈ l, x = n) → l.sum = l.length * n
  | [], _ => by simp
  | a :: l, h => by
    rw [List.sum_cons, sum_same n l (fun x hx => h x (List.mem_cons_of_mem _ hx)), h a (by simp), List.length_cons, Nat.succ_mul]
    omega

/-- Number times length is the number of segments. -/
theorem plain_total {W H : Int} (hW : 1 ≤ W ∧ W ≤ 8) (hH : 1 ≤ H ∧ H ≤ 8) : cntP (plainP W H) * plnL W H = 4 * W * H := by
  have hp := plain_ok hW hH
  obtain ⟨reps, h⟩ := (sys (plainP W H) hp).traced (segN (plainP W H)) (Nat.le_refl _)
  have hsum := (sys (plainP W H) hp).traced_sum h
  have e : (sys (plainP W H) hp).traceTo (segN (plainP W H)) = traceP (plainP W H) (segN (plainP W H)) := rfl
  rw [e] at hsum
  have hL := plnL_pos hW.1 hH.1
  rw [sum_same (plnL W H).toNat _ (by
    intro x hx
    obtain ⟨c, hc, rfl⟩ := List.mem_map.1 hx
    obtain ⟨i, hi, rfl⟩ := List.getElem_of_mem hc
    obtain ⟨w, _, e⟩ := plain_curve hW hH hi
    rw [e, trk_length])] at hsum
  rw [List.length_map] at hsum
  have hN : (sys (plainP W H) hp).N = (4 * W * H).toNat := rfl
  rw [hN] at hsum
  have h4 : 0 ≤ 4 * W * H := Int.mul_nonneg (by omega) (by omega)
  have hc : cntP (plainP W H) = ((traceP (plainP W H) (segN (plainP W H))).1.length : Int) := rfl
  rw [hc]
  have : ((((traceP (plainP W H) (segN (plainP W H))).1.length * (plnL W H).toNat : Nat)) : Int) = ((4 * W * H).toNat : Int) := by rw [hsum]
  rw [Int.natCast_mul, Int.toNat_of_nonneg (by omega), Int.toNat_of_nonneg h4] at this
  exact this

/-! ### Touches -/

/-- How many of the first points of a row (X, Y, X, Y, ..) lie at the border. -/
def hitP (p : Pan) (xs : List Int) : Nat → Int
  | 0 => 0
  | n + 1 => hitP p xs n + if Edge p (gI xs ((2 * n : Nat) : Int)) (gI xs ((2 * n + 1 : Nat) : Int)) then 1 else 0
theorem hitP_bd (p : Pan) (xs : List Int) : ∀ n, 0 ≤ hitP p xs n ∧ hitP p xs n ≤ n
  | 0 => by simp [hitP]
  | n + 1 => by
    have := hitP_bd p xs n
    unfold hitP
    split <;> omega
theorem flat_get : ∀ (l : List Wk) (i : Nat) (h : i < l.length), gI (flatP l) ((2 * i : Nat) : Int) = l[i].X ∧ gI (flatP l) ((2 * i + 1 : Nat) : Int) = l[i].Y
  | [], i, h => by simp at h
  | a :: l, 0, _ => by simp [flatP, gI]
  | a :: l, i + 1, h => by
    have ih := flat_get l i (by simpa using h)
    have e : flatP (a :: l) = a.X :: a.Y :: flatP l := rfl
    rw [e]
    unfold gI at ih ⊢
    simp only [Int.toNat_natCast, List.getElem_cons_succ] at ih ⊢
    rw [show 2 * (i + 1) = 2 * i + 1 + 1 by omega, show 2 * i + 1 + 1 + 1 = 2 * i + 1 + 1 + 1 by omega]
    simp only [List.getD_cons_succ]
    exact ih

/-- How many of n numbers in a row, from a on, are whole multiples of m. -/
def mulN (m a : Int) : Nat → Int
  | 0 => 0
  | n + 1 => mulN m a n + if (a + n) % m = 0 then 1 else 0
theorem mulN_add (m a : Int) (n : Nat) : ∀ k : Nat, mulN m a (n + k) = mulN m a n + mulN m (a + n) k
  | 0 => by simp [mulN]
  | k + 1 => by
    rw [← Nat.add_assoc]
    show mulN m a (n + k) + _ = _ + (mulN m (a + n) k + _)
    rw [mulN_add m a n k]
    have e : a + ((n + k : Nat) : Int) = a + n + k := by omega
    rw [e]
    omega
theorem mulN_none {m a : Int} {n : Nat} (h : ∀ i : Nat, i < n → (a + i) % m ≠ 0) : mulN m a n = 0 := by
  induction n with
  | zero => rfl
  | succ n ih =>
    show mulN m a n + _ = _
    rw [ih (fun i hi => h i (by omega)), if_neg (h n (by omega))]
    rfl
/-- One round has one. -/
theorem mulN_one {m : Int} (hm : 1 ≤ m) (a : Int) : mulN m a m.toNat = 1 := by
  -- the first multiple from a on
  obtain ⟨r, hr0, hr1, hr⟩ : ∃ r : Int, 0 ≤ r ∧ r < m ∧ (a + r) % m = 0 := by
    by_cases h : a % m = 0
    · exact ⟨0, by omega, by omega, by simpa using h⟩
    · have h1 := Int.emod_nonneg a (show m ≠ 0 by omega)
      have h2 := Int.emod_lt_of_pos a (show 0 < m by omega)
      refine ⟨m - a % m, by omega, by omega, ?_⟩
      rw [show a + (m - a % m) = a - a % m + m by omega, Int.add_emod_right]
      have := Int.emod_add_mul_ediv a m
      rw [show a - a % m = m * (a / m) by omega]
      exact Int.mul_emod_right _ _
  have only : ∀ i : Int, 0 ≤ i → i < m → (a + i) % m = 0 → i = r := by
    intro i h0 h1 h2
    have : (i - r) % m = 0 := by
      rw [show i - r = (a + i) - (a + r) by omega, Int.sub_emod, h2, hr]
      simp
    obtain ⟨q, hq⟩ := Int.dvd_of_emod_eq_zero this
    rcases Int.lt_trichotomy q 0 with h | h | h
    · have : m * q ≤ m * (-1) := Int.mul_le_mul_of_nonneg_left (by omega) (by omega)
      omega
    · subst h; omega
    · have : m * 1 ≤ m * q := Int.mul_le_mul_of_nonneg_left (by omega) (by omega)
      omega
  have hs : m.toNat = r.toNat + (1 + (m.toNat - r.toNat - 1)) := by omega
  rw [hs, mulN_add, mulN_add]
  rw [mulN_none (n := r.toNat) (fun i hi e => by have := only i (by omega) (by omega) e; omega)]
  rw [mulN_none (n := m.toNat - r.toNat - 1) (fun i hi e => by
    have := only (r + 1 + i) (by omega) (by omega) (by rw [← e]; congr 1; omega)
    omega)]
  have : mulN m (a + (r.toNat : Int)) 1 = 1 := by
    show 0 + (if (a + (r.toNat : Int) + ((0 : Nat) : Int)) % m = 0 then 1 else 0) = 1
    rw [if_pos (by rw [show a + (r.toNat : Int) + ((0 : Nat) : Int) = a + r by omega]; exact hr)]
    rfl
  rw [this]
  omega
theorem mulN_all {m : Int} (hm : 1 ≤ m) (a : Int) : ∀ q : Nat, mulN m a (m.toNat * q) = q
  | 0 => by simp [mulN]
  | q + 1 => by
    rw [Nat.mul_succ, mulN_add, mulN_all hm a q, mulN_one hm]
    omega

/-- A place at the border of one side. -/
theorem unp_edge {side f : Int} (h0 : 0 ≤ f) (h1 : f < 2 * side) : ((unp side f).1 = 0 ∨ (unp side f).1 = side) ↔ f % side = 0 := by
  unfold unp
  by_cases h : f < side
  · rw [if_pos h, Int.emod_eq_of_lt h0 h]
    simp only []
    omega
  · rw [if_neg h]
    have e : f % side = f - side := by
      rw [show f = (f - side) + side by omega, Int.add_emod_right, Int.emod_eq_of_lt (by omega) (by omega)]
      omega
    rw [e]
    simp only []
    omega
theorem hit_swg {W H : Int} (hW : 1 ≤ W ∧ W ≤ 8) (hH : 1 ≤ H ∧ H ≤ 8) {w : Wk} (h : OkW (plainP W H) w) (L : Nat) :
    ∀ n : Nat, n ≤ L → hitP (plainP W H) (flatP (trk (plainP W H) w L)) n = mulN (2 * W) (phs w.X w.dx (2 * W)) n + mulN (2 * H) (phs w.Y w.dy (2 * H)) n
  | 0, _ => by simp [hitP, mulN]
  | n + 1, hn => by
    have ih := hit_swg hW hH h L n (by omega)
    have hlen : n < (trk (plainP W H) w L).length := by rw [trk_length]; omega
    obtain ⟨g0, g1⟩ := flat_get _ n hlen
    have hg : (trk (plainP W H) w L)[n] = it (stepW (plainP W H)) n w := by simp [trk]
    unfold hitP
    rw [ih, g0, g1, hg]
    have hok := trk_ok (plain_ok hW hH) h n
    rw [plain_it hW hH h n] at hok ⊢
    have hpx := phs_bd (okW_okS h).1
    have hpy := phs_bd (okW_okS h).2
    have ex := unp_edge (side := 2 * W) (f := (phs w.X w.dx (2 * W) + (n : Int)) % (2 * (2 * W))) (Int.emod_nonneg _ (by omega)) (Int.emod_lt_of_pos _ (by omega))
    have ey := unp_edge (side := 2 * H) (f := (phs w.Y w.dy (2 * H) + (n : Int)) % (2 * (2 * H))) (Int.emod_nonneg _ (by omega)) (Int.emod_lt_of_pos _ (by omega))
    rw [← swg_unp, Int.emod_emod_of_dvd _ ⟨2, by omega⟩] at ex ey
    obtain ⟨_, _, ⟨_, _, _, _, hodd⟩, _⟩ := hok
    unfold swgW at hodd ⊢
    simp only [] at hodd ⊢
    show _ + (if Edge (plainP W H) _ _ then (1 : Int) else 0) = (mulN _ _ n + _) + (mulN _ _ n + _)
    unfold Edge
    simp only [show (plainP W H).W = W from rfl, show (plainP W H).H = H from rfl]
    by_cases c1 : (phs w.X w.dx (2 * W) + (n : Int)) % (2 * W) = 0
    · have c2 : ¬ (phs w.Y w.dy (2 * H) + (n : Int)) % (2 * H) = 0 := by
        intro c2
        have d1 := ex.2 c1
        have d2 := ey.2 c2
        omega
      have d1 := ex.2 c1
      rw [if_pos c1, if_neg c2, if_pos (by omega)]
      omega
    · by_cases c2 : (phs w.Y w.dy (2 * H) + (n : Int)) % (2 * H) = 0
      · have d2 := ey.2 c2
        rw [if_neg c1, if_pos c2, if_pos (by omega)]
        omega
      · rw [if_neg c1, if_neg c2, if_neg (by
          intro hh
          rcases hh with hh | hh | hh | hh
          · exact c1 (ex.1 (.inl hh))
          · exact c1 (ex.1 (.inr hh))
          · exact c2 (ey.1 (.inl hh))
          · exact c2 (ey.1 (.inr hh)))]
        omega
/-- What is left is arithmetic of small numbers. -/
theorem pln_small : ∀ W ∈ ([1, 2, 3, 4, 5, 6, 7, 8] : List Int), ∀ H ∈ ([1, 2, 3, 4, 5, 6, 7, 8] : List Int),
    (Int.gcd W H : Int) * plnL W H = 4 * W * H ∧ (plnL W H).toNat = (2 * W).toNat * (plnL W H / (2 * W)).toNat ∧ (plnL W H).toNat = (2 * H).toNat * (plnL W H / (2 * H)).toNat ∧
    plnL W H / (2 * W) + plnL W H / (2 * H) = 2 * (W + H) / (Int.gcd W H : Int) ∧ 0 ≤ plnL W H / (2 * W) ∧ 0 ≤ plnL W H / (2 * H) ∧ (Int.gcd W H : Int) * (W / (Int.gcd W H : Int) * H) = W * H ∧ W % (Int.gcd W H : Int) = 0 ∧ H % (Int.gcd W H : Int) = 0 ∧ (1 : Int) ≤ (Int.gcd W H : Int) ∧ (Int.gcd W H : Int) ≤ 8 := by
  decide +kernel
theorem in8 {W : Int} (h : 1 ≤ W ∧ W ≤ 8) : W ∈ ([1, 2, 3, 4, 5, 6, 7, 8] : List Int) := by
  have : W = 1 ∨ W = 2 ∨ W = 3 ∨ W = 4 ∨ W = 5 ∨ W = 6 ∨ W = 7 ∨ W = 8 := by omega
  simp [this]
/-- As many curves as the greatest common divisor. -/
theorem plain_count {W H : Int} (hW : 1 ≤ W ∧ W ≤ 8) (hH : 1 ≤ H ∧ H ≤ 8) : cntP (plainP W H) = (Int.gcd W H : Int) := by
  have h1 := plain_total hW hH
  have h2 := (pln_small W (in8 hW) H (in8 hH)).1
  have hL := plnL_pos hW.1 hH.1
  have : cntP (plainP W H) * plnL W H = (Int.gcd W H : Int) * plnL W H := by rw [h1, h2]
  exact Int.eq_of_mul_eq_mul_right (by omega) this
/-- How often a curve touches the border. -/
theorem plain_touch {W H : Int} (hW : 1 ≤ W ∧ W ≤ 8) (hH : 1 ≤ H ∧ H ≤ 8) {i : Nat} (hi : i < (traceP (plainP W H) (segN (plainP W H))).1.length) :
    ((traceP (plainP W H) (segN (plainP W H))).1[i].length : Int) = plnL W H ∧
    hitP (plainP W H) (flatP (traceP (plainP W H) (segN (plainP W H))).1[i]) (traceP (plainP W H) (segN (plainP W H))).1[i].length = 2 * (W + H) / (Int.gcd W H : Int) := by
  obtain ⟨w, hw, e⟩ := plain_curve hW hH hi
  have hL := plnL_pos hW.1 hH.1
  rw [e, trk_length]
  refine ⟨by omega, ?_⟩
  obtain ⟨_, s2, s3, s4, s5, s6, _⟩ := pln_small W (in8 hW) H (in8 hH)
  rw [hit_swg hW hH hw _ _ (Nat.le_refl _)]
  conv => lhs; lhs; rw [s2]
  conv => lhs; rhs; rw [s3]
  rw [mulN_all (by omega), mulN_all (by omega)]
  omega
end Knot
