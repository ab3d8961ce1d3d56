/-
  Plain mathematics: Pas. No program is in sight.
-/
import Derived.Test.YtcfdbjjfdddfeaaPlConn
namespace Knot

/-! ### A pairing passed on over links: what is joined on the other side, and what is closed -/

/-- What a pairing of the first n and links of twice as many join. -/
inductive Lk (P L : List Int) (n : Nat) : Int → Int → Prop
  | refl {a : Int} (h0 : 0 ≤ a) (h1 : a < ((2 * n : Nat) : Int)) : Lk P L n a a
  | p {a b : Int} (h : Lk P L n a b) (hb : b < n) : Lk P L n a (gI P b)
  | l {a b : Int} (h : Lk P L n a b) : Lk P L n a (gI L b)

theorem marks_front (P L : List Int) (a : Int) : ∀ (i : Nat) (s : List Bool), marks P L a s (i + 1) = marks P L (nxt P L a) (sB (sB s a) (gI P a)) i
  | 0, _ => rfl
  | i + 1, s => by
    have ih := marks_front P L a i s
    show sB (sB (marks P L a s (i + 1)) (it (nxt P L) (i + 1) a)) (gI P (it (nxt P L) (i + 1) a)) = sB (sB (marks P L (nxt P L a) _ i) (it (nxt P L) i (nxt P L a))) (gI P (it (nxt P L) i (nxt P L a)))
    rw [ih, it_succ']

theorem chain_eq (P L : List Int) (n : Nat) : ∀ (j f : Nat) (a : Int) (s : List Bool), j ≤ f → (∀ i, i < j → it (nxt P L) i a < n) → (n : Int) ≤ it (nxt P L) j a →
    chain P L n f a s = (it (nxt P L) j a, marks P L a s j)
  | 0, f, a, s, _, _, h => by
    have h' : (n : Int) ≤ a := h
    cases f with
    | zero => rfl
    | succ f => unfold chain; rw [if_neg (by omega)]; rfl
  | j + 1, f, a, s, hf, hlt, h => by
    obtain ⟨f, rfl⟩ : ∃ m, f = m + 1 := ⟨f - 1, by omega⟩
    have h0 : a < n := hlt 0 (by omega)
    unfold chain
    rw [if_pos h0, it_succ', marks_front]
    exact chain_eq P L n j f (nxt P L a) _ (by omega) (fun i hi => by rw [← it_succ']; exact hlt (i + 1) (by omega)) (by rw [← it_succ']; exact h)

section
variable {P L : List Int} {n : Nat} (hP : Pairing n P) (hL : Pairing (2 * n) L)
include hP hL

theorem Lk.dom {a b : Int} (h : Lk P L n a b) : (0 ≤ a ∧ a < ((2 * n : Nat) : Int)) ∧ 0 ≤ b ∧ b < ((2 * n : Nat) : Int) := by
  induction h with
  | refl h0 h1 => exact ⟨⟨h0, h1⟩, h0, h1⟩
  | p _ hb ih =>
    have h1 := hP.lo _ ih.2.1 hb
    have h2 := hP.hi _ ih.2.1 hb
    exact ⟨ih.1, by omega, by omega⟩
  | l _ ih => exact ⟨ih.1, hL.lo _ ih.2.1 ih.2.2, hL.hi _ ih.2.1 ih.2.2⟩

omit hP hL in
theorem Lk.trans {a b c : Int} (h : Lk P L n a b) (k : Lk P L n b c) : Lk P L n a c := by
  induction k with
  | refl => exact h
  | p _ hb ih => exact ih.p hb
  | l _ ih => exact ih.l

theorem Lk.symm {a b : Int} (h : Lk P L n a b) : Lk P L n b a := by
  induction h with
  | refl h0 h1 => exact .refl h0 h1
  | @p b h hb ih =>
    obtain ⟨_, b0, b1⟩ := h.dom hP hL
    have h1 := hP.lo _ b0 hb
    have h2 := hP.hi _ b0 hb
    have e : Lk P L n (gI P b) (gI P (gI P b)) := .p (.refl h1 (by omega)) h2
    rw [hP.inv _ b0 hb] at e
    exact e.trans ih
  | @l b h ih =>
    obtain ⟨_, b0, b1⟩ := h.dom hP hL
    have e : Lk P L n (gI L b) (gI L (gI L b)) := .l (.refl (hL.lo _ b0 b1) (hL.hi _ b0 b1))
    rw [hL.inv _ b0 b1] at e
    exact e.trans ih

/-- The pairing of the first n and the same of those behind them. -/
def twice (P : List Int) (n : Nat) : List Int := P ++ P.map (· + (n : Int))
omit hL in
theorem twice_get {x : Int} (x0 : 0 ≤ x) (x1 : x < ((2 * n : Nat) : Int)) : gI (twice P n) x = if x < n then gI P x else gI P (x - n) + n := by
  unfold gI twice
  have hl := hP.len
  simp only [List.getD]
  by_cases h : x < n
  · rw [if_pos h, List.getElem?_append_left (by omega)]
  · rw [if_neg h, List.getElem?_append_right (by omega), List.getElem?_map, hl, show x.toNat - n = (x - n).toNat by omega]
    have hx : (x - n).toNat < P.length := by omega
    rw [List.getElem?_eq_getElem hx]
    rfl
omit hL in
theorem twice_pair : Pairing (2 * n) (twice P n) := by
  have hl := hP.len
  refine ⟨by simp [twice, hl]; omega, fun i h0 h1 => ?_, fun i h0 h1 => ?_, fun i h0 h1 => ?_, fun i h0 h1 => ?_⟩
  · rw [twice_get hP h0 h1]
    split
    · exact hP.lo _ h0 (by omega)
    · have := hP.lo (i - n) (by omega) (by omega)
      omega
  · rw [twice_get hP h0 h1]
    split
    · have := hP.hi _ h0 (by omega)
      omega
    · have := hP.hi (i - n) (by omega) (by omega)
      omega
  · rw [twice_get hP h0 h1]
    split
    · exact hP.ne _ h0 (by omega)
    · have := hP.ne (i - n) (by omega) (by omega)
      omega
  · rw [twice_get hP h0 h1]
    split
    · rename_i h
      have h2 := hP.lo _ h0 h
      have h3 := hP.hi _ h0 h
      rw [twice_get hP h2 (by omega), if_pos h3]
      exact hP.inv _ h0 h
    · rename_i h
      have h2 := hP.lo (i - n) (by omega) (by omega)
      have h3 := hP.hi (i - n) (by omega) (by omega)
      rw [twice_get hP (by omega) (by omega), if_neg (by omega), show gI P (i - n) + n - n = gI P (i - n) by omega, hP.inv (i - n) (by omega) (by omega)]
      omega

/-- What a chain from the other side finds. -/
theorem chain_spec {a : Int} (ha : (n : Int) ≤ a ∧ a < ((2 * n : Nat) : Int)) {s : List Bool} (hs : s.length = n) :
    ∃ e, (chain P L n n (gI L a) s).1 = e ∧ ((n : Int) ≤ e ∧ e < ((2 * n : Nat) : Int)) ∧ e ≠ a ∧ (∀ y : Int, (n : Int) ≤ y → (Lk P L n a y ↔ y = a ∨ y = e)) ∧ (chain P L n n (gI L a) s).2.length = n ∧
      ∀ x : Int, 0 ≤ x → x < n → (gB (chain P L n n (gI L a) s).2 x = true ↔ gB s x = true ∨ Lk P L n a x) := by
  obtain ⟨j, hj, hend, hlt⟩ : ∃ j, j ≤ n ∧ (n : Int) ≤ it (nxt P L) j (gI L a) ∧ ∀ i, i < j → it (nxt P L) i (gI L a) < n := by
    have := chain_leaves hP hL (a - n).toNat (by omega)
    rw [show (n : Int) + ((a - n).toNat : Nat) = a by omega] at this
    exact this
  rw [chain_eq P L n j n _ s hj hlt hend]
  have a0 := hL.lo a (by omega) ha.2
  have a1 := hL.hi a (by omega) ha.2
  have rng : ∀ i, i ≤ j → 0 ≤ it (nxt P L) i (gI L a) ∧ it (nxt P L) i (gI L a) < ((2 * n : Nat) : Int) := by
    intro i hi
    induction i with
    | zero => exact ⟨a0, a1⟩
    | succ i ih =>
      have h1 := ih (by omega)
      have h2 := hlt i (by omega)
      have h3 := hP.lo _ h1.1 h2
      have h4 := hP.hi _ h1.1 h2
      exact ⟨hL.lo _ h3 (by omega), hL.hi _ h3 (by omega)⟩
  have hlk : ∀ i, i ≤ j → Lk P L n a (it (nxt P L) i (gI L a)) := by
    intro i hi
    induction i with
    | zero => exact (Lk.refl (by omega) ha.2).l
    | succ i ih => exact ((ih (by omega)).p (hlt i (by omega))).l
  have key : ∀ x : Int, Lk P L n a x ↔ x = a ∨ x = it (nxt P L) j (gI L a) ∨ ∃ i, i < j ∧ (x = it (nxt P L) i (gI L a) ∨ x = gI P (it (nxt P L) i (gI L a))) := by
    intro x
    constructor
    · intro h
      have prev : ∀ i, i ≤ j → 0 < i → gI L (it (nxt P L) i (gI L a)) = gI P (it (nxt P L) (i - 1) (gI L a)) := by
        intro i hi h0
        obtain ⟨i, rfl⟩ : ∃ m, i = m + 1 := ⟨i - 1, by omega⟩
        have h1 := rng i (by omega)
        have h2 := hlt i (by omega)
        have h3 := hP.lo _ h1.1 h2
        have h4 := hP.hi _ h1.1 h2
        exact hL.inv _ h3 (by omega)
      have back : gI L (gI L a) = a := hL.inv _ (by omega) ha.2
      induction h with
      | refl h0 h1 => exact .inl rfl
      | p h hb ih =>
        rcases ih with rfl | rfl | ⟨i, hi, rfl | rfl⟩
        · omega
        · omega
        · exact .inr (.inr ⟨i, hi, .inr rfl⟩)
        · exact .inr (.inr ⟨i, hi, .inl (hP.inv _ (rng i (by omega)).1 (hlt i hi))⟩)
      | l h ih =>
        rcases ih with rfl | rfl | ⟨i, hi, rfl | rfl⟩
        · by_cases h0 : j = 0
          · subst h0; exact .inr (.inl rfl)
          · exact .inr (.inr ⟨0, by omega, .inl rfl⟩)
        · by_cases h0 : j = 0
          · subst h0; exact .inl back
          · exact .inr (.inr ⟨j - 1, by omega, .inr (prev j (Nat.le_refl _) (by omega))⟩)
        · by_cases h0 : i = 0
          · subst h0; exact .inl back
          · exact .inr (.inr ⟨i - 1, by omega, .inr (prev i (by omega) (by omega))⟩)
        · by_cases h0 : i + 1 < j
          · exact .inr (.inr ⟨i + 1, h0, .inl rfl⟩)
          · have e : i + 1 = j := by omega
            refine .inr (.inl ?_)
            rw [← e]
            rfl
    · rintro (rfl | rfl | ⟨i, hi, rfl | rfl⟩)
      · exact .refl (by omega) ha.2
      · exact hlk j (Nat.le_refl _)
      · exact hlk i (by omega)
      · exact (hlk i (by omega)).p (hlt i hi)
  have hne : it (nxt P L) j (gI L a) ≠ a := by
    have ht := twice_pair hP
    have hb := twice_get hP (x := a) (by omega) ha.2
    rw [if_neg (by omega)] at hb
    have b0 := ht.lo a (by omega) ha.2
    have b1 := ht.hi a (by omega) ha.2
    have hall : ∀ i, i ≤ j → it (nxt (twice P n) L) (i + 1) (gI (twice P n) a) = it (nxt P L) i (gI L a) := by
      intro i hi
      induction i with
      | zero =>
        show gI L (gI (twice P n) (gI (twice P n) a)) = gI L a
        rw [ht.inv a (by omega) ha.2]
      | succ i ih =>
        show gI L (gI (twice P n) (it (nxt (twice P n) L) (i + 1) (gI (twice P n) a))) = gI L (gI P (it (nxt P L) i (gI L a)))
        rw [ih (by omega)]
        have h1 := rng i (by omega)
        have h2 := hlt i (by omega)
        rw [twice_get hP h1.1 h1.2, if_pos h2]
    have hn := no_partner ht hL (j + 1) (gI (twice P n) a) ⟨b0, b1⟩
    rw [hall j (Nat.le_refl _), ht.inv a (by omega) ha.2] at hn
    exact hn
  refine ⟨_, rfl, ⟨hend, (rng j (Nat.le_refl _)).2⟩, hne, fun y hy => ?_, by show (marks _ _ _ _ _).length = n; rw [marks_length, hs], fun x x0 x1 => ?_⟩
  · rw [key y]
    constructor
    · rintro (h | h | ⟨i, hi, h | h⟩)
      · exact .inl h
      · exact .inr h
      · have := hlt i hi; omega
      · have h1 := hP.hi _ (rng i (by omega)).1 (hlt i hi); omega
    · rintro (h | h)
      · exact .inl h
      · exact .inr (.inl h)
  · show gB (marks P L (gI L a) s j) x = true ↔ _
    rw [key x]
    have hm : ∀ i, i ≤ j → (gB (marks P L (gI L a) s i) x = true ↔ gB s x = true ∨ ∃ k, k < i ∧ (x = it (nxt P L) k (gI L a) ∨ x = gI P (it (nxt P L) k (gI L a)))) := by
      intro i hi
      induction i with
      | zero => simp [marks]
      | succ i ih =>
        have r1 := rng i (by omega)
        have r2 := hlt i (by omega)
        have l1 := marks_length (P := P) (L := L) (gI L a) s i
        rw [marks, gB_sB x0 (hP.lo _ r1.1 r2) (by rw [sB_length, l1, hs]; exact hP.hi _ r1.1 r2), gB_sB x0 r1.1 (by rw [l1, hs]; exact r2), ih (by omega)]
        constructor
        · rintro (h | h | h | ⟨k, hk, h⟩)
          · exact .inr ⟨i, by omega, .inr h⟩
          · exact .inr ⟨i, by omega, .inl h⟩
          · exact .inl h
          · exact .inr ⟨k, by omega, h⟩
        · rintro (h | ⟨k, hk, h⟩)
          · exact .inr (.inr (.inl h))
          · by_cases e : k = i
            · subst e
              rcases h with h | h
              · exact .inr (.inl h)
              · exact .inl h
            · exact .inr (.inr (.inr ⟨k, by omega, h⟩))
    rw [hm j (Nat.le_refl _)]
    constructor
    · rintro (h | h)
      · exact .inl h
      · exact .inr (.inr (.inr h))
    · rintro (h | h | h | h)
      · exact .inl h
      · omega
      · omega
      · exact .inr h

/-- What is known of the first k elements of the other side. -/
structure Passed (P L : List Int) (n k : Nat) (r : List Int × List Bool) : Prop where
  len : r.1.length = k
  slen : r.2.length = n
  rng : ∀ i : Nat, i < k → 0 ≤ gI r.1 i ∧ gI r.1 i < n ∧ gI r.1 i ≠ i
  ends : ∀ i : Nat, i < k → ∀ y : Int, (n : Int) ≤ y → (Lk P L n ((n : Int) + i) y ↔ y = (n : Int) + i ∨ y = (n : Int) + gI r.1 i)
  seen : ∀ x : Int, 0 ≤ x → x < n → (gB r.2 x = true ↔ ∃ i : Nat, i < k ∧ Lk P L n ((n : Int) + i) x)

omit hP hL in
theorem gI_snoc_lt (l : List Int) (x : Int) {i : Nat} (h : i < l.length) : gI (l ++ [x]) i = gI l i := by
  unfold gI
  simp [List.getD, List.getElem?_append_left h]
omit hP hL in
theorem gI_snoc_eq (l : List Int) (x : Int) {i : Nat} (h : i = l.length) : gI (l ++ [x]) i = x := by
  subst h
  unfold gI
  simp [List.getD]

theorem passed : ∀ k, k ≤ n → Passed P L n k (pass1 P L n k)
  | 0, _ => ⟨rfl, by simp [pass1], fun i h => absurd h (by omega), fun i h => absurd h (by omega), fun x x0 x1 => by
      have : gB (List.replicate n false) x = false := by unfold gB; simp [List.getD, List.getElem?_replicate]; split <;> simp
      show gB (List.replicate n false) x = true ↔ _
      rw [this]
      constructor
      · intro h; cases h
      · rintro ⟨i, h, _⟩; omega⟩
  | k + 1, hk => by
    have ih := passed k (by omega)
    obtain ⟨e, he, he2, hne, hy, hl, hx⟩ := chain_spec hP hL (a := (n : Int) + k) ⟨by omega, by omega⟩ ih.slen
    unfold pass1
    rw [he]
    refine ⟨?_, hl, ?_, ?_, ?_⟩
    · show (_ ++ [_]).length = _
      simp [ih.len]
    · intro i hi
      by_cases h : i < k
      · show 0 ≤ gI (_ ++ [_]) i ∧ gI (_ ++ [_]) i < n ∧ gI (_ ++ [_]) i ≠ i
        rw [gI_snoc_lt _ _ (by rw [ih.len]; exact h)]
        exact ih.rng i h
      · obtain rfl : i = k := by omega
        show 0 ≤ gI (_ ++ [_]) _ ∧ gI (_ ++ [_]) _ < n ∧ gI (_ ++ [_]) _ ≠ _
        rw [gI_snoc_eq _ _ ih.len.symm]
        omega
    · intro i hi y hy'
      by_cases h : i < k
      · show _ ↔ _ ∨ y = (n : Int) + gI (_ ++ [_]) i
        rw [gI_snoc_lt _ _ (by rw [ih.len]; exact h)]
        exact ih.ends i h y hy'
      · obtain rfl : i = k := by omega
        show _ ↔ _ ∨ y = (n : Int) + gI (_ ++ [_]) _
        rw [gI_snoc_eq _ _ ih.len.symm, hy y hy', show (n : Int) + (e - n) = e by omega]
    · intro x x0 x1
      show gB (chain P L n n (gI L ((n : Int) + k)) (pass1 P L n k).2).2 x = true ↔ _
      rw [hx x x0 x1, ih.seen x x0 x1]
      constructor
      · rintro (⟨i, hi, h⟩ | h)
        · exact ⟨i, by omega, h⟩
        · exact ⟨k, by omega, h⟩
      · rintro ⟨i, hi, h⟩
        by_cases e : i < k
        · exact .inl ⟨i, e, h⟩
        · obtain rfl : i = k := by omega
          exact .inr h

/-- The pairing passed on is a pairing. -/
theorem pass_pair : Pairing n (pass P L n).1 := by
  have h := passed hP hL n (Nat.le_refl _)
  have hinv : ∀ i : Nat, i < n → gI (pass1 P L n n).1 (gI (pass1 P L n n).1 i) = i := by
    intro i hi
    obtain ⟨q0, q1, q2⟩ := h.rng i hi
    obtain ⟨q, hq⟩ := Int.eq_ofNat_of_zero_le q0
    have h1 := (h.ends i hi ((n : Int) + q) (by omega)).2 (.inr (by rw [hq]))
    have h2 := h1.symm hP hL
    rcases (h.ends q (by omega) ((n : Int) + i) (by omega)).1 h2 with h3 | h3
    · omega
    · rw [hq]; omega
  refine ⟨h.len, fun i h0 h1 => ?_, fun i h0 h1 => ?_, fun i h0 h1 => ?_, fun i h0 h1 => ?_⟩ <;> obtain ⟨k, rfl⟩ := Int.eq_ofNat_of_zero_le h0
  · exact (h.rng k (by omega)).1
  · exact (h.rng k (by omega)).2.1
  · exact (h.rng k (by omega)).2.2
  · exact hinv k (by omega)

theorem pass_ends {i j : Int} (hi : 0 ≤ i ∧ i < n) (hj : 0 ≤ j ∧ j < n) : Lk P L n ((n : Int) + i) ((n : Int) + j) ↔ j = i ∨ j = gI (pass P L n).1 i := by
  have h := passed hP hL n (Nat.le_refl _)
  obtain ⟨k, rfl⟩ := Int.eq_ofNat_of_zero_le hi.1
  rw [h.ends k (by omega) _ (by omega)]
  constructor
  · rintro (h | h)
    · exact .inl (by omega)
    · exact .inr (by show j = gI (pass1 P L n n).1 _; omega)
  · rintro (h | h)
    · exact .inl (by omega)
    · exact .inr (by have h' : j = gI (pass1 P L n n).1 (k : Int) := h; omega)

/-- The links among the first n, the two ends of each chain joined. -/
def inL (P L : List Int) (n : Nat) : List Int := (List.range n).map fun x : Nat => if gI L x < n then gI L x else gI L ((n : Int) + gI (pass P L n).1 (gI L x - n))
omit hP hL in
theorem inL_get {x : Int} (x0 : 0 ≤ x) (x1 : x < n) : gI (inL P L n) x = if gI L x < n then gI L x else gI L ((n : Int) + gI (pass P L n).1 (gI L x - n)) := by
  obtain ⟨k, rfl⟩ := Int.eq_ofNat_of_zero_le x0
  have hk : k < n := by omega
  unfold inL
  show List.getD _ _ _ = _
  rw [Int.toNat_natCast, List.getD_eq_getElem?_getD, List.getElem?_map, List.getElem?_range hk]
  rfl

theorem inL_big {x : Int} (x0 : 0 ≤ x) (x1 : x < n) (h : ¬ gI L x < n) :
    (0 ≤ gI (pass P L n).1 (gI L x - n) ∧ gI (pass P L n).1 (gI L x - n) < n) ∧ gI (pass P L n).1 (gI L x - n) ≠ gI L x - n ∧ 0 ≤ gI L ((n : Int) + gI (pass P L n).1 (gI L x - n)) ∧ gI L ((n : Int) + gI (pass P L n).1 (gI L x - n)) < n := by
  have hq := pass_pair hP hL
  have l0 := hL.lo x x0 (by omega)
  have l1 := hL.hi x x0 (by omega)
  have li := hL.inv x x0 (by omega)
  obtain ⟨i, hi⟩ : ∃ i, i = gI L x - n := ⟨_, rfl⟩
  rw [← hi]
  have hLx : gI L x = (n : Int) + i := by omega
  rw [hLx] at li
  have q0 := hq.lo i (by omega) (by omega)
  have q1 := hq.hi i (by omega) (by omega)
  have q2 := hq.ne i (by omega) (by omega)
  have qi := hq.inv i (by omega) (by omega)
  generalize hqq : gI (pass P L n).1 i = q at *
  have m0 := hL.lo ((n : Int) + q) (by omega) (by omega)
  have m1 := hL.hi ((n : Int) + q) (by omega) (by omega)
  have m2 := hL.ne ((n : Int) + q) (by omega) (by omega)
  have m3 := hL.inv ((n : Int) + q) (by omega) (by omega)
  refine ⟨⟨q0, q1⟩, q2, m0, ?_⟩
  apply Classical.byContradiction
  intro hge
  have hk : Lk P L n ((n : Int) + q) (gI L ((n : Int) + q)) := (Lk.refl (by omega) (by omega)).l
  rw [show gI L ((n : Int) + q) = (n : Int) + (gI L ((n : Int) + q) - n) by omega] at hk
  rcases (pass_ends hP hL ⟨q0, q1⟩ ⟨by omega, by omega⟩).1 hk with h1 | h1
  · omega
  · rw [qi] at h1
    have h2 : gI L ((n : Int) + q) = (n : Int) + i := by omega
    rw [h2, li] at m3
    omega

theorem inL_pair : Pairing n (inL P L n) := by
  have hq := pass_pair hP hL
  refine ⟨by simp [inL], fun i h0 h1 => ?_, fun i h0 h1 => ?_, fun i h0 h1 => ?_, fun i h0 h1 => ?_⟩
  · rw [inL_get h0 h1]
    split
    · exact hL.lo _ h0 (by omega)
    · exact (inL_big hP hL h0 h1 (by assumption)).2.2.1
  · rw [inL_get h0 h1]
    split
    · assumption
    · exact (inL_big hP hL h0 h1 (by assumption)).2.2.2
  · rw [inL_get h0 h1]
    split
    · exact hL.ne _ h0 (by omega)
    · rename_i h
      obtain ⟨⟨q0, q1⟩, q2, m0, m1⟩ := inL_big hP hL h0 h1 h
      intro e
      have l0 := hL.lo i h0 (by omega)
      have l1 := hL.hi i h0 (by omega)
      have m3 := hL.inv ((n : Int) + gI (pass P L n).1 (gI L i - n)) (by omega) (by omega)
      rw [e] at m3
      omega
  · rw [inL_get h0 h1]
    split
    · rename_i h
      have l0 := hL.lo i h0 (by omega)
      have li := hL.inv i h0 (by omega)
      rw [inL_get l0 h, li, if_pos h1]
    · rename_i h
      obtain ⟨⟨q0, q1⟩, q2, m0, m1⟩ := inL_big hP hL h0 h1 h
      have l0 := hL.lo i h0 (by omega)
      have l1 := hL.hi i h0 (by omega)
      have li := hL.inv i h0 (by omega)
      have qi := hq.inv (gI L i - n) (by omega) (by omega)
      have m3 := hL.inv ((n : Int) + gI (pass P L n).1 (gI L i - n)) (by omega) (by omega)
      rw [inL_get m0 m1, m3, if_neg (by omega), show (n : Int) + gI (pass P L n).1 (gI L i - n) - n = gI (pass P L n).1 (gI L i - n) by omega, qi, show (n : Int) + (gI L i - n) = gI L i by omega, li]

omit hL in
theorem cyc_mono {L' : List Int} (hL' : Pairing n L') {x : Int} (x0 : 0 ≤ x) : ∀ (f : Nat) (a : Int) (s : List Bool), s.length = n → 0 ≤ a → a < n → gB s x = true → gB (cyc P L' f a s) x = true
  | 0, _, _, _, _, _, h => h
  | f + 1, a, s, hs, a0, a1, h => by
    unfold cyc
    split
    · exact h
    · have p0 := hP.lo a a0 a1
      have p1 := hP.hi a a0 a1
      exact cyc_mono hL' x0 f _ _ (by rw [sB_length, sB_length, hs]) (hL'.lo _ p0 p1) (hL'.hi _ p0 p1) ((gB_sB x0 p0 (by rw [sB_length, hs]; exact p1)).2 (.inr ((gB_sB x0 a0 (by rw [hs]; exact a1)).2 (.inr h))))
omit hL in
theorem cycTo_mono {L' : List Int} (hL' : Pairing n L') {x : Int} (x0 : 0 ≤ x) {s : List Bool} (hs : s.length = n) (h : gB s x = true) : ∀ k, k ≤ n → gB (cycTo P L' n s k).2 x = true
  | 0, _ => h
  | k + 1, hk => by
    unfold cycTo
    split
    · exact cycTo_mono hL' x0 hs h k (by omega)
    · exact cyc_mono hP hL' x0 _ _ _ (by rw [cycTo_length, hs]) (by omega) (by omega) (cycTo_mono hL' x0 hs h k (by omega))
omit hL in
theorem cyc_congr {L' : List Int} (hL' : Pairing n L') : ∀ (f : Nat) (a : Int) (s : List Bool), s.length = n → 0 ≤ a → a < n → (∀ x : Int, 0 ≤ x → x < n → gB s x = false → gI L (gI P x) = gI L' (gI P x)) →
    cyc P L f a s = cyc P L' f a s
  | 0, _, _, _, _, _, _ => rfl
  | f + 1, a, s, hs, a0, a1, hc => by
    unfold cyc
    by_cases h : gB s a = true
    · rw [if_pos h, if_pos h]
    · rw [if_neg h, if_neg h, hc a a0 a1 (by simpa using h)]
      have p0 := hP.lo a a0 a1
      have p1 := hP.hi a a0 a1
      refine cyc_congr hL' f _ _ (by rw [sB_length, sB_length, hs]) (hL'.lo _ p0 p1) (hL'.hi _ p0 p1) fun x x0 x1 hx => hc x x0 x1 ?_
      cases hb : gB s x
      · rfl
      · rw [(gB_sB x0 p0 (by rw [sB_length, hs]; exact p1)).2 (.inr ((gB_sB x0 a0 (by rw [hs]; exact a1)).2 (.inr hb)))] at hx
        cases hx
omit hL in
theorem cycTo_congr {L' : List Int} (hL' : Pairing n L') {s : List Bool} (hs : s.length = n) (hc : ∀ x : Int, 0 ≤ x → x < n → gB s x = false → gI L (gI P x) = gI L' (gI P x)) : ∀ k, k ≤ n → cycTo P L n s k = cycTo P L' n s k
  | 0, _ => rfl
  | k + 1, hk => by
    have ih := cycTo_congr hL' hs hc k (by omega)
    unfold cycTo
    rw [ih]
    split
    · rfl
    · rw [cyc_congr hP hL' (n + 1) k _ (by rw [cycTo_length, hs]) (by omega) (by omega) fun x x0 x1 hx => hc x x0 x1 ?_]
      cases hb : gB s x
      · rfl
      · rw [cycTo_mono hP hL' x0 hs hb k (by omega)] at hx
        cases hx

theorem unseen_iff {x : Int} (x0 : 0 ≤ x) (x1 : x < n) : gB (pass1 P L n n).2 x = false ↔ ∀ i : Nat, i < n → ¬ Lk P L n x ((n : Int) + i) := by
  have h := (passed hP hL n (Nat.le_refl _)).seen x x0 x1
  cases hb : gB (pass1 P L n n).2 x
  · simp only [true_iff]
    intro i hi hk
    rw [hb] at h
    exact absurd (h.2 ⟨i, hi, hk.symm hP hL⟩) (by simp)
  · simp only [Bool.true_eq_false, false_iff]
    intro hall
    obtain ⟨i, hi, hk⟩ := h.1 hb
    exact hall i hi (hk.symm hP hL)

theorem unseen_small {x y : Int} (hu : ∀ i : Nat, i < n → ¬ Lk P L n x ((n : Int) + i)) (h : Lk P L n x y) : 0 ≤ y ∧ y < n := by
  obtain ⟨_, y0, y1⟩ := h.dom hP hL
  refine ⟨y0, ?_⟩
  apply Classical.byContradiction
  intro hge
  refine hu (y - n).toNat (by omega) ?_
  rw [show (n : Int) + ((y - n).toNat : Nat) = y by omega]
  exact h

theorem unseen_jn {a : Int} (ha : 0 ≤ a ∧ a < n) (hu : ∀ i : Nat, i < n → ¬ Lk P L n a ((n : Int) + i)) (b : Int) : Jn P (inL P L n) n a b ↔ Lk P L n a b := by
  have small := fun y (h : Lk P L n a y) => unseen_small hP hL hu h
  have hin : ∀ b, Lk P L n a b → gI (inL P L n) b = gI L b := fun b hb => by
    have h1 := small b hb
    have h2 := small _ hb.l
    rw [inL_get h1.1 h1.2, if_pos h2.2]
  constructor
  · intro h
    induction h with
    | refl h0 h1 => exact .refl h0 (by omega)
    | p h ih => exact ih.p (small _ ih).2
    | l h ih =>
      rw [hin _ ih]
      exact ih.l
  · intro h
    induction h with
    | refl h0 h1 => exact .refl ha.1 ha.2
    | p h hb ih => exact ih.p
    | l h ih =>
      rw [← hin _ h]
      exact ih.l

/-- What is closed. -/
theorem pass_closed : ∃ reps : List Int, (pass P L n).2 = reps.length ∧ Reps (Lk P L n) (fun a => (0 ≤ a ∧ a < (n : Int)) ∧ ∀ i : Nat, i < n → ¬ Lk P L n a ((n : Int) + i)) reps := by
  have hp := passed hP hL n (Nat.le_refl _)
  have hI := inL_pair hP hL
  have hshut : Shut P (inL P L n) n (pass1 P L n n).2 := by
    intro a b hab ha
    obtain ⟨⟨a0, a1⟩, b0, b1⟩ := hab.dom hP hI
    cases hb : gB (pass1 P L n n).2 b
    · have hu := (unseen_iff hP hL b0 b1).1 hb
      have h1 := (unseen_jn hP hL ⟨b0, b1⟩ hu a).1 (hab.symm hP hI)
      have h2 : gB (pass1 P L n n).2 a = false := (unseen_iff hP hL a0 a1).2 fun i hi hk => hu i hi (h1.trans hk)
      rw [h2] at ha
      cases ha
    · rfl
  have hcg : ∀ x : Int, 0 ≤ x → x < n → gB (pass1 P L n n).2 x = false → gI L (gI P x) = gI (inL P L n) (gI P x) := by
    intro x x0 x1 hx
    have hu := (unseen_iff hP hL x0 x1).1 hx
    have h1 : Lk P L n x (gI P x) := (Lk.refl x0 (by omega)).p x1
    have h2 := unseen_small hP hL hu h1
    have h3 := unseen_small hP hL hu h1.l
    rw [inL_get h2.1 h2.2, if_pos h3.2]
  obtain ⟨reps, hr⟩ := looped hP hI hp.slen hshut n (Nat.le_refl _)
  have hrr := looped_reps hP hI hr
  refine ⟨reps, ?_, ?_, ?_, ?_⟩
  · show (cycTo P L n (pass1 P L n n).2 n).1 = _
    rw [cycTo_congr hP hI hp.slen hcg n (Nat.le_refl _)]
    exact hr.count
  · intro a ha
    obtain ⟨h1, h2⟩ := hrr.mem a ha
    exact ⟨h1, (unseen_iff hP hL h1.1 h1.2).1 h2⟩
  · refine hrr.apart.imp_of_mem ?_
    intro a b ha hb h hk
    obtain ⟨h1, h2⟩ := hrr.mem a ha
    exact h ((unseen_jn hP hL h1 ((unseen_iff hP hL h1.1 h1.2).1 h2) b).2 hk)
  · intro a ⟨h1, h2⟩
    obtain ⟨b, hb, hj⟩ := hrr.all a ⟨h1, (unseen_iff hP hL h1.1 h1.2).2 h2⟩
    exact ⟨b, hb, (unseen_jn hP hL h1 h2 b).1 hj⟩
end
end Knot
