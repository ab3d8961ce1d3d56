/-
  Plain mathematics: Put. No program is in sight.
-/
import Derived.Test.YtcfdbjjfdddfeaaPlPat
namespace Knot

/-! ### Pairs put into their places -/

def gtQ (y x : Int × Int) : Bool := decide (x.1 < y.1) || (decide (y.1 = x.1) && decide (x.2 < y.2))
theorem gtQ_iff (y x : Int × Int) : gtQ y x = true ↔ x.1 < y.1 ∨ (y.1 = x.1 ∧ x.2 < y.2) := by simp [gtQ]
theorem gtQ_no (y x : Int × Int) : gtQ y x = false ↔ ¬ (x.1 < y.1 ∨ (y.1 = x.1 ∧ x.2 < y.2)) := by
  rw [← gtQ_iff]
  cases gtQ y x <;> simp
/-- From place k on downwards: the place behind the first that is not greater. -/
def posK {α : Type} (gt : α → α → Bool) (l : List α) (x : α) : Nat → Nat
  | 0 => 0
  | k + 1 => if (l[k]?.map fun y => gt y x) = some true then posK gt l x k else k + 1
def putK {α : Type} (gt : α → α → Bool) (l : List α) (x : α) : List α := l.take (posK gt l x l.length) ++ x :: l.drop (posK gt l x l.length)
theorem posK_le {α : Type} (gt : α → α → Bool) (l : List α) (x : α) : ∀ k, posK gt l x k ≤ k
  | 0 => Nat.le_refl _
  | k + 1 => by
    have := posK_le gt l x k
    unfold posK
    split <;> omega
theorem posK_yes {α : Type} {gt : α → α → Bool} {l : List α} {x : α} {k : Nat} (hk : k < l.length) (h : gt l[k] x = true) : posK gt l x (k + 1) = posK gt l x k := by
  unfold posK
  rw [if_pos (by rw [List.getElem?_eq_getElem hk]; simp [h])]
  cases k <;> rfl
theorem posK_no {α : Type} {gt : α → α → Bool} {l : List α} {x : α} {k : Nat} (hk : k < l.length) (h : gt l[k] x = false) : posK gt l x (k + 1) = k + 1 := by
  conv => lhs; unfold posK
  rw [if_neg (by rw [List.getElem?_eq_getElem hk]; simp [h])]
theorem putK_len {α : Type} (gt : α → α → Bool) (l : List α) (x : α) : (putK gt l x).length = l.length + 1 := by
  have := posK_le gt l x l.length
  unfold putK
  simp
  omega
theorem putK_perm {α : Type} (gt : α → α → Bool) (l : List α) (x : α) : (putK gt l x).Perm (x :: l) := by
  unfold putK
  refine List.perm_middle.trans ?_
  rw [List.take_append_drop]
theorem posK_map {α β : Type} (gt : α → α → Bool) (gt' : β → β → Bool) (f : α → β) (hf : ∀ y x, gt y x = gt' (f y) (f x)) (l : List α) (x : α) : ∀ k, posK gt l x k = posK gt' (l.map f) (f x) k
  | 0 => rfl
  | k + 1 => by
    unfold posK
    rw [posK_map gt gt' f hf l x k, List.getElem?_map, Option.map_map]
    have e : (fun y => gt y x) = (fun y => gt' y (f x)) ∘ f := funext fun y => hf y x
    rw [e]
theorem putK_map {α β : Type} (gt : α → α → Bool) (gt' : β → β → Bool) (f : α → β) (hf : ∀ y x, gt y x = gt' (f y) (f x)) (l : List α) (x : α) : (putK gt l x).map f = putK gt' (l.map f) (f x) := by
  unfold putK
  rw [List.map_append, List.map_cons, List.map_take, List.map_drop, posK_map gt gt' f hf, List.length_map]
/-- In order. -/
abbrev Srq (l : List (Int × Int)) : Prop := l.Pairwise fun a b => gtQ a b = false
theorem gtQ_chain {a b c : Int × Int} (h : gtQ a b = false) (k : gtQ b c = false) : gtQ a c = false := by
  rw [gtQ_no] at *
  omega
theorem gtQ_asym {a b : Int × Int} (h : gtQ a b = true) : gtQ b a = false := by
  rw [gtQ_iff] at h
  rw [gtQ_no]
  omega
theorem gtQ_eq {a b : Int × Int} (h : gtQ a b = false) (k : gtQ b a = false) : a = b := by
  rw [gtQ_no] at *
  exact Prod.ext (by omega) (by omega)
theorem posK_spec {l : List (Int × Int)} {x : Int × Int} (hl : Srq l) : ∀ k, k ≤ l.length → (∀ j (hj : j < l.length), k ≤ j → gtQ l[j] x = true) →
    (∀ j (hj : j < l.length), posK gtQ l x k ≤ j → gtQ l[j] x = true) ∧ ∀ j (hj : j < l.length), j < posK gtQ l x k → gtQ l[j] x = false
  | 0, _, h => ⟨fun j hj _ => h j hj (by omega), fun j _ hj => by simp [posK] at hj⟩
  | k + 1, hk, h => by
    cases hc : gtQ (l[k]'(by omega)) x
    · rw [posK_no (by omega) hc]
      refine ⟨h, fun j hj hjk => ?_⟩
      rcases Nat.lt_or_ge j k with h2 | h2
      · exact gtQ_chain (List.pairwise_iff_getElem.1 hl j k hj (by omega) h2) hc
      · obtain rfl : j = k := by omega
        exact hc
    · rw [posK_yes (by omega) hc]
      refine posK_spec hl k (by omega) fun j hj hkj => ?_
      rcases Nat.lt_or_ge k j with h2 | h2
      · exact h j hj (by omega)
      · obtain rfl : j = k := by omega
        exact hc
theorem srq_put {l : List (Int × Int)} (x : Int × Int) (hl : Srq l) : Srq (putK gtQ l x) := by
  obtain ⟨h1, h2⟩ := posK_spec (x := x) hl l.length (Nat.le_refl _) (fun j hj hk => by omega)
  have hle := posK_le gtQ l x l.length
  unfold putK
  generalize posK gtQ l x l.length = k at *
  refine List.pairwise_append.2 ⟨hl.sublist (List.take_sublist _ _), List.pairwise_cons.2 ⟨fun b hb => ?_, hl.sublist (List.drop_sublist _ _)⟩, fun a ha b hb => ?_⟩
  · obtain ⟨i, hi, rfl⟩ := List.getElem_of_mem hb
    rw [List.length_drop] at hi
    rw [List.getElem_drop]
    exact gtQ_asym (h1 _ (by omega) (by omega))
  · obtain ⟨i, hi, rfl⟩ := List.getElem_of_mem ha
    rw [List.length_take] at hi
    rw [List.getElem_take]
    have hax := h2 i (by omega) (by omega)
    rcases List.mem_cons.1 hb with e | e
    · subst e; exact hax
    · obtain ⟨j, hj, rfl⟩ := List.getElem_of_mem e
      rw [List.length_drop] at hj
      rw [List.getElem_drop]
      exact List.pairwise_iff_getElem.1 hl _ _ (by omega) (by omega) (by omega)
theorem srq_unique : ∀ {l m : List (Int × Int)}, Srq l → Srq m → l.Perm m → l = m
  | [], m, _, _, h => (List.nil_perm.1 h).symm ▸ rfl
  | a :: l, [], _, _, h => absurd (List.perm_nil.1 h) (by simp)
  | a :: l, b :: m, hl, hm, h => by
    have hl' := List.pairwise_cons.1 hl
    have hm' := List.pairwise_cons.1 hm
    have e : a = b := by
      have h1 : a ∈ b :: m := h.mem_iff.1 (by simp)
      have h2 : b ∈ a :: l := h.mem_iff.2 (by simp)
      rcases List.mem_cons.1 h1 with h1 | h1
      · exact h1
      · rcases List.mem_cons.1 h2 with h2 | h2
        · exact h2.symm
        · exact gtQ_eq (hl'.1 b h2) (hm'.1 a h1)
    subst e
    rw [srq_unique hl'.2 hm'.2 (List.Perm.cons_inv h)]

/-- A pair, the lesser number first. -/
def nrm (q : Int × Int) : Int × Int := (min q.1 q.2, max q.1 q.2)
/-- Pairs put into a row, one after the other. -/
def putAll (l : List (Int × Int)) : List (Int × Int) → List (Int × Int)
  | [] => l
  | q :: t => putAll (putK gtQ l (nrm q)) t
theorem putAll_append (l : List (Int × Int)) : ∀ s t, putAll l (s ++ t) = putAll (putAll l s) t
  | [], t => rfl
  | q :: s, t => by
    show putAll _ (s ++ t) = _
    rw [putAll_append]
    rfl
theorem putAll_srq : ∀ {l : List (Int × Int)} (s : List (Int × Int)), Srq l → Srq (putAll l s)
  | _, [], h => h
  | _, q :: s, h => putAll_srq s (srq_put _ h)
theorem putAll_perm : ∀ (l s : List (Int × Int)), (putAll l s).Perm (s.map nrm ++ l)
  | l, [] => List.Perm.refl _
  | l, q :: s => by
    refine (putAll_perm (putK gtQ l (nrm q)) s).trans ?_
    refine ((putK_perm gtQ l (nrm q)).append_left (s.map nrm)).trans ?_
    exact List.perm_middle
theorem putAll_len (l s : List (Int × Int)) : (putAll l s).length = s.length + l.length := by
  have := (putAll_perm l s).length_eq
  simpa using this
/-- The pairs at the points with an X, up to a Y. -/
def btwA (p : Pan) (X : Int) : Nat → List (Int × Int)
  | 0 => []
  | k + 1 => if (X + k) % 2 = 1 then btwA p X k ++ pairsP p X k else btwA p X k
def btwL (p : Pan) (X : Int) (k : Nat) : List (Int × Int) := putAll [] (btwA p X k)
theorem btwL_yes {p : Pan} {X : Int} {k : Nat} (h : (X + k) % 2 = 1) : btwL p X (k + 1) = putAll (btwL p X k) (pairsP p X k) := by
  unfold btwL
  conv => lhs; unfold btwA
  rw [if_pos h, putAll_append]
theorem btwL_no {p : Pan} {X : Int} {k : Nat} (h : ¬ (X + k) % 2 = 1) : btwL p X (k + 1) = btwL p X k := by
  unfold btwL
  conv => lhs; unfold btwA
  rw [if_neg h]
theorem btwL_mem {p : Pan} {X : Int} {q : Int × Int} (k : Nat) : q ∈ btwL p X k ↔ ∃ (y : Nat) (r : Int × Int), y < k ∧ (X + y) % 2 = 1 ∧ r ∈ pairsP p X y ∧ q = nrm r := by
  have hA : ∀ (k : Nat) (r : Int × Int), r ∈ btwA p X k ↔ ∃ y : Nat, y < k ∧ (X + y) % 2 = 1 ∧ r ∈ pairsP p X y := by
    intro k
    induction k with
    | zero => intro r; simp [btwA]
    | succ k ih =>
      intro r
      unfold btwA
      by_cases h : (X + k) % 2 = 1
      · rw [if_pos h, List.mem_append, ih]
        constructor
        · rintro (⟨y, a, b, c⟩ | c)
          · exact ⟨y, by omega, b, c⟩
          · exact ⟨k, by omega, h, c⟩
        · rintro ⟨y, a, b, c⟩
          by_cases e : y = k
          · subst e; exact .inr c
          · exact .inl ⟨y, by omega, b, c⟩
      · rw [if_neg h, ih]
        constructor
        · rintro ⟨y, a, b, c⟩; exact ⟨y, by omega, b, c⟩
        · rintro ⟨y, a, b, c⟩
          by_cases e : y = k
          · subst e; exact absurd b h
          · exact ⟨y, by omega, b, c⟩
  unfold btwL
  rw [(putAll_perm [] (btwA p X k)).mem_iff, List.append_nil, List.mem_map]
  constructor
  · rintro ⟨r, hr, rfl⟩
    obtain ⟨y, a, b, c⟩ := (hA k r).1 hr
    exact ⟨y, r, a, b, c, rfl⟩
  · rintro ⟨y, r, a, b, c, rfl⟩
    exact ⟨r, (hA k r).2 ⟨y, a, b, c⟩, rfl⟩
theorem pairsP_len (p : Pan) (x y : Int) : (pairsP p x y).length ≤ 2 := by
  unfold pairsP
  repeat' (first | split | exact Nat.le_refl _ | exact Nat.le_succ _)
theorem btwL_len (p : Pan) (X : Int) : ∀ k : Nat, (btwL p X k).length ≤ 2 * k
  | 0 => by simp [btwL, btwA, putAll]
  | k + 1 => by
    have ih := btwL_len p X k
    by_cases h : (X + k) % 2 = 1
    · rw [btwL_yes h, putAll_len]
      have := pairsP_len p X k
      omega
    · rw [btwL_no h]
      omega
end Knot
