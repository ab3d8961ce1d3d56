/-
  Plain mathematics of this seat, in one text. No program is in sight.
-/
namespace Knot

/-- The pigeonhole. -/
theorem pigeon : ∀ (n : Nat) (l : List Nat), l.Nodup → (∀ x ∈ l, x < n) → l.length ≤ n
  | 0, l, _, hb => by
    cases l with
    | nil => simp
    | cons a t => exact absurd (hb a (by simp)) (by omega)
  | n + 1, l, hd, hb => by
    have h1 : (l.erase n).Nodup := hd.erase n
    have h2 : ∀ x ∈ l.erase n, x < n := by
      intro x hx
      have hm := List.mem_of_mem_erase hx
      have := hb x hm
      have hne : x ≠ n := by
        intro e
        subst e
        exact (List.Nodup.not_mem_erase hd) hx
      omega
    have h3 := pigeon n (l.erase n) h1 h2
    have h4 := List.length_erase (a := n) (l := l)
    split at h4 <;> omega

/-- n times f. -/
def it {α : Type} (f : α → α) : Nat → α → α
  | 0, a => a
  | n + 1, a => f (it f n a)

theorem it_add {α : Type} (f : α → α) (m n : Nat) (a : α) : it f (m + n) a = it f m (it f n a) := by
  induction m with
  | zero => simp [it]
  | succ m ih => rw [Nat.succ_add]; simp [it, ih]

theorem it_succ' {α : Type} (f : α → α) (n : Nat) (a : α) : it f (n + 1) a = it f n (f a) := by
  have := it_add f n 1 a
  simpa [it] using this

theorem it_mem {α : Type} (f : α → α) (D : α → Prop) (hf : ∀ a, D a → D (f a)) (n : Nat) (a : α) (ha : D a) : D (it f n a) := by
  induction n with
  | zero => exact ha
  | succ n ih => exact hf _ ih

theorem it_inj {α : Type} (f : α → α) (D : α → Prop) (hf : ∀ a, D a → D (f a)) (hi : ∀ a b, D a → D b → f a = f b → a = b) (n : Nat) (a b : α) (ha : D a) (hb : D b)
    (h : it f n a = it f n b) : a = b := by
  induction n with
  | zero => exact h
  | succ n ih => exact ih (hi _ _ (it_mem f D hf n a ha) (it_mem f D hf n b hb) h)

/-- Of the iterates up to the number of places two are equal. -/
theorem it_meet {α : Type} (f : α → α) (c : α → Nat) (M : Nat) (D : α → Prop) (hf : ∀ a, D a → D (f a)) (hc : ∀ a, D a → c a < M) (a : α) (ha : D a) :
    ∃ i j, i < j ∧ j ≤ M ∧ c (it f i a) = c (it f j a) := by
  apply Classical.byContradiction
  intro hno
  have hnd : ((List.range (M + 1)).map fun i => c (it f i a)).Nodup := by
    rw [List.nodup_iff_pairwise_ne, List.pairwise_map]
    have hp : (List.range (M + 1)).Pairwise (fun i j => i < j ∧ j ≤ M) := by
      rw [List.pairwise_iff_getElem]
      intro i j hi hj hij
      simp at hi hj ⊢
      omega
    exact hp.imp (fun {i j} h e => hno ⟨i, j, h.1, h.2, e⟩)
  have hl := pigeon M _ hnd (by
    intro x hx
    obtain ⟨i, _, rfl⟩ := List.mem_map.1 hx
    exact hc _ (it_mem f D hf i a ha))
  simp at hl
  omega

/-- The least number with a property. -/
theorem least (P : Nat → Prop) (n : Nat) (h : P n) : ∃ m, P m ∧ m ≤ n ∧ ∀ i, i < m → ¬ P i := by
  induction n using Nat.strongRecOn with
  | _ n ih =>
    by_cases hx : ∃ i, i < n ∧ P i
    · obtain ⟨i, hi, hp⟩ := hx
      obtain ⟨m, h1, h2, h3⟩ := ih i hi hp
      exact ⟨m, h1, by omega, h3⟩
    · exact ⟨n, h, Nat.le_refl _, fun i hi hp => hx ⟨i, hi, hp⟩⟩

/-- The iterates of a one-to-one step come back; the first return. -/
theorem comes_back {α : Type} (f : α → α) (c : α → Nat) (M : Nat) (D : α → Prop) (hf : ∀ a, D a → D (f a)) (hi : ∀ a b, D a → D b → f a = f b → a = b)
    (hc : ∀ a, D a → c a < M) (hci : ∀ a b, D a → D b → c a = c b → a = b) (a : α) (ha : D a) :
    ∃ T, 1 ≤ T ∧ T ≤ M ∧ it f T a = a ∧ ∀ i, 1 ≤ i → i < T → it f i a ≠ a := by
  obtain ⟨i, j, hij, hj, he⟩ := it_meet f c M D hf hc a ha
  have he' := hci _ _ (it_mem f D hf i a ha) (it_mem f D hf j a ha) he
  have h1 : it f (j - i) a = a := by
    have : it f j a = it f i (it f (j - i) a) := by rw [← it_add]; congr 1; omega
    rw [this] at he'
    exact (it_inj f D hf hi i a _ ha (it_mem f D hf _ a ha) he').symm
  obtain ⟨T, hT, hle, hmin⟩ := least (fun n => 1 ≤ n ∧ it f n a = a) (j - i) ⟨by omega, h1⟩
  exact ⟨T, hT.1, by omega, hT.2, fun k hk hkT e => hmin k hkT ⟨hk, e⟩⟩

/-! ### Representatives -/

/-- The list L holds one of each class of R in D. -/
structure Reps {α : Type} (R : α → α → Prop) (D : α → Prop) (L : List α) : Prop where
  mem : ∀ a ∈ L, D a
  apart : L.Pairwise (fun a b => ¬ R a b)
  all : ∀ a, D a → ∃ b ∈ L, R a b

theorem reps_le {α : Type} {R : α → α → Prop} {D : α → Prop} {L K : List α} (hs : ∀ a b, R a b → R b a) (ht : ∀ a b c, R a b → R b c → R a c)
    (hL : Reps R D L) (hK : Reps R D K) : L.length ≤ K.length := by
  classical
  have hidx : ∀ i : Fin L.length, ∃ j : Fin K.length, R L[i] K[j] := by
    intro i
    obtain ⟨b, hb, hr⟩ := hK.all _ (hL.mem L[i] (List.getElem_mem _))
    obtain ⟨j, hj, rfl⟩ := List.getElem_of_mem hb
    exact ⟨⟨j, hj⟩, hr⟩
  let g : Nat → Nat := fun i => if h : i < L.length then (Classical.choose (hidx ⟨i, h⟩)).val else 0
  have hg : ∀ i (h : i < L.length), ∃ hj : g i < K.length, R L[i] K[g i] := by
    intro i h
    have e : g i = (Classical.choose (hidx ⟨i, h⟩)).val := by simp [g, h]
    have hsp := Classical.choose_spec (hidx ⟨i, h⟩)
    refine ⟨by rw [e]; exact (Classical.choose (hidx ⟨i, h⟩)).isLt, ?_⟩
    simp only [e]
    exact hsp
  have hnd : ((List.range L.length).map g).Nodup := by
    rw [List.nodup_iff_pairwise_ne, List.pairwise_map]
    rw [List.pairwise_iff_getElem]
    intro i j hi hj hij e
    simp only [List.getElem_range, List.length_range] at hi hj e
    obtain ⟨_, r1⟩ := hg i hi
    obtain ⟨h2, r2⟩ := hg j hj
    have r1' : R L[i] K[g j] := by simp only [e] at r1; exact r1
    exact (List.pairwise_iff_getElem.1 hL.apart i j hi hj hij) (ht _ _ _ r1' (hs _ _ r2))
  have := pigeon K.length _ hnd (by
    intro x hx
    obtain ⟨i, hi, rfl⟩ := List.mem_map.1 hx
    exact (hg i (by simpa using hi)).1)
  simpa using this

/-- How many classes there are does not hang on the choice of representatives. -/
theorem reps_eq {α : Type} {R : α → α → Prop} {D : α → Prop} {L K : List α} (hs : ∀ a b, R a b → R b a) (ht : ∀ a b c, R a b → R b c → R a c)
    (hL : Reps R D L) (hK : Reps R D K) : L.length = K.length :=
  Nat.le_antisymm (reps_le hs ht hL hK) (reps_le hs ht hK hL)

/-- Classes are carried over by a map that keeps and reflects the relation. -/
theorem reps_map {α β : Type} {R : α → α → Prop} {S : β → β → Prop} {D : α → Prop} {E : β → Prop} {L : List α} (m : α → β)
    (hD : ∀ a, D a → E (m a)) (hE : ∀ b, E b → ∃ a, D a ∧ S b (m a)) (ht : ∀ a b c, S a b → S b c → S a c)
    (hR : ∀ a b, D a → D b → (R a b ↔ S (m a) (m b))) (hL : Reps R D L) : Reps S E (L.map m) := by
  refine ⟨?_, ?_, ?_⟩
  · intro b hb
    obtain ⟨a, ha, rfl⟩ := List.mem_map.1 hb
    exact hD a (hL.mem a ha)
  · rw [List.pairwise_map]
    refine List.Pairwise.imp_of_mem ?_ hL.apart
    intro a b ha hb h hr
    exact h ((hR a b (hL.mem a ha) (hL.mem b hb)).2 hr)
  · intro b hb
    obtain ⟨a, ha, hs⟩ := hE b hb
    obtain ⟨c, hc, hr⟩ := hL.all a ha
    exact ⟨m c, List.mem_map.2 ⟨c, hc, rfl⟩, ht _ _ _ hs ((hR a c ha (hL.mem c hc)).1 hr)⟩

/-- Representatives of two parts that have nothing to do with each other. -/
theorem reps_append {α : Type} {R : α → α → Prop} {D E : α → Prop} {L K : List α} (hdis : ∀ a b, D a → E b → ¬ R a b)
    (hL : Reps R D L) (hK : Reps R E K) : Reps R (fun a => D a ∨ E a) (L ++ K) := by
  refine ⟨?_, ?_, ?_⟩
  · intro a ha
    rcases List.mem_append.1 ha with h | h
    · exact .inl (hL.mem a h)
    · exact .inr (hK.mem a h)
  · rw [List.pairwise_append]
    exact ⟨hL.apart, hK.apart, fun a ha b hb => hdis a b (hL.mem a ha) (hK.mem b hb)⟩
  · rintro a (h | h)
    · obtain ⟨b, hb, hr⟩ := hL.all a h
      exact ⟨b, List.mem_append.2 (.inl hb), hr⟩
    · obtain ⟨b, hb, hr⟩ := hK.all a h
      exact ⟨b, List.mem_append.2 (.inr hb), hr⟩

end Knot

namespace Knot

def gI (l : List Int) (i : Int) : Int := l.getD i.toNat 0
def gB (l : List Bool) (i : Int) : Bool := l.getD i.toNat false
def sB (l : List Bool) (i : Int) : List Bool := l.set i.toNat true

structure Pairing (n : Nat) (P : List Int) : Prop where
  len : P.length = n
  lo : ∀ i : Int, 0 ≤ i → i < n → 0 ≤ gI P i
  hi : ∀ i : Int, 0 ≤ i → i < n → gI P i < n
  ne : ∀ i : Int, 0 ≤ i → i < n → gI P i ≠ i
  inv : ∀ i : Int, 0 ≤ i → i < n → gI P (gI P i) = i

/-- From a on along the links, over what is known on this side, to the other side. -/
def chain (P L : List Int) (n : Int) : Nat → Int → List Bool → Int × List Bool
  | 0, a, s => (a, s)
  | f + 1, a, s => if a < n then chain P L n f (gI L (gI P a)) (sB (sB s a) (gI P a)) else (a, s)

def pass1 (P L : List Int) (n : Nat) : Nat → List Int × List Bool
  | 0 => ([], List.replicate n false)
  | k + 1 => ((pass1 P L n k).1 ++ [(chain P L n n (gI L ((n : Int) + k)) (pass1 P L n k).2).1 - n], (chain P L n n (gI L ((n : Int) + k)) (pass1 P L n k).2).2)

def cyc (P L : List Int) : Nat → Int → List Bool → List Bool
  | 0, _, s => s
  | f + 1, a, s => if gB s a then s else cyc P L f (gI L (gI P a)) (sB (sB s a) (gI P a))

/-- Closed loops among the first k, and what has been seen. -/
def cycTo (P L : List Int) (n : Nat) (s : List Bool) : Nat → Int × List Bool
  | 0 => (0, s)
  | k + 1 => if gB (cycTo P L n s k).2 k then cycTo P L n s k else ((cycTo P L n s k).1 + 1, cyc P L (n + 1) k (cycTo P L n s k).2)

def pass (P L : List Int) (n : Nat) : List Int × Int := ((pass1 P L n n).1, (cycTo P L n (pass1 P L n n).2 n).1)
def loopsOf (P L : List Int) (n : Nat) : Int := (cycTo P L n (List.replicate n false) n).1

def nxt (P L : List Int) (a : Int) : Int := gI L (gI P a)

/-- A chain that begins on the other side comes to the other side. -/
theorem chain_leaves {n : Nat} {P L : List Int} (hP : Pairing n P) (hL : Pairing (2 * n) L) (k : Nat) (hk : k < n) :
    ∃ j, j ≤ n ∧ (n : Int) ≤ it (nxt P L) j (gI L ((n : Int) + k)) ∧ ∀ i, i < j → it (nxt P L) i (gI L ((n : Int) + k)) < n := by
  apply Classical.byContradiction
  intro hno
  have hall : ∀ j, j ≤ n → it (nxt P L) j (gI L ((n : Int) + k)) < n := by
    intro j
    induction j using Nat.strongRecOn with
    | _ j ih =>
      intro hj
      apply Classical.byContradiction
      intro hge
      exact hno ⟨j, hj, by omega, fun i hi => ih i hi (by omega)⟩
  have h0 : ∀ j, j ≤ n → 0 ≤ it (nxt P L) j (gI L ((n : Int) + k)) := by
    intro j
    induction j with
    | zero => intro _; exact hL.lo _ (by omega) (by omega)
    | succ j ih =>
      intro hj
      have h1 := ih (by omega)
      have h2 := hall j (by omega)
      have h3 := hP.lo _ h1 h2
      have h4 := hP.hi _ h1 h2
      exact hL.lo _ h3 (by omega)
  have hinj : ∀ i j, i < j → j ≤ n → it (nxt P L) i (gI L ((n : Int) + k)) ≠ it (nxt P L) j (gI L ((n : Int) + k)) := by
    intro i
    induction i with
    | zero =>
      intro j hij hj e
      obtain ⟨j, rfl⟩ : ∃ m, j = m + 1 := ⟨j - 1, by omega⟩
      have h1 := h0 j (by omega)
      have h2 := hall j (by omega)
      have h3 := hP.lo _ h1 h2
      have h4 := hP.hi _ h1 h2
      have h5 : gI L (gI L ((n : Int) + k)) = gI L (gI L (gI P (it (nxt P L) j (gI L ((n : Int) + k))))) := congrArg (gI L) e
      rw [hL.inv _ (by omega) (by omega), hL.inv _ h3 (by omega)] at h5
      omega
    | succ i ih =>
      intro j hij hj e
      obtain ⟨j, rfl⟩ : ∃ m, j = m + 1 := ⟨j - 1, by omega⟩
      have h1 := h0 j (by omega)
      have h2 := hall j (by omega)
      have h1' := h0 i (by omega)
      have h2' := hall i (by omega)
      have h3 := hP.lo _ h1 h2
      have h4 := hP.hi _ h1 h2
      have h3' := hP.lo _ h1' h2'
      have h4' := hP.hi _ h1' h2'
      have h5 : gI L (gI L (gI P (it (nxt P L) i (gI L ((n : Int) + k))))) = gI L (gI L (gI P (it (nxt P L) j (gI L ((n : Int) + k))))) := congrArg (gI L) e
      rw [hL.inv _ h3' (by omega), hL.inv _ h3 (by omega)] at h5
      have h6 := congrArg (gI P) h5
      rw [hP.inv _ h1' h2', hP.inv _ h1 h2] at h6
      exact ih j (by omega) (by omega) h6
  have hnd : ((List.range (n + 1)).map fun j => (it (nxt P L) j (gI L ((n : Int) + k))).toNat).Nodup := by
    rw [List.nodup_iff_pairwise_ne, List.pairwise_map, List.pairwise_iff_getElem]
    intro i j hi hj hij e
    simp only [List.length_range, List.getElem_range] at hi hj e
    have a1 := h0 i (by omega)
    have a2 := h0 j (by omega)
    exact hinj i j hij (by omega) (by omega)
  have hl := pigeon n _ hnd (by
    intro x hx
    obtain ⟨j, hj, rfl⟩ := List.mem_map.1 hx
    have hj' := List.mem_range.1 hj
    have a1 := h0 j (by omega)
    have a2 := hall j (by omega)
    omega)
  simp at hl
  omega

end Knot

namespace Knot

/-- A step that can be walked back, over states that lie two and two on places below N. -/
structure Sys (α : Type) where
  V : α → Prop
  f : α → α
  b : α → α
  seg : α → Nat
  N : Nat
  start : Nat → α
  hf : ∀ a, V a → V (f a)
  hb : ∀ a, V a → V (b a)
  bb : ∀ a, V a → b (b a) = a
  fbf : ∀ a, V a → f (b (f a)) = b a
  seg_b : ∀ a, V a → seg (b a) = seg a
  seg_eq : ∀ a c, V a → V c → seg a = seg c → a = c ∨ a = b c
  seg_lt : ∀ a, V a → seg a < N
  start_V : ∀ k, k < N → V (start k)
  seg_start : ∀ k, k < N → seg (start k) = k
  b_ne : ∀ a, V a → b a ≠ a
  f_ne : ∀ a, V a → f a ≠ b a

namespace Sys
variable {α : Type} (S : Sys α)

theorem f_inj (a c : α) (ha : S.V a) (hc : S.V c) (h : S.f a = S.f c) : a = c := by
  have h1 := S.fbf a ha
  have h2 := S.fbf c hc
  rw [h] at h1
  have h3 : S.b a = S.b c := h1.symm.trans h2
  rw [← S.bb a ha, ← S.bb c hc, h3]

theorem itV (n : Nat) (a : α) (ha : S.V a) : S.V (it S.f n a) := it_mem S.f S.V S.hf n a ha

/-- Going back from n steps ahead. -/
theorem back (n : Nat) (a : α) (ha : S.V a) : it S.f n (S.b (it S.f n a)) = S.b a := by
  induction n with
  | zero => rfl
  | succ n ih =>
    show it S.f (n + 1) (S.b (S.f (it S.f n a))) = _
    rw [it_succ', S.fbf _ (S.itV n a ha)]
    exact ih

/-- The first return. -/
theorem first (a : α) (ha : S.V a) : ∃ T, 1 ≤ T ∧ T ≤ 2 * S.N ∧ it S.f T a = a ∧ ∀ i, 1 ≤ i → i < T → it S.f i a ≠ a := by
  classical
  -- a number of a state: even in one direction, odd in the other
  let code : α → Nat := fun a => 2 * S.seg a + if a = S.start (S.seg a) then 0 else 1
  have code_lt : ∀ a, S.V a → code a < 2 * S.N := by
    intro a ha
    have := S.seg_lt a ha
    show 2 * S.seg a + (if a = S.start (S.seg a) then 0 else 1) < 2 * S.N
    split <;> omega
  have code_inj : ∀ a c, S.V a → S.V c → code a = code c → a = c := by
    intro a c ha hc h
    replace h : 2 * S.seg a + (if a = S.start (S.seg a) then 0 else 1) = 2 * S.seg c + (if c = S.start (S.seg c) then 0 else 1) := h
    have hs : S.seg a = S.seg c := by split at h <;> split at h <;> omega
    rcases S.seg_eq a c ha hc hs with h1 | h1
    · exact h1
    · have hlt := S.seg_lt a ha
      have hst := S.start_V _ hlt
      rw [← hs] at h
      by_cases e1 : a = S.start (S.seg a)
      · by_cases e2 : c = S.start (S.seg a)
        · rw [e1, ← e2]
        · rw [if_pos e1, if_neg e2] at h; omega
      · by_cases e2 : c = S.start (S.seg a)
        · rw [if_neg e1, if_pos e2] at h; omega
        · rcases S.seg_eq a _ ha hst (S.seg_start _ hlt).symm with h3 | h3
          · exact absurd h3 e1
          · rcases S.seg_eq c _ hc hst (by rw [← hs]; exact (S.seg_start _ hlt).symm) with h4 | h4
            · exact absurd h4 e2
            · rw [h3, h4]
  exact comes_back S.f code (2 * S.N) S.V S.hf S.f_inj code_lt code_inj a ha

/-- No walk leads back on its own way. -/
theorem no_back (n : Nat) : ∀ a, S.V a → it S.f n a ≠ S.b a := by
  induction n using Nat.strongRecOn with
  | _ n ih =>
    intro a ha h
    match n, h with
    | 0, h => exact S.b_ne a ha h.symm
    | 1, h => exact S.f_ne a ha h
    | n + 2, h =>
      have h1 : S.f (it S.f (n + 1) a) = S.f (S.b (S.f a)) := by rw [S.fbf a ha]; exact h
      have h2 := S.f_inj _ _ (S.itV _ a ha) (S.hb _ (S.hf a ha)) h1
      rw [it_succ'] at h2
      exact ih n (by omega) (S.f a) (S.hf a ha) h2

/-- Two states of one walk on one place are one. -/
theorem same_seg (a : α) (ha : S.V a) (i j : Nat) (hij : i ≤ j) (h : S.seg (it S.f i a) = S.seg (it S.f j a)) : it S.f (j - i) a = a := by
  have hj : it S.f j a = it S.f (j - i) (it S.f i a) := by rw [← it_add]; congr 1; omega
  have hj' : it S.f j a = it S.f i (it S.f (j - i) a) := by rw [← it_add]; congr 1; omega
  rcases S.seg_eq _ _ (S.itV j a ha) (S.itV i a ha) h.symm with e | e
  · rw [hj'] at e
    exact it_inj S.f S.V S.hf S.f_inj i _ _ (S.itV _ a ha) ha e
  · rw [hj] at e
    exact absurd e (S.no_back _ _ (S.itV i a ha))

/-- Place t is met by the walk from place s. -/
def Rel (s t : Nat) : Prop := ∃ n, S.seg (it S.f n (S.start s)) = t

theorem rel_refl (s : Nat) (hs : s < S.N) : S.Rel s s := ⟨0, S.seg_start s hs⟩

theorem rel_lt {s t : Nat} (hs : s < S.N) (h : S.Rel s t) : t < S.N := by
  obtain ⟨n, rfl⟩ := h
  exact S.seg_lt _ (S.itV n _ (S.start_V s hs))

/-- From whatever state on place s the same places are met. -/
theorem rel_of (a : α) (ha : S.V a) (n : Nat) : S.Rel (S.seg a) (S.seg (it S.f n a)) := by
  have hst := S.start_V _ (S.seg_lt a ha)
  rcases S.seg_eq a _ ha hst (S.seg_start _ (S.seg_lt a ha)).symm with e | e
  · exact ⟨n, by rw [← e]⟩
  · -- a = b s, s the start: the way back from n steps ahead of a; it comes round
    obtain ⟨T, hT1, _, hT, _⟩ := S.first _ (S.itV n a ha)
    have hback := S.back n a ha
    have hbs : S.b a = S.start (S.seg a) := by
      have h2 := congrArg S.b e
      rwa [S.bb _ hst] at h2
    -- u := b (f^n a) leads in n steps to the start; so the start leads on to u
    have hu := S.hb _ (S.itV n a ha)
    obtain ⟨U, hU1, _, hU, _⟩ := S.first _ hu
    refine ⟨U * (n + 1) - n, ?_⟩
    have hmul : ∀ m, it S.f (U * m) (S.b (it S.f n a)) = S.b (it S.f n a) := by
      intro m
      induction m with
      | zero => rfl
      | succ m ih => rw [Nat.mul_succ, it_add, hU, ih]
    have hge : n ≤ U * (n + 1) := by
      calc n ≤ n + 1 := by omega
        _ = 1 * (n + 1) := by omega
        _ ≤ U * (n + 1) := Nat.mul_le_mul_right _ hU1
    have : it S.f (U * (n + 1) - n) (S.start (S.seg a)) = S.b (it S.f n a) := by
      rw [← hbs, ← hback, ← it_add, show U * (n + 1) - n + n = U * (n + 1) by omega]
      exact hmul _
    rw [this, S.seg_b _ (S.itV n a ha)]

theorem rel_symm {s t : Nat} (hs : s < S.N) (h : S.Rel s t) : S.Rel t s := by
  obtain ⟨n, rfl⟩ := h
  have hst := S.start_V s hs
  have hb := S.hb _ (S.itV n _ hst)
  have h1 := S.rel_of _ hb n
  rw [S.back n _ hst, S.seg_b _ (S.itV n _ hst), S.seg_b _ hst, S.seg_start s hs] at h1
  exact h1

theorem rel_trans {s t u : Nat} (hs : s < S.N) (h : S.Rel s t) (h' : S.Rel t u) : S.Rel s u := by
  obtain ⟨n, rfl⟩ := h
  obtain ⟨m, rfl⟩ := h'
  have hst := S.start_V s hs
  have hn := S.itV n _ hst
  -- the start of place t is f^n s or its back
  have htl := S.seg_lt _ hn
  have htt := S.start_V _ htl
  rcases S.seg_eq _ _ htt hn (S.seg_start _ htl) with e | e
  · rw [e, ← it_add]
    exact ⟨m + n, rfl⟩
  · rw [e]
    have h1 := S.rel_of _ (S.hb _ hn) (m)
    -- the walk from b (f^n s): after n steps it is at b s
    have h2 : S.Rel s (S.seg (S.b (it S.f n (S.start s)))) := by rw [S.seg_b _ hn]; exact ⟨n, rfl⟩
    -- b(f^n s) comes round: it = f^U-cycle; use rel_of at b s
    obtain ⟨U, hU1, _, hU, _⟩ := S.first _ (S.hb _ hn)
    have hmul : ∀ k, it S.f (U * k) (S.b (it S.f n (S.start s))) = S.b (it S.f n (S.start s)) := by
      intro k
      induction k with
      | zero => rfl
      | succ k ih => rw [Nat.mul_succ, it_add, hU, ih]
    have hge : n ≤ U * (n + 1) := by
      calc n ≤ n + 1 := by omega
        _ = 1 * (n + 1) := by omega
        _ ≤ U * (n + 1) := Nat.mul_le_mul_right _ hU1
    have h3 : it S.f (U * (n + 1) - n) (S.b (S.start s)) = S.b (it S.f n (S.start s)) := by
      rw [← S.back n _ hst, ← it_add, show U * (n + 1) - n + n = U * (n + 1) by omega]
      exact hmul _
    have h4 := S.rel_of _ (S.hb _ hst) (m + (U * (n + 1) - n))
    rw [it_add, h3, S.seg_b _ hst, S.seg_start s hs] at h4
    exact h4

end Sys
end Knot

namespace Knot

/-- The states from a on, until the step leads to a0. -/
def orbF {α : Type} [DecidableEq α] (f : α → α) (a0 : α) : Nat → α → List α
  | 0, _ => []
  | n + 1, a => a :: (if f a = a0 then [] else orbF f a0 n (f a))

theorem orbF_eq {α : Type} [DecidableEq α] (f : α → α) (a0 : α) (T : Nat) (hT : it f T a0 = a0) (hmin : ∀ i, 1 ≤ i → i < T → it f i a0 ≠ a0) :
    ∀ (n i : Nat), i < T → T - i ≤ n → orbF f a0 n (it f i a0) = (List.range' i (T - i)).map fun j => it f j a0 := by
  intro n
  induction n with
  | zero => intro i h1 h2; omega
  | succ n ih =>
    intro i h1 h2
    have hc : T - i = (T - (i + 1)) + 1 := by omega
    rw [orbF, hc, List.range'_succ, List.map_cons]
    congr 1
    by_cases he : i + 1 = T
    · have e1 : f (it f i a0) = a0 := by
        have e2 : it f (i + 1) a0 = a0 := by rw [he]; exact hT
        exact e2
      rw [if_pos e1, he]
      simp
    · rw [if_neg (show f (it f i a0) ≠ a0 from hmin (i + 1) (by omega) (by omega))]
      exact ih (i + 1) (by omega) (by omega)

/-- Marks: the number c at all places of a list. -/
def mark (c : Int) (own : List Int) (ss : List Nat) : List Int := ss.foldl (fun o s => o.set s c) own

theorem mark_length (c : Int) (ss : List Nat) : ∀ own, (mark c own ss).length = own.length := by
  induction ss with
  | nil => intro own; rfl
  | cons a t ih => intro own; show (mark c (own.set a c) t).length = _; rw [ih]; simp

theorem mark_getD (c : Int) (ss : List Nat) : ∀ own (k : Nat) (d : Int), k < own.length → (mark c own ss).getD k d = if k ∈ ss then c else own.getD k d := by
  induction ss with
  | nil => intro own k d hk; simp [mark]
  | cons a t ih =>
    intro own k d hk
    show (mark c (own.set a c) t).getD k d = _
    rw [ih _ _ _ (by simpa using hk)]
    by_cases h1 : k ∈ t
    · simp [h1]
    · by_cases h2 : k = a
      · subst h2; simp [h1, List.getD, hk]
      · simp [h1, h2, List.getD, Ne.symm h2]

variable {α : Type} [DecidableEq α]

/-- All curves that begin at a place below k, and the curve of each place. -/
def traceTo (f : α → α) (seg : α → Nat) (start : Nat → α) (N : Nat) : Nat → List (List α) × List Int
  | 0 => ([], List.replicate N (-1))
  | k + 1 =>
    let r := traceTo f seg start N k
    if 0 ≤ r.2.getD k 0 then r
    else
      let c := orbF f (start k) (2 * N) (start k)
      (r.1 ++ [c], mark r.1.length r.2 (c.map seg))

namespace Sys
variable (S : Sys α)

def traceTo (k : Nat) := Knot.traceTo S.f S.seg S.start S.N k

theorem orb_mem (k : Nat) (hk : k < S.N) (t : Nat) : t ∈ (orbF S.f (S.start k) (2 * S.N) (S.start k)).map S.seg ↔ S.Rel k t := by
  obtain ⟨T, h1, h2, h3, h4⟩ := S.first _ (S.start_V k hk)
  have he := orbF_eq S.f (S.start k) T h3 h4 (2 * S.N) 0 (by omega) (by omega)
  simp only [it] at he
  rw [he]
  simp only [List.map_map, List.mem_map, List.mem_range'_1, Function.comp]
  constructor
  · rintro ⟨j, _, rfl⟩; exact ⟨j, rfl⟩
  · rintro ⟨n, rfl⟩
    refine ⟨n % T, ⟨by omega, by have := Nat.mod_lt n (show 0 < T by omega); omega⟩, ?_⟩
    have hmul : ∀ m, it S.f (T * m) (S.start k) = S.start k := by
      intro m
      induction m with
      | zero => rfl
      | succ m ih => rw [Nat.mul_succ, it_add, h3, ih]
    have hd := Nat.mod_add_div n T
    have : it S.f n (S.start k) = it S.f (n % T) (S.start k) := by
      conv => lhs; rw [← hd]
      rw [it_add, hmul]
    rw [this]

/-- What the tracing has found when it has come to place k. -/
structure Traced (k : Nat) (r : List (List α) × List Int) (reps : List Nat) : Prop where
  len : r.1.length = reps.length
  olen : r.2.length = S.N
  lt : ∀ s ∈ reps, s < k
  apart : reps.Pairwise fun s t => ¬ S.Rel s t
  cur : ∀ (i : Nat) s, reps[i]? = some s → r.1[i]? = some (orbF S.f (S.start s) (2 * S.N) (S.start s))
  own : ∀ t, t < S.N → (r.2.getD t 0 = -1 ∧ ∀ s ∈ reps, ¬ S.Rel s t) ∨ ∃ (i : Nat) (s : Nat), reps[i]? = some s ∧ S.Rel s t ∧ r.2.getD t 0 = (i : Int)
  all : ∀ t, t < k → ∃ s ∈ reps, S.Rel s t

theorem traced (k : Nat) (hk : k ≤ S.N) : ∃ reps, S.Traced k (S.traceTo k) reps := by
  induction k with
  | zero => exact ⟨[], ⟨rfl, by simp [traceTo, Knot.traceTo], by simp, by simp, by simp, fun t ht => .inl ⟨by simp [traceTo, Knot.traceTo, List.getD, ht], by simp⟩, fun t ht => by omega⟩⟩
  | succ k ih =>
    obtain ⟨reps, h⟩ := ih (by omega)
    have hkN : k < S.N := by omega
    unfold traceTo
    rw [Knot.traceTo]
    simp only []
    have hr : Knot.traceTo S.f S.seg S.start S.N k = S.traceTo k := rfl
    rw [hr]
    by_cases hp : 0 ≤ (S.traceTo k).2.getD k 0
    · rw [if_pos hp]
      refine ⟨reps, ⟨h.len, h.olen, fun s hs => by have := h.lt s hs; omega, h.apart, h.cur, h.own, fun t ht => ?_⟩⟩
      by_cases ht' : t < k
      · exact h.all t ht'
      · have : t = k := by omega
        subst this
        rcases h.own t hkN with ⟨e, _⟩ | ⟨i, s, hi, hs, _⟩
        · omega
        · exact ⟨s, List.mem_of_getElem? hi, hs⟩
    · rw [if_neg hp]
      have hno : ∀ s ∈ reps, ¬ S.Rel s k := by
        rcases h.own k hkN with ⟨_, e⟩ | ⟨i, s, _, _, e⟩
        · exact e
        · exfalso; omega
      have hkk := S.rel_refl k hkN
      refine ⟨reps ++ [k], ⟨by simp [h.len], by simp [mark_length, h.olen], ?_, ?_, ?_, ?_, ?_⟩⟩
      · intro s hs
        rcases List.mem_append.1 hs with h1 | h1
        · have := h.lt s h1; omega
        · simp at h1; omega
      · rw [List.pairwise_append]
        exact ⟨h.apart, by simp, fun a ha b hb => by simp at hb; subst hb; exact hno a ha⟩
      · intro i s hi
        rw [List.getElem?_append] at hi ⊢
        rw [h.len]
        split at hi
        · rename_i hlt; rw [if_pos hlt]; exact h.cur i s hi
        · rename_i hlt
          rw [if_neg hlt]
          have : i - reps.length = 0 := by
            rcases Nat.eq_zero_or_pos (i - reps.length) with h0 | h0
            · exact h0
            · rw [List.getElem?_eq_none (by simp; omega)] at hi; cases hi
          rw [this] at hi ⊢
          simp at hi
          subst hi
          rfl
      · intro t ht
        have hm := mark_getD ((S.traceTo k).1.length : Int) ((orbF S.f (S.start k) (2 * S.N) (S.start k)).map S.seg) (S.traceTo k).2 t 0 (by rw [h.olen]; exact ht)
        simp only [] at hm ⊢
        rw [hm]
        by_cases hrt : S.Rel k t
        · rw [if_pos ((S.orb_mem k hkN t).2 hrt)]
          right
          refine ⟨reps.length, k, by simp, hrt, by rw [h.len]⟩
        · rw [if_neg (fun hh => hrt ((S.orb_mem k hkN t).1 hh))]
          rcases h.own t ht with ⟨e1, e2⟩ | ⟨i, s, hi, hs, e⟩
          · left
            refine ⟨e1, fun s hs => ?_⟩
            rcases List.mem_append.1 hs with h1 | h1
            · exact e2 s h1
            · simp at h1; subst h1; exact hrt
          · right
            refine ⟨i, s, ?_, hs, e⟩
            rw [List.getElem?_append_left (by exact (List.getElem?_eq_some_iff.1 hi).1)]
            exact hi
      · intro t ht
        by_cases ht' : t < k
        · obtain ⟨s, hs, hr⟩ := h.all t ht'
          exact ⟨s, by simp [hs], hr⟩
        · have : t = k := by omega
          subst this
          exact ⟨t, by simp, hkk⟩

/-- The curves are as many as the classes. -/
theorem traced_reps {reps : List Nat} {r : List (List α) × List Int} (h : S.Traced S.N r reps) : Reps S.Rel (· < S.N) reps :=
  ⟨h.lt, h.apart, fun t ht => by
    obtain ⟨s, hs, hr⟩ := h.all t ht
    exact ⟨s, hs, S.rel_symm (h.lt s hs) hr⟩⟩

/-- Two places are of one curve if and only if they are related. -/
theorem traced_same {reps : List Nat} {r : List (List α) × List Int} (h : S.Traced S.N r reps) {a b : Nat} (ha : a < S.N) (hb : b < S.N) :
    r.2.getD a 0 = r.2.getD b 0 ↔ S.Rel a b := by
  obtain ⟨i, s, hi, hs, e⟩ : ∃ (i : Nat) (s : Nat), reps[i]? = some s ∧ S.Rel s a ∧ r.2.getD a 0 = (i : Int) := by
    rcases h.own a ha with ⟨_, e⟩ | h'
    · obtain ⟨s, hs, hr⟩ := h.all a ha; exact absurd hr (e s hs)
    · exact h'
  obtain ⟨j, t, hj, ht, e'⟩ : ∃ (i : Nat) (s : Nat), reps[i]? = some s ∧ S.Rel s b ∧ r.2.getD b 0 = (i : Int) := by
    rcases h.own b hb with ⟨_, e⟩ | h'
    · obtain ⟨s, hs, hr⟩ := h.all b hb; exact absurd hr (e s hs)
    · exact h'
  have hsl := h.lt s (List.mem_of_getElem? hi)
  have htl := h.lt t (List.mem_of_getElem? hj)
  constructor
  · intro hab
    have : i = j := by omega
    subst this
    rw [hi] at hj
    cases hj
    exact S.rel_trans ha (S.rel_symm hsl hs) ht
  · intro hab
    have hst : S.Rel s t := S.rel_trans hsl hs (S.rel_trans ha hab (S.rel_symm htl ht))
    have hts : S.Rel t s := S.rel_symm hsl hst
    rw [e, e']
    have hpw := List.pairwise_iff_getElem.1 h.apart
    obtain ⟨hi1, hi2⟩ := List.getElem?_eq_some_iff.1 hi
    obtain ⟨hj1, hj2⟩ := List.getElem?_eq_some_iff.1 hj
    rcases Nat.lt_trichotomy i j with hlt | heq | hgt
    · exact absurd (by rw [hi2, hj2]; exact hst) (hpw i j hi1 hj1 hlt)
    · rw [heq]
    · exact absurd (by rw [hi2, hj2]; exact hts) (hpw j i hj1 hi1 hgt)

end Sys
end Knot

namespace Knot

structure Pan where
  W : Int
  H : Int
  B : List Int
  deriving DecidableEq

structure Wk where
  X : Int
  Y : Int
  dx : Int
  dy : Int
  deriving DecidableEq

def inner (w h : Int) : Int := w * (h - 1) + h * (w - 1)

structure Ok (p : Pan) : Prop where
  w1 : 1 ≤ p.W
  w8 : p.W ≤ 8
  h1 : 1 ≤ p.H
  h8 : p.H ≤ 8
  len : (p.B.length : Int) = inner p.W p.H
  kind : ∀ k ∈ p.B, 0 ≤ k ∧ k ≤ 2

theorem ok_conj (p : Pan) : Ok p ↔ 1 ≤ p.W ∧ p.W ≤ 8 ∧ 1 ≤ p.H ∧ p.H ≤ 8 ∧ (p.B.length : Int) = inner p.W p.H ∧ ∀ k ∈ p.B, 0 ≤ k ∧ k ≤ 2 :=
  ⟨fun h => ⟨h.w1, h.w8, h.h1, h.h8, h.len, h.kind⟩, fun ⟨a, b, c, d, e, f⟩ => ⟨a, b, c, d, e, f⟩⟩
instance (p : Pan) : Decidable (Ok p) := decidable_of_iff _ (ok_conj p).symm
def Has (p : Pan) (x y : Int) : Prop := 0 ≤ x ∧ x ≤ 2 * p.W ∧ 0 ≤ y ∧ y ≤ 2 * p.H ∧ (x + y) % 2 = 1
def Edge (p : Pan) (x y : Int) : Prop := x = 0 ∨ x = 2 * p.W ∨ y = 0 ∨ y = 2 * p.H
instance (p : Pan) (x y : Int) : Decidable (Has p x y) := by unfold Has; infer_instance
instance (p : Pan) (x y : Int) : Decidable (Edge p x y) := by unfold Edge; infer_instance

/-- The number of the inner points in the rows before y. -/
def rowOf (w y : Int) : Int := y / 2 * (w - 1) + (y - 1) / 2 * w
def num (p : Pan) (x y : Int) : Int := rowOf p.W y + (x - 1) / 2
def brk (p : Pan) (x y : Int) : Int := if Edge p x y then 0 else p.B.getD (num p x y).toNat 0

def stepW (p : Pan) (w : Wk) : Wk :=
  let x := w.X + w.dx
  let y := w.Y + w.dy
  let k := brk p x y
  ⟨x, y, if x = 0 ∨ x = 2 * p.W ∨ k = 1 then -w.dx else w.dx, if y = 0 ∨ y = 2 * p.H ∨ k = 2 then -w.dy else w.dy⟩
def backW (w : Wk) : Wk := ⟨w.X + w.dx, w.Y + w.dy, -w.dx, -w.dy⟩
def segI (p : Pan) (w : Wk) : Int := min w.X (w.X + w.dx) * (2 * p.H) + min w.Y (w.Y + w.dy)
def startI (p : Pan) (k : Int) : Wk :=
  let x := k / (2 * p.H)
  let y := k % (2 * p.H)
  if (x + y) % 2 = 1 then ⟨x, y, 1, 1⟩ else ⟨x, y + 1, 1, -1⟩

structure OkW (p : Pan) (w : Wk) : Prop where
  dx : w.dx = 1 ∨ w.dx = -1
  dy : w.dy = 1 ∨ w.dy = -1
  here : Has p w.X w.Y
  there : Has p (w.X + w.dx) (w.Y + w.dy)

theorem lin_lt {n x y m : Int} (hx : x < m) (hy : y < n) (hn : 0 < n) : x * n + y < m * n := by
  have h : x * n ≤ (m - 1) * n := Int.mul_le_mul_of_nonneg_right (by omega) (by omega)
  rw [Int.sub_mul] at h
  omega
theorem lin_nonneg {n x y : Int} (hx : 0 ≤ x) (hy : 0 ≤ y) (hn : 0 ≤ n) : 0 ≤ x * n + y := by
  have := Int.mul_nonneg hx hn
  omega
theorem lin_div {n x y : Int} (h0 : 0 ≤ y) (h1 : y < n) : (x * n + y) / n = x := by
  rw [Int.add_comm, Int.add_mul_ediv_right _ _ (by omega), Int.ediv_eq_zero_of_lt h0 h1]; omega
theorem lin_mod {n x y : Int} (h0 : 0 ≤ y) (h1 : y < n) : (x * n + y) % n = y := by
  rw [Int.add_comm, Int.add_mul_emod_self_right, Int.emod_eq_of_lt h0 h1]
theorem lin_inj {n x y x' y' : Int} (h0 : 0 ≤ y) (h1 : y < n) (h0' : 0 ≤ y') (h1' : y' < n) (h : x * n + y = x' * n + y') : x = x' ∧ y = y' :=
  ⟨by rw [← lin_div h0 h1 (x := x), h, lin_div h0' h1'], by rw [← lin_mod h0 h1 (x := x), h, lin_mod h0' h1']⟩

section
variable {p : Pan}

theorem okW_mk {X Y dx dy : Int} (h1 : dx = 1 ∨ dx = -1) (h2 : dy = 1 ∨ dy = -1) (h3 : Has p X Y) (h4 : Has p (X + dx) (Y + dy)) : OkW p ⟨X, Y, dx, dy⟩ := ⟨h1, h2, h3, h4⟩

theorem OkW.step {w : Wk} (hp : Ok p) (h : OkW p w) : OkW p (stepW p w) := by
  obtain ⟨h1, h2, ⟨a1, a2, a3, a4, a5⟩, ⟨b1, b2, b3, b4, b5⟩⟩ := h
  obtain ⟨X, Y, dx, dy⟩ := w
  have := hp.w1
  have := hp.h1
  simp only [stepW] at *
  generalize brk p (X + dx) (Y + dy) = k
  refine okW_mk ?_ ?_ ⟨b1, b2, b3, b4, b5⟩ ?_
  · split <;> omega
  · split <;> omega
  · unfold Has
    split <;> split <;> omega

theorem OkW.back {w : Wk} (h : OkW p w) : OkW p (backW w) := by
  obtain ⟨h1, h2, h3, h4⟩ := h
  obtain ⟨X, Y, dx, dy⟩ := w
  simp only [backW] at *
  refine okW_mk (by omega) (by omega) h4 ?_
  rw [show X + dx + -dx = X by omega, show Y + dy + -dy = Y by omega]
  exact h3

theorem back_back (w : Wk) : backW (backW w) = w := by
  unfold backW
  cases w
  simp
  omega

theorem step_back_step (w : Wk) : stepW p (backW (stepW p w)) = backW w := by
  obtain ⟨X, Y, dx, dy⟩ := w
  have e1 : ∀ c : Prop, [Decidable c] → X + dx + (if c then -dx else dx) + -(if c then -dx else dx) = X + dx := fun c _ => by split <;> omega
  have e2 : ∀ c : Prop, [Decidable c] → Y + dy + (if c then -dy else dy) + -(if c then -dy else dy) = Y + dy := fun c _ => by split <;> omega
  simp only [stepW, backW, e1, e2]
  congr 1
  · split <;> simp [*]
  · split <;> simp [*]

theorem seg_back (w : Wk) : segI p (backW w) = segI p w := by
  obtain ⟨X, Y, dx, dy⟩ := w
  simp only [segI, backW]
  rw [show X + dx + -dx = X by omega, show Y + dy + -dy = Y by omega, Int.min_comm (X + dx), Int.min_comm (Y + dy)]

theorem seg_bounds {w : Wk} (h : OkW p w) : 0 ≤ segI p w ∧ segI p w < 4 * p.W * p.H := by
  obtain ⟨h1, h2, ⟨a1, a2, a3, a4, a5⟩, ⟨b1, b2, b3, b4, b5⟩⟩ := h
  unfold segI
  constructor
  · exact lin_nonneg (by omega) (by omega) (by omega)
  · have h := lin_lt (n := 2 * p.H) (x := min w.X (w.X + w.dx)) (y := min w.Y (w.Y + w.dy)) (m := 2 * p.W) (by omega) (by omega) (by omega)
    rw [show 4 * p.W * p.H = 2 * p.W * (2 * p.H) by rw [Int.mul_assoc 2, Int.mul_left_comm p.W, ← Int.mul_assoc 2 2, Int.mul_assoc 4]; rfl]
    exact h

theorem seg_same {a c : Wk} (ha : OkW p a) (hc : OkW p c) (h : segI p a = segI p c) : a = c ∨ a = backW c := by
  obtain ⟨h1, h2, ⟨a1, a2, a3, a4, a5⟩, ⟨b1, b2, b3, b4, b5⟩⟩ := ha
  obtain ⟨h1', h2', ⟨a1', a2', a3', a4', a5'⟩, ⟨b1', b2', b3', b4', b5'⟩⟩ := hc
  unfold segI at h
  obtain ⟨e1, e2⟩ := lin_inj (by omega) (by omega) (by omega) (by omega) h
  obtain ⟨X, Y, dx, dy⟩ := a
  obtain ⟨X', Y', dx', dy'⟩ := c
  simp only [backW, Wk.mk.injEq] at *
  rcases h1 with rfl | rfl <;> rcases h2 with rfl | rfl <;> rcases h1' with rfl | rfl <;> rcases h2' with rfl | rfl <;> omega

theorem start_ok (hp : Ok p) {k : Int} (h0 : 0 ≤ k) (h1 : k < 4 * p.W * p.H) : OkW p (startI p k) ∧ segI p (startI p k) = k := by
  have hH := hp.h1
  have hW := hp.w1
  have hm0 := Int.emod_nonneg k (show 2 * p.H ≠ 0 by omega)
  have hm1 := Int.emod_lt_of_pos k (show 0 < 2 * p.H by omega)
  have hd := Int.mul_ediv_add_emod k (2 * p.H)
  have hx0 : 0 ≤ k / (2 * p.H) := Int.ediv_nonneg h0 (by omega)
  have hx1 : k / (2 * p.H) < 2 * p.W := by
    refine Int.ediv_lt_of_lt_mul (by omega) ?_
    rw [show 2 * p.W * (2 * p.H) = 4 * p.W * p.H by rw [Int.mul_assoc 2, Int.mul_left_comm p.W, ← Int.mul_assoc 2 2, Int.mul_assoc 4]; rfl]
    exact h1
  unfold startI
  simp only []
  generalize k / (2 * p.H) = x at *
  generalize k % (2 * p.H) = y at *
  split
  · rename_i hpar
    refine ⟨okW_mk (.inl rfl) (.inl rfl) ⟨hx0, by omega, hm0, by omega, hpar⟩ ⟨by omega, by omega, by omega, by omega, by omega⟩, ?_⟩
    show min _ (_ + 1) * _ + min _ (_ + 1) = k
    rw [Int.min_eq_left (by omega), Int.min_eq_left (by omega), Int.mul_comm]
    omega
  · rename_i hpar
    refine ⟨okW_mk (.inl rfl) (.inr rfl) ⟨hx0, by omega, by omega, by omega, by omega⟩ ⟨by omega, by omega, by omega, by omega, by omega⟩, ?_⟩
    show min x (x + 1) * _ + min (y + 1) (y + 1 + -1) = k
    rw [Int.min_eq_left (by omega), Int.min_eq_right (by omega), Int.mul_comm]
    omega

theorem back_ne {w : Wk} (h : OkW p w) : backW w ≠ w := by
  obtain ⟨X, Y, dx, dy⟩ := w
  have := h.dx
  simp only [backW, ne_eq, Wk.mk.injEq] at *
  omega

theorem step_ne_back {w : Wk} (h : OkW p w) : stepW p w ≠ backW w := by
  obtain ⟨h1, h2, _, ⟨b1, b2, b3, b4, b5⟩⟩ := h
  obtain ⟨X, Y, dx, dy⟩ := w
  simp only [stepW, backW, ne_eq, Wk.mk.injEq] at *
  rintro ⟨_, _, e1, e2⟩
  split at e1
  · split at e2
    · rename_i c1 c2
      have hk : brk p (X + dx) (Y + dy) = if Edge p (X + dx) (Y + dy) then 0 else p.B.getD (num p (X + dx) (Y + dy)).toNat 0 := rfl
      by_cases he : Edge p (X + dx) (Y + dy)
      · rw [if_pos he] at hk
        rw [hk] at c1 c2
        omega
      · simp only [Edge] at he
        omega
    · omega
  · omega

/-- The walkers of a valid panel. -/
def sys (p : Pan) (hp : Ok p) : Sys Wk where
  V := OkW p
  f := stepW p
  b := backW
  seg := fun w => (segI p w).toNat
  N := (4 * p.W * p.H).toNat
  start := fun k => startI p k
  hf := fun _ h => h.step hp
  hb := fun _ h => h.back
  bb := fun a _ => back_back a
  fbf := fun a _ => step_back_step a
  seg_b := fun a _ => by rw [seg_back]
  seg_eq := fun a c ha hc h => seg_same ha hc (by
    have := seg_bounds ha
    have := seg_bounds hc
    omega)
  seg_lt := fun a ha => by have := seg_bounds ha; omega
  start_V := fun k hk => (start_ok hp (by omega) (by omega)).1
  seg_start := fun k hk => by rw [(start_ok hp (k := (k : Int)) (by omega) (by omega)).2]; omega
  b_ne := fun _ h => back_ne h
  f_ne := fun _ h => step_ne_back h
end
end Knot

namespace Knot

/-! ### The inner points of a panel and their numbers -/

def ptY (W k : Int) : Int := if k % (2 * W - 1) < W - 1 then 2 * (k / (2 * W - 1)) + 1 else 2 * (k / (2 * W - 1)) + 2
def ptX (W k : Int) : Int := if k % (2 * W - 1) < W - 1 then 2 * (k % (2 * W - 1)) + 2 else 2 * (k % (2 * W - 1) - (W - 1)) + 1

theorem eight_cases {W : Int} (h1 : 1 ≤ W) (h8 : W ≤ 8) : W = 1 ∨ W = 2 ∨ W = 3 ∨ W = 4 ∨ W = 5 ∨ W = 6 ∨ W = 7 ∨ W = 8 := by omega

section
variable {W H : Int} (w1 : 1 ≤ W) (w8 : W ≤ 8)
include w1 w8
theorem pt_in {k : Int} (_k0 : 0 ≤ k) (k1 : k < inner W H) : 1 ≤ ptY W k ∧ ptY W k < 2 * H ∧ 1 ≤ ptX W k ∧ ptX W k < 2 * W ∧ (ptX W k + ptY W k) % 2 = 1 := by
  rcases eight_cases w1 w8 with rfl | rfl | rfl | rfl | rfl | rfl | rfl | rfl <;> simp only [ptX, ptY, inner] at * <;> split <;> omega
theorem pt_num {k : Int} (_k0 : 0 ≤ k) : rowOf W (ptY W k) + (ptX W k - 1) / 2 = k := by
  rcases eight_cases w1 w8 with rfl | rfl | rfl | rfl | rfl | rfl | rfl | rfl <;> simp only [ptX, ptY, rowOf] at * <;> split <;> omega
theorem num_pt {x y : Int} (y0 : 1 ≤ y) (y1 : y < 2 * H) (x0 : 1 ≤ x) (x1 : x < 2 * W) (hp : (x + y) % 2 = 1) :
    0 ≤ rowOf W y + (x - 1) / 2 ∧ rowOf W y + (x - 1) / 2 < inner W H ∧ ptX W (rowOf W y + (x - 1) / 2) = x ∧ ptY W (rowOf W y + (x - 1) / 2) = y := by
  generalize hn : rowOf W y + (x - 1) / 2 = n
  rcases (show (∃ q t : Int, y = 2 * q + 1 ∧ x = 2 * t + 2 ∧ 0 ≤ q ∧ 0 ≤ t) ∨ (∃ q t : Int, y = 2 * q + 2 ∧ x = 2 * t + 1 ∧ 0 ≤ q ∧ 0 ≤ t) from by
    by_cases h : y % 2 = 1
    · exact .inl ⟨y / 2, x / 2 - 1, by omega, by omega, by omega, by omega⟩
    · exact .inr ⟨y / 2 - 1, x / 2, by omega, by omega, by omega, by omega⟩) with ⟨q, t, rfl, rfl, q0, t0⟩ | ⟨q, t, rfl, rfl, q0, t0⟩
  · have hn' : n = q * (2 * W - 1) + t := by
      rw [← hn]
      rcases eight_cases w1 w8 with rfl | rfl | rfl | rfl | rfl | rfl | rfl | rfl <;> simp only [rowOf] <;> omega
    clear hn
    have e1 : n / (2 * W - 1) = q := by rw [hn']; exact lin_div t0 (by omega)
    have e2 : n % (2 * W - 1) = t := by rw [hn']; exact lin_mod t0 (by omega)
    unfold ptX ptY
    rw [e1, e2, if_pos (by omega), if_pos (by omega)]
    refine ⟨?_, ?_, rfl, rfl⟩
    · rw [hn']; exact lin_nonneg q0 t0 (by omega)
    · rcases eight_cases w1 w8 with rfl | rfl | rfl | rfl | rfl | rfl | rfl | rfl <;> simp only [inner] <;> omega
  · have hn' : n = q * (2 * W - 1) + (W - 1 + t) := by
      rw [← hn]
      rcases eight_cases w1 w8 with rfl | rfl | rfl | rfl | rfl | rfl | rfl | rfl <;> simp only [rowOf] <;> omega
    clear hn
    have e1 : n / (2 * W - 1) = q := by rw [hn']; exact lin_div (by omega) (by omega)
    have e2 : n % (2 * W - 1) = W - 1 + t := by rw [hn']; exact lin_mod (by omega) (by omega)
    unfold ptX ptY
    rw [e1, e2, if_neg (by omega), if_neg (by omega)]
    refine ⟨?_, ?_, by omega, rfl⟩
    · rw [hn']; exact lin_nonneg q0 (by omega) (by omega)
    · rcases eight_cases w1 w8 with rfl | rfl | rfl | rfl | rfl | rfl | rfl | rfl <;> simp only [inner] <;> omega
theorem row_bd {y : Int} (_y0 : 1 ≤ y) (y1 : y ≤ 16) : 0 ≤ rowOf W y ∧ rowOf W y ≤ 200 := by
  rcases eight_cases w1 w8 with rfl | rfl | rfl | rfl | rfl | rfl | rfl | rfl <;> simp only [rowOf] at * <;> omega
theorem row_succ {y : Int} (_y0 : 1 ≤ y) : rowOf W (y + 1) = rowOf W y + W - y % 2 := by
  rcases eight_cases w1 w8 with rfl | rfl | rfl | rfl | rfl | rfl | rfl | rfl <;> simp only [rowOf] at * <;> omega
theorem row_le {y z : Int} (_y0 : 1 ≤ y) (h : y ≤ z) : rowOf W y ≤ rowOf W z := by
  rcases eight_cases w1 w8 with rfl | rfl | rfl | rfl | rfl | rfl | rfl | rfl <;> simp only [rowOf] at * <;> omega
theorem row_of_pt {k : Int} (k0 : 0 ≤ k) : rowOf W (ptY W k) ≤ k ∧ k < rowOf W (ptY W k + 1) ∧ ptX W k = 2 * (k - rowOf W (ptY W k)) + 1 + ptY W k % 2 ∧ 1 ≤ ptY W k := by
  rcases eight_cases w1 w8 with rfl | rfl | rfl | rfl | rfl | rfl | rfl | rfl <;> simp only [ptX, ptY, rowOf] at * <;> split <;> refine ⟨by omega, by omega, by omega, by omega⟩
theorem row_end : rowOf W (2 * H) = inner W H := by
  rcases eight_cases w1 w8 with rfl | rfl | rfl | rfl | rfl | rfl | rfl | rfl <;> simp only [rowOf, inner] at * <;> omega
theorem row_one : rowOf W 1 = 0 := by
  rcases eight_cases w1 w8 with rfl | rfl | rfl | rfl | rfl | rfl | rfl | rfl <;> simp only [rowOf] at * <;> omega
end

/-- The first points, one after the other. -/
def ptsTo (W : Int) : Nat → List Int
  | 0 => []
  | k + 1 => ptsTo W k ++ [ptX W k, ptY W k]
theorem ptsTo_length (W : Int) : ∀ k, (ptsTo W k).length = 2 * k
  | 0 => rfl
  | k + 1 => by rw [ptsTo, List.length_append, ptsTo_length W k]; simp; omega
theorem ptsTo_get (W : Int) : ∀ (n k : Nat), k < n → gI (ptsTo W n) ((2 * k : Nat) : Int) = ptX W k ∧ gI (ptsTo W n) ((2 * k + 1 : Nat) : Int) = ptY W k
  | 0, k, h => by omega
  | n + 1, k, h => by
    have hl := ptsTo_length W n
    by_cases hk : k < n
    · obtain ⟨h1, h2⟩ := ptsTo_get W n k hk
      rw [← h1, ← h2]
      constructor
      · show (ptsTo W n ++ _).getD _ _ = (ptsTo W n).getD _ _
        simp only [Int.toNat_natCast, List.getD]
        rw [List.getElem?_append_left (by omega)]
      · show (ptsTo W n ++ _).getD _ _ = (ptsTo W n).getD _ _
        simp only [Int.toNat_natCast, List.getD]
        rw [List.getElem?_append_left (by omega)]
    · have e : k = n := by omega
      subst e
      constructor
      · show (ptsTo W k ++ _).getD _ _ = _
        simp only [Int.toNat_natCast, List.getD]
        rw [List.getElem?_append_right (by omega), hl]
        simp
      · show (ptsTo W k ++ _).getD _ _ = _
        simp only [Int.toNat_natCast, List.getD]
        rw [List.getElem?_append_right (by omega), hl]
        simp

/-- What the panel holds at an inner point is what stands at the point's number. -/
theorem not_edge {p : Pan} {x y : Int} (h : Has p x y) (he : ¬ Edge p x y) : 1 ≤ y ∧ y < 2 * p.H ∧ 1 ≤ x ∧ x < 2 * p.W := by
  obtain ⟨a, b, c, d, _⟩ := h
  unfold Edge at he
  omega
end Knot

namespace Knot

/-! ### The walk of a walker, step by step -/

/-- The first states of a walk. -/
def trk (p : Pan) (a : Wk) (n : Nat) : List Wk := (List.range n).map fun j => it (stepW p) j a
theorem trk_length (p : Pan) (a : Wk) (n : Nat) : (trk p a n).length = n := by simp [trk]
theorem trk_succ (p : Pan) (a : Wk) (n : Nat) : trk p a (n + 1) = trk p a n ++ [it (stepW p) n a] := by simp [trk, List.range_succ]
/-- The points at which walkers stand, one after the other (X, Y, X, Y, ..). -/
def flatP (l : List Wk) : List Int := l.flatMap fun a => [a.X, a.Y]
theorem flatP_append (l m : List Wk) : flatP (l ++ m) = flatP l ++ flatP m := by simp [flatP]
def segsP (p : Pan) (l : List Wk) : List Int := l.map (segI p)
/-- How many segments; the tracing of a panel. -/
def segN (p : Pan) : Nat := (4 * p.W * p.H).toNat
def traceP (p : Pan) (k : Nat) : List (List Wk) × List Int := traceTo (stepW p) (fun w => (segI p w).toNat) (fun k => startI p k) (segN p) k
theorem traceP_sys {p : Pan} (hp : Ok p) (k : Nat) : (sys p hp).traceTo k = traceP p k := rfl
theorem segN_le {p : Pan} (hp : Ok p) : segN p ≤ 256 := by
  show (4 * p.W * p.H).toNat ≤ 256
  have := hp.w1
  have := hp.w8
  have := hp.h1
  have := hp.h8
  have h : 4 * p.W * p.H ≤ 4 * 8 * 8 := Int.mul_le_mul (by omega) (by omega) (by omega) (by omega)
  omega
/-- The first return of a walk; the states up to it are the curve. -/
theorem trk_orb {p : Pan} (hp : Ok p) {a : Wk} (ha : OkW p a) :
    ∃ T, 1 ≤ T ∧ T ≤ 512 ∧ it (stepW p) T a = a ∧ (∀ i, 1 ≤ i → i < T → it (stepW p) i a ≠ a) ∧ orbF (stepW p) a (2 * segN p) a = trk p a T := by
  obtain ⟨T, h1, h2, h3, h4⟩ := (sys p hp).first a ha
  have hs : (sys p hp).N = segN p := rfl
  have hN := segN_le hp
  rw [hs] at h2
  refine ⟨T, h1, by omega, h3, h4, ?_⟩
  have he := orbF_eq (stepW p) a T h3 h4 (2 * segN p) 0 (by omega) (by omega)
  rw [show orbF (stepW p) a (2 * segN p) a = orbF (stepW p) a (2 * segN p) (it (stepW p) 0 a) from rfl, he]
  simp [trk, List.range_eq_range']
theorem trk_ok {p : Pan} (hp : Ok p) {a : Wk} (ha : OkW p a) (i : Nat) : OkW p (it (stepW p) i a) := (sys p hp).itV i a ha

/-! ### The tracing, round by round -/
theorem traceP_len (p : Pan) : ∀ k, (traceP p k).2.length = segN p
  | 0 => by simp [traceP, traceTo]
  | k + 1 => by
    have ih := traceP_len p k
    unfold traceP at ih ⊢
    unfold traceTo
    simp only []
    split
    · exact ih
    · rw [mark_length]; exact ih
theorem traceP_count (p : Pan) : ∀ k, (traceP p k).1.length ≤ k
  | 0 => by simp [traceP, traceTo]
  | k + 1 => by
    have ih := traceP_count p k
    unfold traceP at ih ⊢
    unfold traceTo
    simp only []
    split
    · omega
    · simp; omega
theorem gI_getD (l : List Int) (k : Nat) : gI l k = l.getD k 0 := by simp [gI]
theorem traceP_seen {p : Pan} {k : Nat} (h : 0 ≤ gI (traceP p k).2 k) : traceP p (k + 1) = traceP p k := by
  rw [gI_getD] at h
  unfold traceP at h ⊢
  conv => lhs; unfold traceTo
  simp only []
  rw [if_pos h]
/-- The segments of a walk's first states, as places. -/
def segN' (p : Pan) (l : List Wk) : List Nat := l.map fun w => (segI p w).toNat
theorem traceP_new {p : Pan} {k : Nat} (h : ¬ 0 ≤ gI (traceP p k).2 k) :
    traceP p (k + 1) = ((traceP p k).1 ++ [orbF (stepW p) (startI p k) (2 * segN p) (startI p k)], mark (traceP p k).1.length (traceP p k).2 (segN' p (orbF (stepW p) (startI p k) (2 * segN p) (startI p k)))) := by
  rw [gI_getD] at h
  unfold traceP at h ⊢
  conv => lhs; unfold traceTo
  simp only []
  rw [if_neg h]
  rfl
theorem mark_take (c : Int) (own : List Int) (ss : List Nat) (i : Nat) (hi : i < ss.length) : mark c own (ss.take (i + 1)) = (mark c own (ss.take i)).set ss[i] c := by
  rw [List.take_add_one, List.getElem?_eq_getElem hi]
  unfold mark
  rw [List.foldl_append]
  rfl
theorem mark_all (c : Int) (own : List Int) (ss : List Nat) {n : Nat} (h : ss.length ≤ n) : mark c own (ss.take n) = mark c own ss := by rw [List.take_of_length_le h]
theorem trk_get (p : Pan) (a : Wk) (n i : Nat) (h : i < n) : (trk p a n)[i]? = some (it (stepW p) i a) := by simp [trk, h]
theorem gI_segsP (p : Pan) (a : Wk) (n i : Nat) (h : i < n) : gI (segsP p (trk p a n)) i = segI p (it (stepW p) i a) := by
  simp [gI, segsP, List.getD, trk_get p a n i h]
theorem segN'_get (p : Pan) (a : Wk) (n i : Nat) (h : i < n) : ∃ hi : i < (segN' p (trk p a n)).length, (segN' p (trk p a n))[i] = (segI p (it (stepW p) i a)).toNat :=
  ⟨by simp [segN', trk_length, h], by simp [segN', trk]⟩
theorem segN'_length (p : Pan) (l : List Wk) : (segN' p l).length = l.length := by simp [segN']
end Knot

namespace Knot

/-! ### Numbers of curves, and what a change does to them -/

def cntP (p : Pan) : Int := (traceP p (segN p)).1.length
theorem cntP_bd {p : Pan} (hp : Ok p) : 0 ≤ cntP p ∧ cntP p ≤ 256 := by
  unfold cntP
  have h1 := traceP_count p (segN p)
  have h2 := segN_le hp
  omega
def withP (p : Pan) (k kd : Int) : Pan := ⟨p.W, p.H, p.B.set k.toNat kd⟩
theorem withP_ok {p : Pan} (hp : Ok p) {k kd : Int} (h : 0 ≤ kd ∧ kd ≤ 2) : Ok (withP p k kd) := by
  refine ⟨hp.w1, hp.w8, hp.h1, hp.h8, ?_, ?_⟩
  · show ((p.B.set k.toNat kd).length : Int) = _
    rw [List.length_set]
    exact hp.len
  · intro x hx
    rcases List.mem_or_eq_of_mem_set hx with h1 | rfl
    · exact hp.kind x h1
    · exact h
/-- The code of a panel and an inner point. -/
def codeP (p : Pan) (x y : Int) : Int := if Ok p then if Has p x y then if Edge p x y then 6 else 0 else 2 else 1
/-- The code of a panel, an inner point and a kind of break. -/
def codeK (p : Pan) (x y kd : Int) : Int := if Ok p ∧ Has p x y ∧ ¬ (0 ≤ kd ∧ kd ≤ 2) then 2 else codeP p x y
def effM (p : Pan) (x y kd : Int) : Int × Int := if codeK p x y kd = 0 then (cntP (withP p (num p x y) kd) - cntP p, 0) else (0, codeK p x y kd)
def effs (p : Pan) (k : Int) : List Int := [cntP (withP p k 0), cntP (withP p k 1), cntP (withP p k 2)]
def effsM (p : Pan) (x y : Int) : List Int × Int := if codeP p x y = 0 then (effs p (num p x y), 0) else ([], codeP p x y)
theorem codeP_ok {p : Pan} {x y : Int} (h : codeP p x y = 0) : Ok p ∧ Has p x y ∧ ¬ Edge p x y := by
  unfold codeP at h
  split at h
  · split at h
    · split at h
      · omega
      · exact ⟨by assumption, by assumption, by assumption⟩
    · omega
  · omega
theorem codeK_ok {p : Pan} {x y kd : Int} (h : codeK p x y kd = 0) : codeP p x y = 0 ∧ 0 ≤ kd ∧ kd ≤ 2 := by
  unfold codeK at h
  split at h
  · omega
  · rename_i hn
    have hc := codeP_ok h
    refine ⟨h, ?_⟩
    by_cases hk : 0 ≤ kd ∧ kd ≤ 2
    · exact hk
    · exact absurd ⟨hc.1, hc.2.1, hk⟩ hn
/-- The number of an inner point. -/
theorem num_in {p : Pan} (hp : Ok p) {x y : Int} (h : Has p x y) (he : ¬ Edge p x y) : 0 ≤ num p x y ∧ num p x y < p.B.length ∧ (1 ≤ x ∧ x ≤ 16) ∧ (1 ≤ y ∧ y ≤ 16) ∧ (x + y) % 2 = 1 ∧ rowOf p.W y + (x - 1) / 2 = num p x y := by
  obtain ⟨a1, a2, a3, a4, a5⟩ := h
  unfold Edge at he
  have w1 := hp.w1
  have w8 := hp.w8
  have h1 := hp.h1
  have h8 := hp.h8
  have hl := hp.len
  obtain ⟨n1, n2, _, _⟩ := num_pt (H := p.H) w1 w8 (y := y) (x := x) (by omega) (by omega) (by omega) (by omega) a5
  refine ⟨n1, ?_, by omega, by omega, a5, rfl⟩
  show rowOf p.W y + (x - 1) / 2 < _
  omega
end Knot

namespace Knot

/-! ### The number of curves is the number of classes of what steps join -/

section
variable {p : Pan} (hp : Ok p)

/-- Two segments are on one curve. -/
def On (p : Pan) (hp : Ok p) (a b : Nat) : Prop := a < segN p ∧ (sys p hp).Rel a b

theorem On.lt {a b : Nat} (h : On p hp a b) : a < segN p ∧ b < segN p := ⟨h.1, (sys p hp).rel_lt h.1 h.2⟩
theorem On.refl {a : Nat} (h : a < segN p) : On p hp a a := ⟨h, (sys p hp).rel_refl a h⟩
theorem On.symm {a b : Nat} (h : On p hp a b) : On p hp b a := ⟨(h.lt hp).2, (sys p hp).rel_symm h.1 h.2⟩
theorem On.trans {a b c : Nat} (h : On p hp a b) (k : On p hp b c) : On p hp a c := ⟨h.1, (sys p hp).rel_trans h.1 h.2 k.2⟩
include hp in
theorem seg_lt {w : Wk} (h : OkW p w) : (segI p w).toNat < segN p := (sys p hp).seg_lt w h
/-- A step joins. -/
theorem On.step {w : Wk} (h : OkW p w) : On p hp (segI p w).toNat (segI p (stepW p w)).toNat :=
  ⟨seg_lt hp h, (sys p hp).rel_of w h 1⟩
/-- What is closed under steps is closed under what is joined. -/
theorem On.min {Q : Nat → Prop} (hQ : ∀ w, OkW p w → Q (segI p w).toNat → Q (segI p (stepW p w)).toNat) {a b : Nat} (h : On p hp a b) (ha : Q a) : Q b := by
  obtain ⟨h1, n, rfl⟩ := h
  induction n with
  | zero =>
    have := (sys p hp).seg_start a h1
    show Q ((sys p hp).seg ((sys p hp).start a))
    rw [this]
    exact ha
  | succ n ih => exact hQ _ ((sys p hp).itV n _ ((sys p hp).start_V a h1)) ih
/-- As many curves as classes. -/
theorem cnt_reps {L : List Nat} (h : Reps (On p hp) (· < segN p) L) : cntP p = L.length := by
  obtain ⟨reps, hr⟩ := (sys p hp).traced (segN p) (Nat.le_refl _)
  have h1 := (sys p hp).traced_reps hr
  have h2 : Reps (On p hp) (· < segN p) reps := ⟨h1.mem, h1.apart.imp fun h k => h k.2, fun a ha => by
    obtain ⟨b, hb, k⟩ := h1.all a ha
    exact ⟨b, hb, ha, k⟩⟩
  have h3 := reps_eq (fun _ _ h => h.symm hp) (fun _ _ _ h k => h.trans hp k) h2 h
  have h4 := hr.len
  show (((traceP p (segN p)).1.length : Nat) : Int) = _
  rw [show traceP p (segN p) = (sys p hp).traceTo (segN p) from rfl, h4, h3]
/-- Of one curve just if they bear one number. -/
theorem own_on {a b : Nat} (ha : a < segN p) (hb : b < segN p) : gI (traceP p (segN p)).2 a = gI (traceP p (segN p)).2 b ↔ On p hp a b := by
  obtain ⟨reps, hr⟩ := (sys p hp).traced (segN p) (Nat.le_refl _)
  have := (sys p hp).traced_same hr ha hb
  rw [gI_getD, gI_getD]
  exact this.trans ⟨fun h => ⟨ha, h⟩, fun h => h.2⟩
end
end Knot

namespace Knot

/-! ### Where symmetries move points and breaks -/

/-- Where a symmetry moves a point. -/
def mapX (W H x y s : Int) : Int × Int :=
  if 4 ≤ s then (if s % 2 = 1 then 2 * H - y else y, if s / 2 % 2 = 1 then 2 * W - x else x)
  else (if s % 2 = 1 then 2 * W - x else x, if s / 2 % 2 = 1 then 2 * H - y else y)
def kindX (kd s : Int) : Int := if 4 ≤ s ∧ kd ≠ 0 then 3 - kd else kd
def mapW (W H s : Int) : Int := if 4 ≤ s then H else W
def mapH (W H s : Int) : Int := if 4 ≤ s then W else H
/-- The number, in the moved panel, of the point to which the point with number k is moved. -/
def mapN (W H s k : Int) : Int := rowOf (mapW W H s) (mapX W H (ptX W k) (ptY W k) s).2 + ((mapX W H (ptX W k) (ptY W k) s).1 - 1) / 2
/-- The breaks of the moved panel, when the first points have been moved. -/
def mapTo (W H s : Int) (B : List Int) (n : Nat) : Nat → List Int
  | 0 => List.replicate n 0
  | k + 1 => (mapTo W H s B n k).set (mapN W H s k).toNat (kindX (gI B k) s)
def mapP (p : Pan) (s : Int) : Pan := ⟨mapW p.W p.H s, mapH p.W p.H s, mapTo p.W p.H s p.B p.B.length p.B.length⟩
theorem mapTo_length (W H s : Int) (B : List Int) (n : Nat) : ∀ k, (mapTo W H s B n k).length = n
  | 0 => by simp [mapTo]
  | k + 1 => by rw [mapTo, List.length_set, mapTo_length W H s B n k]
theorem inner_comm (W H : Int) : inner H W = inner W H := by unfold inner; rw [Int.add_comm]
theorem mapX_in {W H x y s : Int} (y0 : 1 ≤ y) (y1 : y < 2 * H) (x0 : 1 ≤ x) (x1 : x < 2 * W) (hp : (x + y) % 2 = 1) (s0 : 0 ≤ s) (s7 : s ≤ 7) :
    1 ≤ (mapX W H x y s).1 ∧ (mapX W H x y s).1 < 2 * mapW W H s ∧ 1 ≤ (mapX W H x y s).2 ∧ (mapX W H x y s).2 < 2 * mapH W H s ∧ ((mapX W H x y s).1 + (mapX W H x y s).2) % 2 = 1 := by
  rcases (show s = 0 ∨ s = 1 ∨ s = 2 ∨ s = 3 ∨ s = 4 ∨ s = 5 ∨ s = 6 ∨ s = 7 by omega) with rfl | rfl | rfl | rfl | rfl | rfl | rfl | rfl <;> simp [mapX, mapW, mapH] <;> omega
theorem mapW_bd {W H s : Int} (h : 1 ≤ W ∧ W ≤ 8) (h' : 1 ≤ H ∧ H ≤ 8) : (1 ≤ mapW W H s ∧ mapW W H s ≤ 8) ∧ (1 ≤ mapH W H s ∧ mapH W H s ≤ 8) := by
  unfold mapW mapH
  split <;> exact ⟨by assumption, by assumption⟩
theorem mapN_in {W H s k : Int} (h : 1 ≤ W ∧ W ≤ 8) (h' : 1 ≤ H ∧ H ≤ 8) (s0 : 0 ≤ s) (s7 : s ≤ 7) (k0 : 0 ≤ k) (k1 : k < inner W H) : 0 ≤ mapN W H s k ∧ mapN W H s k < inner W H := by
  obtain ⟨a, b, c, d, e⟩ := pt_in h.1 h.2 k0 k1
  obtain ⟨a', b', c', d', e'⟩ := mapX_in a b c d e s0 s7
  have hb := mapW_bd (s := s) h h'
  obtain ⟨r1, r2, _⟩ := num_pt (H := mapH W H s) hb.1.1 hb.1.2 c' d' a' b' e'
  refine ⟨r1, Int.lt_of_lt_of_le r2 (Int.le_of_eq ?_)⟩
  unfold mapW mapH
  split
  · exact inner_comm W H
  · rfl
theorem kindX_bd {kd s : Int} (h : 0 ≤ kd ∧ kd ≤ 2) : 0 ≤ kindX kd s ∧ kindX kd s ≤ 2 := by
  unfold kindX
  split <;> omega
end Knot

namespace Knot

/-! ### Lists in order, number by number -/

def cmpI (a b : Int) : Int := if a < b then -1 else if b < a then 1 else 0
def cmpL : List Int → List Int → Int
  | [], [] => 0
  | [], _ :: _ => -1
  | _ :: _, [] => 1
  | a :: s, b :: t => if a < b then -1 else if b < a then 1 else cmpL s t
theorem cmpI_bd (a b : Int) : -1 ≤ cmpI a b ∧ cmpI a b ≤ 1 := by
  unfold cmpI
  split
  · omega
  · split <;> omega
theorem cmpL_bd : ∀ s t : List Int, -1 ≤ cmpL s t ∧ cmpL s t ≤ 1
  | [], [] => by simp [cmpL]
  | [], _ :: _ => by simp [cmpL]
  | _ :: _, [] => by simp [cmpL]
  | a :: s, b :: t => by
    unfold cmpL
    have := cmpL_bd s t
    split
    · omega
    · split <;> omega
theorem drop_gI {l : List Int} {k : Nat} (h : k < l.length) : l.drop k = gI l k :: l.drop (k + 1) := by
  rw [List.drop_eq_getElem_cons h]
  simp [gI, List.getD, h]
theorem cmpL_lt {xs ys : List Int} {k : Nat} (h1 : k < xs.length) (h2 : k < ys.length) (h : gI xs k < gI ys k) : cmpL (xs.drop k) (ys.drop k) = -1 := by
  rw [drop_gI h1, drop_gI h2, cmpL, if_pos h]
theorem cmpL_gt {xs ys : List Int} {k : Nat} (h1 : k < xs.length) (h2 : k < ys.length) (h : gI ys k < gI xs k) : cmpL (xs.drop k) (ys.drop k) = 1 := by
  rw [drop_gI h1, drop_gI h2, cmpL, if_neg (by omega), if_pos h]
theorem cmpL_eq {xs ys : List Int} {k : Nat} (h1 : k < xs.length) (h2 : k < ys.length) (h : gI xs k = gI ys k) : cmpL (xs.drop k) (ys.drop k) = cmpL (xs.drop (k + 1)) (ys.drop (k + 1)) := by
  rw [drop_gI h1, drop_gI h2, cmpL, if_neg (by omega), if_neg (by omega)]
theorem cmpL_short {xs ys : List Int} {k : Nat} (h1 : xs.length ≤ k) (h2 : k < ys.length) : cmpL (xs.drop k) (ys.drop k) = -1 := by
  rw [List.drop_eq_nil_of_le h1, drop_gI h2, cmpL]
theorem cmpL_long {xs ys : List Int} {k : Nat} (h1 : k < xs.length) (h2 : ys.length ≤ k) : cmpL (xs.drop k) (ys.drop k) = 1 := by
  rw [List.drop_eq_nil_of_le h2, drop_gI h1, cmpL]
theorem cmpL_both {xs ys : List Int} {k : Nat} (h1 : xs.length ≤ k) (h2 : ys.length ≤ k) : cmpL (xs.drop k) (ys.drop k) = 0 := by
  rw [List.drop_eq_nil_of_le h1, List.drop_eq_nil_of_le h2, cmpL]
theorem cmpL_two (a b c d : Int) : cmpL [a, b] [c, d] = if cmpI a c = 0 then cmpI b d else cmpI a c := by
  unfold cmpL cmpI
  by_cases h1 : a < c
  · simp [h1]
  · by_cases h2 : c < a
    · simp [h1, h2]
    · simp [h1, h2, cmpL]
/-- What ComparePanels answers. -/
def cmpP (p q : Pan) : Int := if cmpI p.W q.W = 0 then if cmpI p.H q.H = 0 then cmpL p.B q.B else cmpI p.H q.H else cmpI p.W q.W
theorem cmpP_bd (p q : Pan) : -1 ≤ cmpP p q ∧ cmpP p q ≤ 1 := by
  unfold cmpP
  have := cmpI_bd p.W q.W
  have := cmpI_bd p.H q.H
  have := cmpL_bd p.B q.B
  split
  · split <;> omega
  · omega
end Knot

namespace Knot

/-! ### The symmetries of a panel, the least panel -/

theorem mapN_zero {W H k : Int} (h : 1 ≤ W ∧ W ≤ 8) (k0 : 0 ≤ k) : mapN W H 0 k = k := by
  have := pt_num h.1 h.2 k0
  simpa [mapN, mapX, mapW] using this
theorem mapTo_zero {W H : Int} {B : List Int} (h : 1 ≤ W ∧ W ≤ 8) : ∀ k, k ≤ B.length → mapTo W H 0 B B.length k = B.take k ++ List.replicate (B.length - k) 0
  | 0, _ => by simp [mapTo]
  | k + 1, hk => by
    rw [mapTo, mapTo_zero h k (by omega), mapN_zero h (by omega)]
    have e : kindX (gI B k) 0 = gI B k := by simp [kindX]
    have h1 : (B.take k).length = k := by simp; omega
    rw [e, Int.toNat_natCast, List.set_append_right _ _ (by omega), h1, Nat.sub_self, show B.length - k = (B.length - (k + 1)) + 1 by omega, List.replicate_succ, List.set_cons_zero, List.take_add_one]
    have hg : B[k]? = some (gI B k) := by
      have : k < B.length := by omega
      simp [gI, List.getD, this]
    rw [hg]
    simp
theorem mapP_zero {p : Pan} (h : 1 ≤ p.W ∧ p.W ≤ 8) : mapP p 0 = p := by
  obtain ⟨W, H, B⟩ := p
  have e := mapTo_zero (H := H) (B := B) h B.length (Nat.le_refl _)
  simp only [mapP, mapW, mapH] at *
  simp at e ⊢
  exact e
/-- The symmetries that do not change a panel, of the first k. -/
def symsTo (p : Pan) : Nat → List Int
  | 0 => []
  | k + 1 => if mapP p k = p then symsTo p k ++ [(k : Int)] else symsTo p k
theorem symsTo_length (p : Pan) : ∀ k, (symsTo p k).length ≤ k
  | 0 => Nat.le_refl _
  | k + 1 => by
    unfold symsTo
    have := symsTo_length p k
    split
    · simp; omega
    · omega
theorem symsTo_yes {p : Pan} {k : Nat} (h : mapP p k = p) : symsTo p (k + 1) = symsTo p k ++ [(k : Int)] := by rw [symsTo, if_pos h]
theorem symsTo_no {p : Pan} {k : Nat} (h : ¬ mapP p k = p) : symsTo p (k + 1) = symsTo p k := by rw [symsTo, if_neg h]
/-- The least panel among those to which the first symmetries move. -/
def leastTo (p : Pan) : Nat → Pan
  | 0 => p
  | k + 1 => if cmpP (mapP p ((k + 1 : Nat) : Int)) (leastTo p k) < 0 then mapP p ((k + 1 : Nat) : Int) else leastTo p k
theorem leastTo_yes {p : Pan} {k : Nat} (h : cmpP (mapP p ((k + 1 : Nat) : Int)) (leastTo p k) < 0) : leastTo p (k + 1) = mapP p ((k + 1 : Nat) : Int) := by rw [leastTo, if_pos h]
theorem leastTo_no {p : Pan} {k : Nat} (h : ¬ cmpP (mapP p ((k + 1 : Nat) : Int)) (leastTo p k) < 0) : leastTo p (k + 1) = leastTo p k := by rw [leastTo, if_neg h]
theorem mapP_len (p : Pan) (s : Int) : (mapP p s).B.length = p.B.length := mapTo_length _ _ _ _ _ _
theorem leastTo_len (p : Pan) : ∀ k, (leastTo p k).B.length = p.B.length
  | 0 => rfl
  | k + 1 => by
    unfold leastTo
    split
    · exact mapP_len p _
    · exact leastTo_len p k
theorem mapP_eq (W H s : Int) (B : List Int) (p' : Pan) : mapP ⟨W, H, B⟩ s = p' ↔ mapW W H s = p'.W ∧ mapH W H s = p'.H ∧ mapTo W H s B B.length B.length = p'.B := by
  obtain ⟨a, b, c⟩ := p'
  simp [mapP]
end Knot

namespace Knot

/-! ### Symmetries move panels as they are composed; they keep the number of curves -/

theorem sym_cases {s : Int} (s0 : 0 ≤ s) (s7 : s ≤ 7) : s = 0 ∨ s = 1 ∨ s = 2 ∨ s = 3 ∨ s = 4 ∨ s = 5 ∨ s = 6 ∨ s = 7 := by omega
def exchK (a b : Int) : Int := if b < 4 then a else a / 4 * 4 + a % 2 * 2 + a / 2 % 2
def compK (a b : Int) : Int := (((exchK a b).toNat ^^^ b.toNat : Nat) : Int)
theorem compK_bd {a b : Int} (a0 : 0 ≤ a) (a7 : a ≤ 7) (b0 : 0 ≤ b) (b7 : b ≤ 7) : 0 ≤ compK a b ∧ compK a b ≤ 7 := by
  rcases sym_cases a0 a7 with rfl | rfl | rfl | rfl | rfl | rfl | rfl | rfl <;> rcases sym_cases b0 b7 with rfl | rfl | rfl | rfl | rfl | rfl | rfl | rfl <;> decide
/-- The symmetry that leads back. -/
def invK (a : Int) : Int := exchK a a
theorem invK_bd {a : Int} (a0 : 0 ≤ a) (a7 : a ≤ 7) : (0 ≤ invK a ∧ invK a ≤ 7) ∧ compK a (invK a) = 0 ∧ compK (invK a) a = 0 := by
  rcases sym_cases a0 a7 with rfl | rfl | rfl | rfl | rfl | rfl | rfl | rfl <;> decide

theorem mapX_comp (W H x y : Int) {a b : Int} (a0 : 0 ≤ a) (a7 : a ≤ 7) (b0 : 0 ≤ b) (b7 : b ≤ 7) :
    mapX (mapW W H a) (mapH W H a) (mapX W H x y a).1 (mapX W H x y a).2 b = mapX W H x y (compK a b) ∧ mapW (mapW W H a) (mapH W H a) b = mapW W H (compK a b) ∧ mapH (mapW W H a) (mapH W H a) b = mapH W H (compK a b) := by
  rcases sym_cases a0 a7 with rfl | rfl | rfl | rfl | rfl | rfl | rfl | rfl <;> rcases sym_cases b0 b7 with rfl | rfl | rfl | rfl | rfl | rfl | rfl | rfl <;>
    simp [mapX, mapW, mapH, compK, exchK] <;> omega
theorem kindX_comp {k : Int} {a b : Int} (a0 : 0 ≤ a) (a7 : a ≤ 7) (b0 : 0 ≤ b) (b7 : b ≤ 7) (hk : 0 ≤ k ∧ k ≤ 2) : kindX (kindX k a) b = kindX k (compK a b) := by
  rcases (show k = 0 ∨ k = 1 ∨ k = 2 by omega) with rfl | rfl | rfl <;>
  rcases sym_cases a0 a7 with rfl | rfl | rfl | rfl | rfl | rfl | rfl | rfl <;> rcases sym_cases b0 b7 with rfl | rfl | rfl | rfl | rfl | rfl | rfl | rfl <;> decide
theorem mapX_zero (W H x y : Int) : mapX W H x y 0 = (x, y) := by simp [mapX]

/-- Points are moved into the moved panel; edges to edges. -/
theorem mapX_has {p q : Pan} {s : Int} (hW : q.W = mapW p.W p.H s) (hH : q.H = mapH p.W p.H s) (s0 : 0 ≤ s) (s7 : s ≤ 7) {x y : Int} : (Has p x y ↔ Has q (mapX p.W p.H x y s).1 (mapX p.W p.H x y s).2) ∧ (Edge p x y ↔ Edge q (mapX p.W p.H x y s).1 (mapX p.W p.H x y s).2) := by
  unfold Has Edge
  rw [hW, hH]
  rcases sym_cases s0 s7 with rfl | rfl | rfl | rfl | rfl | rfl | rfl | rfl <;> simp [mapX, mapW, mapH] <;> omega
theorem mapX_inj {W H x y x' y' s : Int} (s0 : 0 ≤ s) (s7 : s ≤ 7) (h : mapX W H x y s = mapX W H x' y' s) : x = x' ∧ y = y' := by
  rcases sym_cases s0 s7 with rfl | rfl | rfl | rfl | rfl | rfl | rfl | rfl <;> simp [mapX] at h <;> omega

section
variable {p : Pan} (hp : Ok p) {s : Int} (s0 : 0 ≤ s) (s7 : s ≤ 7)
include hp s0 s7

theorem mapN_pt {k : Int} (k0 : 0 ≤ k) (k1 : k < p.B.length) :
    (0 ≤ mapN p.W p.H s k ∧ mapN p.W p.H s k < p.B.length) ∧ ptX (mapW p.W p.H s) (mapN p.W p.H s k) = (mapX p.W p.H (ptX p.W k) (ptY p.W k) s).1 ∧ ptY (mapW p.W p.H s) (mapN p.W p.H s k) = (mapX p.W p.H (ptX p.W k) (ptY p.W k) s).2 := by
  have hl := hp.len
  have hk : k < inner p.W p.H := by omega
  obtain ⟨a, b, c, d, e⟩ := pt_in hp.w1 hp.w8 k0 hk
  obtain ⟨a', b', c', d', e'⟩ := mapX_in a b c d e s0 s7
  have hb := mapW_bd (s := s) ⟨hp.w1, hp.w8⟩ ⟨hp.h1, hp.h8⟩
  obtain ⟨r1, r2, r3, r4⟩ := num_pt (H := mapH p.W p.H s) hb.1.1 hb.1.2 c' d' a' b' e'
  have hin := mapN_in ⟨hp.w1, hp.w8⟩ ⟨hp.h1, hp.h8⟩ s0 s7 k0 hk
  exact ⟨⟨hin.1, by omega⟩, r3, r4⟩
theorem mapN_inj {j k : Int} (j0 : 0 ≤ j) (j1 : j < p.B.length) (k0 : 0 ≤ k) (k1 : k < p.B.length) (h : mapN p.W p.H s j = mapN p.W p.H s k) : j = k := by
  obtain ⟨_, a1, a2⟩ := mapN_pt hp s0 s7 j0 j1
  obtain ⟨_, b1, b2⟩ := mapN_pt hp s0 s7 k0 k1
  rw [h] at a1 a2
  have e := mapX_inj s0 s7 (W := p.W) (H := p.H) (x := ptX p.W j) (y := ptY p.W j) (x' := ptX p.W k) (y' := ptY p.W k) (Prod.ext (a1.symm.trans b1) (a2.symm.trans b2))
  rw [← pt_num hp.w1 hp.w8 j0, ← pt_num hp.w1 hp.w8 k0, e.1, e.2]
theorem mapTo_get : ∀ m, m ≤ p.B.length → ∀ k : Nat, k < m → gI (mapTo p.W p.H s p.B p.B.length m) (mapN p.W p.H s k) = kindX (gI p.B k) s
  | 0, _, k, hk => absurd hk (by omega)
  | m + 1, hm, k, hk => by
    obtain ⟨⟨n0, n1⟩, _⟩ := mapN_pt hp s0 s7 (k := (k : Int)) (by omega) (by omega)
    obtain ⟨⟨m0, m1⟩, _⟩ := mapN_pt hp s0 s7 (k := (m : Int)) (by omega) (by omega)
    have hl := mapTo_length p.W p.H s p.B p.B.length m
    rw [mapTo]
    by_cases e : k = m
    · subst e
      conv => lhs; unfold gI
      rw [List.getD, List.getElem?_set_self (by omega)]
      rfl
    · have hne : mapN p.W p.H s k ≠ mapN p.W p.H s m := fun h => by
        have := mapN_inj hp s0 s7 (by omega) (by omega) (by omega) (by omega) h
        omega
      have := mapTo_get m (by omega) k (by omega)
      conv => lhs; unfold gI
      rw [List.getD, List.getElem?_set_ne (by omega)]
      exact this
/-- The breaks of the moved panel. -/
theorem map_get {k : Int} (k0 : 0 ≤ k) (k1 : k < p.B.length) : gI (mapP p s).B (mapN p.W p.H s k) = kindX (gI p.B k) s := by
  obtain ⟨k, rfl⟩ := Int.eq_ofNat_of_zero_le k0
  exact mapTo_get hp s0 s7 p.B.length (Nat.le_refl _) k (by omega)
theorem brk_map {x y : Int} (h : Has p x y) : brk (mapP p s) (mapX p.W p.H x y s).1 (mapX p.W p.H x y s).2 = kindX (brk p x y) s := by
  have hm := mapX_has (p := p) (q := mapP p s) rfl rfl s0 s7 (x := x) (y := y)
  unfold brk
  by_cases he : Edge p x y
  · rw [if_pos he, if_pos (hm.2.1 he)]
    unfold kindX
    rw [if_neg (by omega)]
  · rw [if_neg he, if_neg (fun h => he (hm.2.2 h))]
    obtain ⟨a, b, c, d⟩ := not_edge h he
    obtain ⟨n1, n2, n3, n4⟩ := num_pt (H := p.H) hp.w1 hp.w8 a b c d h.2.2.2.2
    have hl := hp.len
    have hnum : num p x y = rowOf p.W y + (x - 1) / 2 := rfl
    have hg := map_get hp s0 s7 (k := num p x y) (by omega) (by omega)
    have e : mapN p.W p.H s (num p x y) = num (mapP p s) (mapX p.W p.H x y s).1 (mapX p.W p.H x y s).2 := by
      unfold mapN
      rw [hnum, n3, n4]
      rfl
    rw [e] at hg
    exact hg
omit s0 s7 in
theorem brk_bd {x y : Int} (h : Has p x y) : 0 ≤ brk p x y ∧ brk p x y ≤ 2 := by
  unfold brk
  by_cases he : Edge p x y
  · rw [if_pos he]; omega
  · rw [if_neg he]
    obtain ⟨n0, n1, _⟩ := num_in hp h he
    have hlt : (num p x y).toNat < p.B.length := by omega
    simp only [List.getD, List.getElem?_eq_getElem hlt, Option.getD_some]
    exact hp.kind _ (List.getElem_mem hlt)
omit hp in
/-- Each point of the moved panel is one to which a point is moved. -/
theorem mapX_onto {x y : Int} (h : Has (mapP p s) x y) : ∃ u v, Has p u v ∧ mapX p.W p.H u v s = (x, y) := by
  obtain ⟨⟨i0, i7⟩, i1, i2⟩ := invK_bd s0 s7
  obtain ⟨e1, e2, e3⟩ := mapX_comp (mapW p.W p.H s) (mapH p.W p.H s) x y i0 i7 s0 s7
  rw [i2, mapX_zero] at e1
  obtain ⟨f1, f2, f3⟩ := mapX_comp p.W p.H x y s0 s7 i0 i7
  rw [i1] at f2 f3
  have g2 : mapW (mapW p.W p.H s) (mapH p.W p.H s) (invK s) = p.W := by rw [f2]; simp [mapW]
  have g3 : mapH (mapW p.W p.H s) (mapH p.W p.H s) (invK s) = p.H := by rw [f3]; simp [mapH]
  rw [g2, g3] at e1
  refine ⟨_, _, ?_, e1⟩
  have hm := mapX_has (p := p) (q := mapP p s) rfl rfl s0 s7 (x := (mapX (mapW p.W p.H s) (mapH p.W p.H s) x y (invK s)).1) (y := (mapX (mapW p.W p.H s) (mapH p.W p.H s) x y (invK s)).2)
  refine hm.1.2 ?_
  rw [e1]
  exact h
theorem mapP_ok : Ok (mapP p s) := by
  have hb := mapW_bd (s := s) ⟨hp.w1, hp.w8⟩ ⟨hp.h1, hp.h8⟩
  have hlen : ((mapP p s).B.length : Int) = inner (mapP p s).W (mapP p s).H := by
    rw [mapP_len, hp.len]
    show inner p.W p.H = inner (mapW p.W p.H s) (mapH p.W p.H s)
    unfold mapW mapH
    split
    · exact (inner_comm p.W p.H).symm
    · rfl
  refine ⟨hb.1.1, hb.1.2, hb.2.1, hb.2.2, hlen, ?_⟩
  intro k hk
  obtain ⟨i, hi, rfl⟩ := List.getElem_of_mem hk
  have hin := pt_in (W := (mapP p s).W) (H := (mapP p s).H) hb.1.1 hb.1.2 (k := (i : Int)) (by omega) (by omega)
  have hnum := pt_num (W := (mapP p s).W) hb.1.1 hb.1.2 (k := (i : Int)) (by omega)
  have hH : Has (mapP p s) (ptX (mapP p s).W i) (ptY (mapP p s).W i) := ⟨by omega, by omega, by omega, by omega, by omega⟩
  obtain ⟨u, v, huv, he⟩ := mapX_onto s0 s7 hH
  have hbr := brk_map hp s0 s7 huv
  rw [he] at hbr
  have hE : ¬ Edge (mapP p s) (ptX (mapP p s).W i) (ptY (mapP p s).W i) := by unfold Edge; omega
  have hval : brk (mapP p s) (ptX (mapP p s).W i) (ptY (mapP p s).W i) = (mapP p s).B[i] := by
    unfold brk
    rw [if_neg hE]
    have : num (mapP p s) (ptX (mapP p s).W i) (ptY (mapP p s).W i) = i := hnum
    rw [this]
    simp [List.getD, hi]
  rw [← hval]
  rw [hbr]
  exact kindX_bd (brk_bd hp huv)
end

/-- A panel is known by its size and its breaks. -/
theorem pan_ext {p q : Pan} (hp : Ok p) (hq : Ok q) (hW : p.W = q.W) (hH : p.H = q.H) (h : ∀ x y, Has p x y → brk p x y = brk q x y) : p = q := by
  have hl : p.B.length = q.B.length := by
    have h1 := hp.len
    have h2 := hq.len
    rw [hW, hH] at h1
    omega
  have hB : p.B = q.B := by
    refine List.ext_getElem hl fun i h1 h2 => ?_
    have hpl := hp.len
    have hin := pt_in (W := p.W) (H := p.H) hp.w1 hp.w8 (k := (i : Int)) (by omega) (by omega)
    have hnum := pt_num (W := p.W) hp.w1 hp.w8 (k := (i : Int)) (by omega)
    have hHs : Has p (ptX p.W i) (ptY p.W i) := ⟨by omega, by omega, by omega, by omega, by omega⟩
    have := h _ _ hHs
    unfold brk at this
    rw [if_neg (show ¬ Edge p (ptX p.W i) (ptY p.W i) by unfold Edge; omega), if_neg (show ¬ Edge q (ptX p.W i) (ptY p.W i) by unfold Edge; omega)] at this
    have e1 : num p (ptX p.W i) (ptY p.W i) = i := hnum
    have e2 : num q (ptX p.W i) (ptY p.W i) = i := by
      have : num q (ptX p.W i) (ptY p.W i) = num p (ptX p.W i) (ptY p.W i) := by unfold num; rw [hW]
      rw [this, e1]
    rw [e1, e2] at this
    simpa [List.getD, h1, h2] using this
  cases p; cases q
  simp_all

theorem map_comp {p : Pan} (hp : Ok p) {a b : Int} (a0 : 0 ≤ a) (a7 : a ≤ 7) (b0 : 0 ≤ b) (b7 : b ≤ 7) : mapP (mapP p a) b = mapP p (compK a b) := by
  obtain ⟨c0, c7⟩ := compK_bd a0 a7 b0 b7
  have ha := mapP_ok hp a0 a7
  have hab := mapP_ok ha b0 b7
  have hc := mapP_ok hp c0 c7
  have hm := fun x y => mapX_comp p.W p.H x y a0 a7 b0 b7
  refine pan_ext hab hc (hm 0 0).2.1 (hm 0 0).2.2 fun x y hxy => ?_
  obtain ⟨u, v, huv, e1⟩ := mapX_onto b0 b7 hxy
  obtain ⟨s, t, hst, e2⟩ := mapX_onto a0 a7 huv
  have h1 := brk_map ha b0 b7 huv
  rw [e1] at h1
  have h2 := brk_map hp a0 a7 hst
  rw [e2] at h2
  have h3 := brk_map hp c0 c7 hst
  have e3 := (hm s t).1
  rw [e2] at e3
  have e4 : mapX (mapP p a).W (mapP p a).H u v b = mapX p.W p.H s t (compK a b) := e3
  rw [← e4, e1] at h3
  have h1' : brk (mapP (mapP p a) b) x y = kindX (brk (mapP p a) u v) b := h1
  have h2' : brk (mapP p a) u v = kindX (brk p s t) a := h2
  have h3' : brk (mapP p (compK a b)) x y = kindX (brk p s t) (compK a b) := h3
  rw [h1', h2', h3', kindX_comp a0 a7 b0 b7 (brk_bd hp hst)]

/-! ### Walkers are moved with their panel -/
/-- Where a symmetry moves a direction. -/
def mapD (dx dy s : Int) : Int × Int :=
  if 4 ≤ s then (if s % 2 = 1 then -dy else dy, if s / 2 % 2 = 1 then -dx else dx) else (if s % 2 = 1 then -dx else dx, if s / 2 % 2 = 1 then -dy else dy)
def mapK (p : Pan) (s : Int) (w : Wk) : Wk := ⟨(mapX p.W p.H w.X w.Y s).1, (mapX p.W p.H w.X w.Y s).2, (mapD w.dx w.dy s).1, (mapD w.dx w.dy s).2⟩
theorem mapX_add (W H x y dx dy : Int) {s : Int} (s0 : 0 ≤ s) (s7 : s ≤ 7) : mapX W H (x + dx) (y + dy) s = ((mapX W H x y s).1 + (mapD dx dy s).1, (mapX W H x y s).2 + (mapD dx dy s).2) := by
  rcases sym_cases s0 s7 with rfl | rfl | rfl | rfl | rfl | rfl | rfl | rfl <;> simp [mapX, mapD] <;> omega
theorem mapD_sign {dx dy s : Int} (s0 : 0 ≤ s) (s7 : s ≤ 7) (h1 : dx = 1 ∨ dx = -1) (h2 : dy = 1 ∨ dy = -1) : ((mapD dx dy s).1 = 1 ∨ (mapD dx dy s).1 = -1) ∧ ((mapD dx dy s).2 = 1 ∨ (mapD dx dy s).2 = -1) := by
  rcases sym_cases s0 s7 with rfl | rfl | rfl | rfl | rfl | rfl | rfl | rfl <;> simp [mapD] <;> omega

section
variable {p : Pan} (hp : Ok p) {s : Int} (s0 : 0 ≤ s) (s7 : s ≤ 7)
include s0 s7
theorem mapK_ok {w : Wk} (h : OkW p w) : OkW (mapP p s) (mapK p s w) := by
  obtain ⟨h1, h2, h3, h4⟩ := h
  obtain ⟨d1, d2⟩ := mapD_sign s0 s7 h1 h2
  have hm := fun x y => (mapX_has (p := p) (q := mapP p s) rfl rfl s0 s7 (x := x) (y := y)).1
  refine ⟨d1, d2, (hm _ _).1 h3, ?_⟩
  have := (hm _ _).1 h4
  rw [mapX_add p.W p.H w.X w.Y w.dx w.dy s0 s7] at this
  exact this
include hp
theorem mapK_step {w : Wk} (h : OkW p w) : stepW (mapP p s) (mapK p s w) = mapK p s (stepW p w) := by
  have hb := brk_map hp s0 s7 h.there
  have ha := mapX_add p.W p.H w.X w.Y w.dx w.dy s0 s7
  have hbd := brk_bd hp h.there
  obtain ⟨X, Y, dx, dy⟩ := w
  obtain ⟨h1, h2, h3, h4⟩ := h
  simp only [] at *
  unfold stepW mapK
  simp only []
  rw [ha] at hb
  simp only [] at hb
  rw [hb, ha]
  generalize brk p (X + dx) (Y + dy) = k at *
  obtain ⟨a1, a2, a3, a4, a5⟩ := h4
  clear hb ha
  rcases (show k = 0 ∨ k = 1 ∨ k = 2 by omega) with rfl | rfl | rfl <;>
  rcases sym_cases s0 s7 with rfl | rfl | rfl | rfl | rfl | rfl | rfl | rfl <;> simp [mapX, mapD, mapP, mapW, mapH, kindX] <;> (try refine And.intro ?_ ?_) <;> (try split) <;> (try split) <;> omega
omit hp
theorem mapK_back (w : Wk) : mapK p s (backW w) = backW (mapK p s w) := by
  have ha := mapX_add p.W p.H w.X w.Y w.dx w.dy s0 s7
  unfold backW mapK
  simp only []
  rw [ha]
  congr 1
  · rcases sym_cases s0 s7 with rfl | rfl | rfl | rfl | rfl | rfl | rfl | rfl <;> simp [mapD]
  · rcases sym_cases s0 s7 with rfl | rfl | rfl | rfl | rfl | rfl | rfl | rfl <;> simp [mapD]
/-- Where a segment is moved. -/
def mapG (p : Pan) (s : Int) (a : Nat) : Nat := (segI (mapP p s) (mapK p s (startI p a))).toNat
include hp
theorem mapG_seg {w : Wk} (h : OkW p w) : mapG p s (segI p w).toNat = (segI (mapP p s) (mapK p s w)).toNat := by
  have hn := seg_bounds h
  have hs := start_ok hp (k := segI p w) hn.1 hn.2
  unfold mapG
  rw [show (((segI p w).toNat : Nat) : Int) = segI p w by omega]
  rcases seg_same hs.1 h hs.2 with e | e
  · rw [e]
  · rw [e, mapK_back s0 s7, seg_back]
theorem mapG_on {a b : Nat} (h : On p hp a b) : On (mapP p s) (mapP_ok hp s0 s7) (mapG p s a) (mapG p s b) := by
  have hq := mapP_ok hp s0 s7
  have ha := (h.lt hp).1
  have hst := (sys p hp).start_V a ha
  have hsg : (segI p (startI p a)).toNat = a := (sys p hp).seg_start a ha
  refine h.min hp (Q := fun b => On (mapP p s) hq (mapG p s a) (mapG p s b)) (fun w hw hr => ?_) ?_
  · refine hr.trans hq ?_
    have := On.step hq (mapK_ok s0 s7 hw)
    rw [mapK_step hp s0 s7 hw, ← mapG_seg hp s0 s7 hw, ← mapG_seg hp s0 s7 (hw.step hp)] at this
    exact this
  · exact On.refl hq (seg_lt hq (mapK_ok s0 s7 hst))
end

theorem mapK_comp {p : Pan} {a b : Int} (a0 : 0 ≤ a) (a7 : a ≤ 7) (b0 : 0 ≤ b) (b7 : b ≤ 7) (w : Wk) : mapK (mapP p a) b (mapK p a w) = mapK p (compK a b) w := by
  have h1 := (mapX_comp p.W p.H w.X w.Y a0 a7 b0 b7).1
  unfold mapK
  have h1' : mapX (mapP p a).W (mapP p a).H (mapX p.W p.H w.X w.Y a).1 (mapX p.W p.H w.X w.Y a).2 b = mapX p.W p.H w.X w.Y (compK a b) := h1
  simp only []
  rw [h1']
  congr 1
  · rcases sym_cases a0 a7 with rfl | rfl | rfl | rfl | rfl | rfl | rfl | rfl <;> rcases sym_cases b0 b7 with rfl | rfl | rfl | rfl | rfl | rfl | rfl | rfl <;> simp [mapD, compK, exchK]
  · rcases sym_cases a0 a7 with rfl | rfl | rfl | rfl | rfl | rfl | rfl | rfl <;> rcases sym_cases b0 b7 with rfl | rfl | rfl | rfl | rfl | rfl | rfl | rfl <;> simp [mapD, compK, exchK]
theorem mapK_zero (p : Pan) (w : Wk) : mapK p 0 w = w := by
  unfold mapK
  rw [mapX_zero]
  simp [mapD]
theorem segN_map (p : Pan) (s : Int) : segN (mapP p s) = segN p := by
  unfold segN
  congr 1
  show 4 * mapW p.W p.H s * mapH p.W p.H s = 4 * p.W * p.H
  unfold mapW mapH
  split
  · rw [Int.mul_assoc, Int.mul_comm p.H, ← Int.mul_assoc]
  · rfl
theorem mapG_back {p : Pan} (hp : Ok p) {s : Int} (s0 : 0 ≤ s) (s7 : s ≤ 7) {a : Nat} (ha : a < segN p) : mapG (mapP p s) (invK s) (mapG p s a) = a := by
  obtain ⟨⟨i0, i7⟩, i1, i2⟩ := invK_bd s0 s7
  have hst : OkW p (startI p a) := (sys p hp).start_V a ha
  have hsg : (segI p (startI p a)).toNat = a := (sys p hp).seg_start a ha
  have hq := mapP_ok hp s0 s7
  have h1 : mapG p s a = (segI (mapP p s) (mapK p s (startI p a))).toNat := rfl
  rw [h1, mapG_seg hq i0 i7 (mapK_ok s0 s7 hst), mapK_comp s0 s7 i0 i7, map_comp hp s0 s7 i0 i7, i1, mapK_zero, mapP_zero ⟨hp.w1, hp.w8⟩]
  exact hsg
theorem on_cast {p q : Pan} (e : q = p) (hq : Ok q) (hp : Ok p) {a b : Nat} (h : On q hq a b) : On p hp a b := by
  subst e
  exact h
/-- No symmetry changes the number of curves. -/
theorem map_cnt {p : Pan} (hp : Ok p) {s : Int} (s0 : 0 ≤ s) (s7 : s ≤ 7) : cntP (mapP p s) = cntP p := by
  obtain ⟨⟨i0, i7⟩, i1, i2⟩ := invK_bd s0 s7
  have hq := mapP_ok hp s0 s7
  obtain ⟨reps, hr⟩ := (sys p hp).traced (segN p) (Nat.le_refl _)
  have h1 := (sys p hp).traced_reps hr
  have h2 : Reps (On p hp) (· < segN p) reps := ⟨h1.mem, h1.apart.imp fun h k => h k.2, fun a ha => by
    obtain ⟨b, hb, k⟩ := h1.all a ha
    exact ⟨b, hb, ha, k⟩⟩
  have hN := segN_map p s
  have hback : mapP (mapP p s) (invK s) = p := by rw [map_comp hp s0 s7 i0 i7, i1, mapP_zero ⟨hp.w1, hp.w8⟩]
  have lt1 : ∀ a, a < segN p → mapG p s a < segN (mapP p s) := fun a ha => seg_lt hq (mapK_ok s0 s7 ((sys p hp).start_V a ha))
  have onto : ∀ b, b < segN (mapP p s) → ∃ a, a < segN p ∧ mapG p s a = b := by
    intro b hb
    have hl := seg_lt (mapP_ok hq i0 i7) (mapK_ok i0 i7 ((sys _ hq).start_V b hb))
    have hl2 : mapG (mapP p s) (invK s) b < segN p := by
      have : segN (mapP (mapP p s) (invK s)) = segN p := by rw [hback]
      rw [← this]
      exact hl
    refine ⟨_, hl2, ?_⟩
    have hst : OkW (mapP p s) (startI (mapP p s) b) := (sys _ hq).start_V b hb
    have hsg : (segI (mapP p s) (startI (mapP p s) b)).toNat = b := (sys _ hq).seg_start b hb
    have hok := mapK_ok i0 i7 hst
    have h5 : mapG (mapP p s) (invK s) b = (segI (mapP (mapP p s) (invK s)) (mapK (mapP p s) (invK s) (startI (mapP p s) b))).toNat := rfl
    have h6 := mapG_seg (mapP_ok hq i0 i7) s0 s7 hok
    rw [← h5, mapK_comp i0 i7 s0 s7, i2, mapK_zero, map_comp hq i0 i7 s0 s7, i2, mapP_zero ⟨hq.w1, hq.w8⟩, hback] at h6
    rw [h6]
    exact hsg
  have h3 := reps_map (S := On (mapP p s) hq) (E := (· < segN (mapP p s))) (mapG p s) lt1 (fun b hb => by
    obtain ⟨a, ha, e⟩ := onto b hb
    exact ⟨a, ha, by rw [e]; exact On.refl hq hb⟩) (fun a b c h k => h.trans hq k) (fun a b ha hb => ⟨fun h => mapG_on hp s0 s7 h, fun h => by
      have h4 := mapG_on hq i0 i7 h
      rw [mapG_back hp s0 s7 ha, mapG_back hp s0 s7 hb] at h4
      exact on_cast hback _ _ h4⟩) h2
  rw [cnt_reps hq h3, cnt_reps hp h2]
  simp
end Knot

namespace Knot

/-! ### Orbits of points, in order -/

/-- A point stands before another one: by Y, then by X. -/
def lt2 (a b : Int × Int) : Prop := a.2 < b.2 ∨ (a.2 = b.2 ∧ a.1 < b.1)
instance (a b : Int × Int) : Decidable (lt2 a b) := by unfold lt2; exact inferInstance
theorem lt2_irr (a : Int × Int) : ¬ lt2 a a := by unfold lt2; omega
theorem lt2_trans {a b c : Int × Int} (h : lt2 a b) (k : lt2 b c) : lt2 a c := by unfold lt2 at *; omega
theorem lt2_asym {a b : Int × Int} (h : lt2 a b) : ¬ lt2 b a := fun k => lt2_irr a (lt2_trans h k)
theorem lt2_tri (a b : Int × Int) (h : ¬ lt2 a b) (k : ¬ lt2 b a) : a = b := by unfold lt2 at *; exact Prod.ext (by omega) (by omega)
/-- Strictly in order. -/
abbrev Srt (l : List (Int × Int)) : Prop := l.Pairwise lt2
theorem srt_ext : ∀ {l m : List (Int × Int)}, Srt l → Srt m → (∀ q, q ∈ l ↔ q ∈ m) → l = m
  | [], [], _, _, _ => rfl
  | [], b :: m, _, _, h => absurd ((h b).2 (by simp)) (by simp)
  | a :: l, [], _, _, h => absurd ((h a).1 (by simp)) (by simp)
  | a :: l, b :: m, hl, hm, h => by
    have hl' := List.pairwise_cons.1 hl
    have hm' := List.pairwise_cons.1 hm
    have e : a = b := by
      have h1 : a ∈ b :: m := (h a).1 (by simp)
      have h2 : b ∈ a :: l := (h b).2 (by simp)
      rcases List.mem_cons.1 h1 with h1 | h1
      · exact h1
      · rcases List.mem_cons.1 h2 with h2 | h2
        · exact h2.symm
        · exact absurd (hm'.1 a h1) (lt2_asym (hl'.1 b h2))
    subst e
    congr 1
    refine srt_ext hl'.2 hm'.2 fun q => ?_
    have hq := h q
    constructor
    · intro hql
      rcases List.mem_cons.1 (hq.1 (List.mem_cons_of_mem _ hql)) with e | e
      · subst e; exact absurd (hl'.1 q hql) (lt2_irr q)
      · exact e
    · intro hqm
      rcases List.mem_cons.1 (hq.2 (List.mem_cons_of_mem _ hqm)) with e | e
      · subst e; exact absurd (hm'.1 q hqm) (lt2_irr q)
      · exact e
/-- A point put into its place, unless it stands there. -/
def insP : List (Int × Int) → Int × Int → List (Int × Int)
  | [], x => [x]
  | a :: l, x => if lt2 x a then x :: a :: l else if x = a then a :: l else a :: insP l x
theorem mem_insP (x q : Int × Int) : ∀ l, q ∈ insP l x ↔ q = x ∨ q ∈ l
  | [] => by simp [insP]
  | a :: l => by
    unfold insP
    split
    · simp
    · split
      · rename_i h; subst h; simp
      · rw [List.mem_cons, mem_insP x q l, List.mem_cons]
        constructor
        · rintro (h | h | h) <;> simp [h]
        · rintro (h | h | h) <;> simp [h]
theorem srt_insP (x : Int × Int) : ∀ l, Srt l → Srt (insP l x)
  | [], _ => by simp [insP]
  | a :: l, h => by
    have h' := List.pairwise_cons.1 h
    unfold insP
    split
    · rename_i hx
      refine List.pairwise_cons.2 ⟨fun b hb => ?_, h⟩
      rcases List.mem_cons.1 hb with e | e
      · subst e; exact hx
      · exact lt2_trans hx (h'.1 b e)
    · split
      · exact h
      · rename_i h1 h2
        refine List.pairwise_cons.2 ⟨fun b hb => ?_, srt_insP x l h'.2⟩
        rcases (mem_insP x b l).1 hb with e | e
        · subst e
          exact Classical.byContradiction fun h3 => h2 (lt2_tri b a h1 h3)
        · exact h'.1 b e
/-- Points in order, each once. -/
def orbL : List (Int × Int) → List (Int × Int)
  | [] => []
  | x :: l => insP (orbL l) x
theorem mem_orbL (q : Int × Int) : ∀ l, q ∈ orbL l ↔ q ∈ l
  | [] => by simp [orbL]
  | x :: l => by rw [orbL, mem_insP, mem_orbL q l, List.mem_cons]
theorem srt_orbL : ∀ l, Srt (orbL l)
  | [] => by simp [orbL]
  | x :: l => srt_insP x _ (srt_orbL l)
theorem orbL_is {l m : List (Int × Int)} (h : Srt m) (k : ∀ q, q ∈ m ↔ q ∈ l) : m = orbL l :=
  srt_ext h (srt_orbL l) fun q => (k q).trans (mem_orbL q l).symm
/-- A point laid at the place behind all that stand before it keeps the order. -/
theorem srt_put {l : List (Int × Int)} {x : Int × Int} {k : Nat} (h : Srt l) (hk : k ≤ l.length) (h1 : ∀ j (hj : j < l.length), k ≤ j → lt2 x l[j]) (h2 : ∀ (h0 : 0 < k), lt2 l[k - 1] x) : Srt (l.take k ++ x :: l.drop k) := by
  refine List.pairwise_append.2 ⟨h.sublist (List.take_sublist _ _), List.pairwise_cons.2 ⟨fun b hb => ?_, h.sublist (List.drop_sublist _ _)⟩, fun a ha b hb => ?_⟩
  · obtain ⟨i, hi, rfl⟩ := List.getElem_of_mem hb
    rw [List.length_drop] at hi
    rw [List.getElem_drop]
    exact h1 _ (by omega) (by omega)
  · obtain ⟨i, hi, rfl⟩ := List.getElem_of_mem ha
    rw [List.length_take] at hi
    rw [List.getElem_take]
    have hpw := List.pairwise_iff_getElem.1 h
    have hax : lt2 l[i] x := by
      rcases Nat.lt_or_ge i (k - 1) with h3 | h3
      · exact lt2_trans (hpw i (k - 1) (by omega) (by omega) h3) (h2 (by omega))
      · obtain rfl : i = k - 1 := by omega
        exact h2 (by omega)
    rcases List.mem_cons.1 hb with e | e
    · subst e; exact hax
    · obtain ⟨j, hj, rfl⟩ := List.getElem_of_mem e
      rw [List.length_drop] at hj
      rw [List.getElem_drop]
      exact hpw _ _ (by omega) (by omega) (by omega)
theorem mem_put {l : List (Int × Int)} {x q : Int × Int} {k : Nat} : q ∈ l.take k ++ x :: l.drop k ↔ q = x ∨ q ∈ l := by
  rw [List.mem_append, List.mem_cons]
  constructor
  · rintro (h | h | h)
    · exact .inr (List.mem_of_mem_take h)
    · exact .inl h
    · exact .inr (List.mem_of_mem_drop h)
  · rintro (h | h)
    · exact .inr (.inl h)
    · rw [← List.take_append_drop k l, List.mem_append] at h
      rcases h with h | h
      · exact .inl h
      · exact .inr (.inr h)

/-! ### The number of an orbit's points divides the number of symmetries -/

def maskB (f : Nat → Bool) : Nat := (if f 0 then 1 else 0) + (if f 1 then 2 else 0) + (if f 2 then 4 else 0) + (if f 3 then 8 else 0) + (if f 4 then 16 else 0) + (if f 5 then 32 else 0) + (if f 6 then 64 else 0) + (if f 7 then 128 else 0)
theorem maskB_bit (f : Nat → Bool) : maskB f < 256 ∧ ∀ i, i < 8 → (maskB f).testBit i = f i := by
  have key : ∀ a b c d e g h k : Bool, (if a then 1 else 0) + (if b then 2 else 0) + (if c then 4 else 0) + (if d then 8 else 0) + (if e then 16 else 0) + (if g then 32 else 0) + (if h then 64 else 0) + (if k then 128 else 0) < 256 ∧
      ∀ i, i < 8 → ((if a then 1 else 0) + (if b then 2 else 0) + (if c then 4 else 0) + (if d then 8 else 0) + (if e then 16 else 0) + (if g then 32 else 0) + (if h then 64 else 0) + (if k then 128 else 0) : Nat).testBit i = [a, b, c, d, e, g, h, k].getD i false := by
    intro a b c d e g h k
    cases a <;> cases b <;> cases c <;> cases d <;> cases e <;> cases g <;> cases h <;> cases k <;> decide
  obtain ⟨k1, k2⟩ := key (f 0) (f 1) (f 2) (f 3) (f 4) (f 5) (f 6) (f 7)
  refine ⟨k1, fun i hi => ?_⟩
  rw [maskB, k2 i hi]
  rcases (show i = 0 ∨ i = 1 ∨ i = 2 ∨ i = 3 ∨ i = 4 ∨ i = 5 ∨ i = 6 ∨ i = 7 by omega) with rfl | rfl | rfl | rfl | rfl | rfl | rfl | rfl <;> rfl
/-- Composition and inverse at numbers. -/
def compN (a b : Nat) : Nat := (if b < 4 then a else a / 4 * 4 + a % 2 * 2 + a / 2 % 2) ^^^ b
def invN (a : Nat) : Nat := if a < 4 then a else a / 4 * 4 + a % 2 * 2 + a / 2 % 2
def grpB (g : Nat) : Bool := g.testBit 0 && (List.range 8).all fun a => (List.range 8).all fun b => !(g.testBit a && g.testBit b) || g.testBit (compN a b)
def elsB (g : Nat) : List Nat := (List.range 8).filter fun a => g.testBit a
def repsB (g h : Nat) : List Nat := (elsB g).filter fun a => (List.range 8).all fun b => !(g.testBit b && decide (b < a) && h.testBit (compN a (invN b)))
theorem orb_fin : ∀ g, g < 256 → grpB g = true → ∀ h, h < 256 → grpB h = true → (elsB g).length % (repsB g h).length = 0 ∧ 0 < (repsB g h).length := by decide +kernel

section
variable {f : Nat → Int × Int} {G S : Nat → Bool}
theorem count_eq {α β : Type} {l : List α} {m : List β} (r : β → α) (hl : l.Nodup) (hm : m.Nodup) (hr : ∀ x ∈ m, ∀ y ∈ m, r x = r y → x = y) (h : ∀ q, q ∈ l ↔ ∃ x ∈ m, r x = q) : l.length = m.length := by
  have hn : (m.map r).Nodup := by
    unfold List.Nodup
    rw [List.pairwise_map]
    refine List.Pairwise.imp_of_mem ?_ hm
    intro x y hx hy hxy e
    exact hxy (hr x hx y hy e)
  have := (List.perm_ext_iff_of_nodup hl hn).2 fun q => by rw [h, List.mem_map]
  rw [this.length_eq, List.length_map]
theorem orb_count (hG : grpB (maskB G) = true) (hS : grpB (maskB S) = true) (hf : ∀ a b, a < 8 → b < 8 → G a = true → G b = true → (f a = f b ↔ S (compN a (invN b)) = true)) :
    ∀ l : List Nat, (∀ a, a ∈ l ↔ a < 8 ∧ G a = true) → l.Nodup → l.length % (orbL (l.map f)).length = 0 ∧ 0 < (orbL (l.map f)).length := by
  intro l hl hn
  obtain ⟨g1, g2⟩ := maskB_bit G
  obtain ⟨s1, s2⟩ := maskB_bit S
  have hc : ∀ a b, a < 8 → b < 8 → compN a (invN b) < 8 := by
    have h : ∀ a, a < 8 → ∀ b, b < 8 → compN a (invN b) < 8 := by decide
    exact fun a b h1 h2 => h a h1 b h2
  have key := orb_fin _ g1 hG _ s1 hS
  have e1 : l.length = (elsB (maskB G)).length := by
    refine count_eq (r := id) hn ?_ (fun _ _ _ _ e => e) fun q => ?_
    · exact List.Nodup.sublist List.filter_sublist List.nodup_range
    · rw [hl]
      simp only [elsB, List.mem_filter, List.mem_range, id]
      constructor
      · rintro ⟨h1, h2⟩
        exact ⟨q, ⟨h1, by rw [g2 q h1]; exact h2⟩, rfl⟩
      · rintro ⟨x, ⟨h1, h2⟩, rfl⟩
        exact ⟨h1, by rw [g2 x h1] at h2; exact h2⟩
  have hrep : ∀ a, a ∈ repsB (maskB G) (maskB S) ↔ a < 8 ∧ G a = true ∧ ∀ b, b < 8 → G b = true → b < a → f a ≠ f b := by
    intro a
    simp only [repsB, elsB, List.mem_filter, List.mem_range, List.all_eq_true, Bool.not_eq_true', Bool.and_eq_false_imp, Bool.and_eq_true, decide_eq_true_eq]
    constructor
    · rintro ⟨⟨h1, h2⟩, h3⟩
      rw [g2 a h1] at h2
      refine ⟨h1, h2, fun b hb hGb hba e => ?_⟩
      have h4 := h3 b hb ⟨by rw [g2 b hb]; exact hGb, hba⟩
      rw [s2 _ (hc a b h1 hb)] at h4
      rw [(hf a b h1 hb h2 hGb).1 e] at h4
      exact absurd h4 (by simp)
    · rintro ⟨h1, h2, h3⟩
      refine ⟨⟨h1, by rw [g2 a h1]; exact h2⟩, fun b hb => ?_⟩
      rintro ⟨h4, h5⟩
      rw [g2 b hb] at h4
      rw [s2 _ (hc a b h1 hb)]
      cases h6 : S (compN a (invN b))
      · rfl
      · exact absurd ((hf a b h1 hb h2 h4).2 h6) (h3 b hb h4 h5)
  have e2 : (orbL (l.map f)).length = (repsB (maskB G) (maskB S)).length := by
    refine count_eq (r := f) ?_ ?_ ?_ fun q => ?_
    · exact List.Pairwise.imp (R := lt2) (fun {a b} h (e : a = b) => lt2_irr b (by rw [e] at h; exact h)) (srt_orbL (l.map f))
    · exact List.Nodup.sublist List.filter_sublist (List.Nodup.sublist List.filter_sublist List.nodup_range)
    · intro x hx y hy e
      obtain ⟨x8, xG, xm⟩ := (hrep x).1 hx
      obtain ⟨y8, yG, ym⟩ := (hrep y).1 hy
      rcases Nat.lt_trichotomy x y with h | h | h
      · exact absurd e.symm (ym x x8 xG h)
      · exact h
      · exact absurd e (xm y y8 yG h)
    · rw [mem_orbL, List.mem_map]
      constructor
      · rintro ⟨a, ha, rfl⟩
        obtain ⟨a8, aG⟩ := (hl a).1 ha
        -- the first symmetry that moves to the same point
        have : ∀ n a, a < n → a < 8 → G a = true → ∃ x ∈ repsB (maskB G) (maskB S), f x = f a := by
          intro n
          induction n with
          | zero => intro a h; omega
          | succ n ih =>
            intro a han a8 aG
            by_cases h : ∃ b, b < 8 ∧ G b = true ∧ b < a ∧ f a = f b
            · obtain ⟨b, b8, bG, hba, e⟩ := h
              obtain ⟨x, hx, ex⟩ := ih b (by omega) b8 bG
              exact ⟨x, hx, ex.trans e.symm⟩
            · exact ⟨a, (hrep a).2 ⟨a8, aG, fun b b8 bG hba e => h ⟨b, b8, bG, hba, e⟩⟩, rfl⟩
        exact this 8 a a8 a8 aG
      · rintro ⟨x, hx, rfl⟩
        obtain ⟨x8, xG, _⟩ := (hrep x).1 hx
        exact ⟨x, (hl x).2 ⟨x8, xG⟩, rfl⟩
  rw [e1, e2]
  exact key
end
end Knot

namespace Knot

/-! ### Equal neighbours struck out of a list in order -/

theorem lt2_le_of {a b : Int × Int} (h : ¬ lt2 b a) (k : ¬ a = b) : lt2 a b :=
  Classical.byContradiction fun h2 => k (lt2_tri a b h2 h)
/-- The first n points of l have been looked at; k of them stand at the head of m, from place k on m is as l. -/
structure CptI (l m : List (Int × Int)) (n k : Nat) : Prop where
  len : m.length = l.length
  nle : n ≤ l.length
  klt : k ≤ n
  pos : 1 ≤ n
  high : ∀ j, k ≤ j → m[j]? = l[j]?
  srt : Srt (m.take k)
  mem : ∀ q, q ∈ m.take k ↔ q ∈ l.take n
theorem CptI.start {l : List (Int × Int)} (h : 1 ≤ l.length) : CptI l l 1 1 := by
  refine ⟨rfl, h, Nat.le_refl _, Nat.le_refl _, fun _ _ => rfl, ?_, fun q => Iff.rfl⟩
  match l, h with
  | a :: t, _ => simp
theorem take_set_self {l : List (Int × Int)} {k : Nat} {x : Int × Int} (h : k < l.length) : (l.set k x).take (k + 1) = l.take k ++ [x] := by
  apply List.ext_getElem?
  intro j
  rcases Nat.lt_trichotomy j k with e | e | e
  · rw [List.getElem?_take_of_lt (by omega), List.getElem?_set_ne (by omega), List.getElem?_append_left (by rw [List.length_take]; omega), List.getElem?_take_of_lt e]
  · subst e
    rw [List.getElem?_take_of_lt (by omega), List.getElem?_set_self h, List.getElem?_append_right (by rw [List.length_take]; omega), List.length_take, show j - min j l.length = 0 by omega]
    rfl
  · rw [List.getElem?_take_eq_none (by omega), List.getElem?_eq_none (by simp; omega)]
theorem CptI.keep {l m : List (Int × Int)} {n k : Nat} (h : CptI l m n k) (hs : l.Pairwise (fun a b => ¬ lt2 b a)) (hn : n < l.length) (hne : l[n] ≠ l[n - 1]) : CptI l (m.set k l[n]) (n + 1) (k + 1) := by
  have hk := h.klt
  have hp := h.pos
  have hpw := List.pairwise_iff_getElem.1 hs
  have hml := h.len
  have ht := take_set_self (l := m) (k := k) (x := l[n]) (by omega)
  refine ⟨by rw [List.length_set, h.len], hn, by omega, by omega, fun j hj => ?_, ?_, fun q => ?_⟩
  · rw [List.getElem?_set_ne (by omega)]
    exact h.high j (by omega)
  · rw [ht]
    refine List.pairwise_append.2 ⟨h.srt, by simp, fun a ha b hb => ?_⟩
    rw [List.mem_singleton] at hb
    subst hb
    have ha2 := (h.mem a).1 ha
    obtain ⟨i, hi, rfl⟩ := List.getElem_of_mem ha2
    rw [List.length_take] at hi
    rw [List.getElem_take]
    refine lt2_le_of (hpw i n (by omega) hn (by omega)) fun e => hne ?_
    rcases Nat.lt_or_ge i (n - 1) with h1 | h1
    · have h2 := hpw i (n - 1) (by omega) (by omega) h1
      have h3 := hpw (n - 1) n (by omega) hn (by omega)
      rw [e] at h2
      exact lt2_tri _ _ h3 h2
    · obtain rfl : i = n - 1 := by omega
      exact e.symm
  · rw [ht, List.mem_append, h.mem, List.take_succ_eq_append_getElem hn, List.mem_append]
theorem CptI.skip {l m : List (Int × Int)} {n k : Nat} (h : CptI l m n k) (hn : n < l.length) (he : l[n] = l[n - 1]) : CptI l m (n + 1) k := by
  have hp := h.pos
  refine ⟨h.len, hn, by have := h.klt; omega, by omega, h.high, h.srt, fun q => ?_⟩
  rw [h.mem, List.take_succ_eq_append_getElem hn, List.mem_append, List.mem_singleton]
  constructor
  · exact .inl
  · rintro (h1 | h1)
    · exact h1
    · rw [h1, he]
      refine List.mem_iff_getElem?.2 ⟨n - 1, ?_⟩
      rw [List.getElem?_take_of_lt (by omega), List.getElem?_eq_getElem (by omega)]
theorem CptI.done {l m : List (Int × Int)} {k : Nat} (h : CptI l m l.length k) : Srt (m.take k) ∧ ∀ q, q ∈ m.take k ↔ q ∈ l :=
  ⟨h.srt, fun q => by rw [h.mem, List.take_length]⟩
theorem CptI.same {l : List (Int × Int)} {n : Nat} (h : CptI l l n n) (hs : l.Pairwise (fun a b => ¬ lt2 b a)) (hn : n < l.length) (hne : l[n] ≠ l[n - 1]) : CptI l l (n + 1) (n + 1) := by
  have := h.keep hs hn hne
  rwa [List.set_getElem_self] at this
end Knot

namespace Knot

/-! ### Panels made symmetric: points moved again and again -/

/-- The number of a point that a symmetry has moved some times. -/
def itN (W H s k : Int) : Nat → Int
  | 0 => k
  | i + 1 => mapN W H s (itN W H s k i)
/-- A kind that a symmetry has moved some times. -/
def itK (s kd : Int) : Nat → Int
  | 0 => kd
  | i + 1 => kindX (itK s kd i) s
/-- After how many moves a point is back. -/
def perN (W H s k : Int) : Nat := if itN W H s k 1 = k then 1 else if itN W H s k 2 = k then 2 else if itN W H s k 3 = k then 3 else 4
/-- The places of a point, one after the other. -/
def cycL (W H s k : Int) : Nat → List Int
  | 0 => []
  | m + 1 => cycL W H s k m ++ [itN W H s k m]
def wrS (W H s k kd : Int) (out : List Int) : Nat → List Int
  | 0 => out
  | m + 1 => (wrS W H s k kd out m).set (itN W H s k m).toNat (itK s kd m)
def mkS (W H s k : Int) (done : List Bool) : Nat → List Bool
  | 0 => done
  | m + 1 => (mkS W H s k done m).set (itN W H s k m).toNat true
/-- The kind that a cycle begins with. -/
def kd0 (W H s : Int) (B : List Int) (k : Int) : Int := if 4 ≤ s ∧ perN W H s k % 2 = 1 then 0 else gI B k
def symTo (W H s : Int) (B : List Int) : Nat → List Int × List Bool
  | 0 => (B, List.replicate B.length false)
  | k + 1 => if gB (symTo W H s B k).2 k then symTo W H s B k
    else (wrS W H s k (kd0 W H s B k) (symTo W H s B k).1 (perN W H s k), mkS W H s k (symTo W H s B k).2 (perN W H s k))

theorem cycL_len (W H s k : Int) : ∀ m, (cycL W H s k m).length = m
  | 0 => rfl
  | m + 1 => by simp [cycL, cycL_len W H s k m]
theorem cycL_get (W H s k : Int) : ∀ m (i : Nat), i < m → gI (cycL W H s k m) i = itN W H s k i
  | 0, i, h => by omega
  | m + 1, i, h => by
    have hl := cycL_len W H s k m
    by_cases e : i = m
    · subst e
      simp [cycL, gI, List.getD, hl]
    · have ih := cycL_get W H s k m i (by omega)
      rw [← ih]
      simp [cycL, gI, List.getD, List.getElem?_append, hl, show i < m by omega]
theorem wrS_len (W H s k kd : Int) (out : List Int) : ∀ m, (wrS W H s k kd out m).length = out.length
  | 0 => rfl
  | m + 1 => by rw [wrS, List.length_set, wrS_len W H s k kd out m]
theorem mkS_len (W H s k : Int) (done : List Bool) : ∀ m, (mkS W H s k done m).length = done.length
  | 0 => rfl
  | m + 1 => by rw [mkS, List.length_set, mkS_len W H s k done m]
theorem symTo_len (W H s : Int) (B : List Int) : ∀ k, (symTo W H s B k).1.length = B.length ∧ (symTo W H s B k).2.length = B.length
  | 0 => by simp [symTo]
  | k + 1 => by
    have ih := symTo_len W H s B k
    unfold symTo
    split
    · exact ih
    · rw [wrS_len, mkS_len]
      exact ih
theorem symTo_yes {W H s : Int} {B : List Int} {k : Nat} (h : gB (symTo W H s B k).2 k = true) : symTo W H s B (k + 1) = symTo W H s B k := by rw [symTo, if_pos h]
theorem symTo_no {W H s : Int} {B : List Int} {k : Nat} (h : gB (symTo W H s B k).2 k = false) :
    symTo W H s B (k + 1) = (wrS W H s k (kd0 W H s B k) (symTo W H s B k).1 (perN W H s k), mkS W H s k (symTo W H s B k).2 (perN W H s k)) := by rw [symTo, if_neg (by simp [h])]

section
variable {W H s : Int} (hW : 1 ≤ W ∧ W ≤ 8) (hH : 1 ≤ H ∧ H ≤ 8) (s0 : 0 ≤ s) (s7 : s ≤ 7) (hq : 4 ≤ s → W = H)
include hW hH s0 s7 hq
omit hq in
theorem itN_in {k : Int} (k0 : 0 ≤ k) (k1 : k < inner W H) : ∀ i, 0 ≤ itN W H s k i ∧ itN W H s k i < inner W H
  | 0 => ⟨k0, k1⟩
  | i + 1 => by
    have ih := itN_in k0 k1 i
    exact mapN_in hW hH s0 s7 ih.1 ih.2
omit hW hH s0 s7 in
theorem sq_map : mapW W H s = W ∧ mapH W H s = H := by
  unfold mapW mapH
  by_cases h : 4 ≤ s
  · rw [if_pos h, if_pos h]
    have := hq h
    omega
  · rw [if_neg h, if_neg h]
    exact ⟨rfl, rfl⟩
omit hH in
/-- The point of a moved number is the moved point. -/
theorem mapN_at {k : Int} (k0 : 0 ≤ k) (k1 : k < inner W H) : (ptX W (mapN W H s k), ptY W (mapN W H s k)) = mapX W H (ptX W k) (ptY W k) s := by
  obtain ⟨a, b, c, d, e⟩ := pt_in hW.1 hW.2 k0 k1
  obtain ⟨a', b', c', d', e'⟩ := mapX_in a b c d e s0 s7
  have hm := sq_map hq
  rw [hm.1] at b'
  rw [hm.2] at d'
  have := (num_pt (H := H) hW.1 hW.2 c' d' a' b' e').2.2
  unfold mapN
  rw [hm.1]
  exact Prod.ext this.1 this.2
theorem itN_at {k : Int} (k0 : 0 ≤ k) (k1 : k < inner W H) (i : Nat) : mapX W H (ptX W (itN W H s k i)) (ptY W (itN W H s k i)) s = (ptX W (itN W H s k (i + 1)), ptY W (itN W H s k (i + 1))) := by
  have h := itN_in hW hH s0 s7 k0 k1 i
  exact (mapN_at hW s0 s7 hq h.1 h.2).symm
omit hH s0 s7 hq in
theorem pt_inj {j k : Int} (j0 : 0 ≤ j) (k0 : 0 ≤ k) (h1 : ptX W j = ptX W k) (h2 : ptY W j = ptY W k) : j = k := by
  rw [← pt_num hW.1 hW.2 j0, ← pt_num hW.1 hW.2 k0, h1, h2]
theorem itN_four {k : Int} (k0 : 0 ≤ k) (k1 : k < inner W H) : itN W H s k 4 = k := by
  have h1 := itN_at hW hH s0 s7 hq k0 k1 0
  have h2 := itN_at hW hH s0 s7 hq k0 k1 1
  have h3 := itN_at hW hH s0 s7 hq k0 k1 2
  have h4 := itN_at hW hH s0 s7 hq k0 k1 3
  have hi := itN_in hW hH s0 s7 k0 k1 4
  have e0 : itN W H s k 0 = k := rfl
  rw [e0] at h1
  have key : mapX W H (mapX W H (mapX W H (mapX W H (ptX W k) (ptY W k) s).1 (mapX W H (ptX W k) (ptY W k) s).2 s).1 (mapX W H (mapX W H (ptX W k) (ptY W k) s).1 (mapX W H (ptX W k) (ptY W k) s).2 s).2 s).1
      (mapX W H (mapX W H (mapX W H (ptX W k) (ptY W k) s).1 (mapX W H (ptX W k) (ptY W k) s).2 s).1 (mapX W H (mapX W H (ptX W k) (ptY W k) s).1 (mapX W H (ptX W k) (ptY W k) s).2 s).2 s).2 s = (ptX W k, ptY W k) := by
    generalize ptX W k = x
    generalize ptY W k = y
    rcases sym_cases s0 s7 with rfl | rfl | rfl | rfl | rfl | rfl | rfl | rfl <;> simp [mapX] at hq ⊢ <;> omega
  rw [h1] at key
  simp only [Nat.zero_add, Nat.reduceAdd] at key h2 h3 h4
  rw [h2] at key
  simp only [] at key
  rw [h3] at key
  simp only [] at key
  rw [h4] at key
  exact pt_inj hW hi.1 k0 (congrArg Prod.fst key) (congrArg Prod.snd key)
theorem per_is {k : Int} (k0 : 0 ≤ k) (k1 : k < inner W H) : (1 ≤ perN W H s k ∧ perN W H s k ≤ 4) ∧ itN W H s k (perN W H s k) = k ∧ ∀ i, 1 ≤ i → i < perN W H s k → itN W H s k i ≠ k := by
  have h4 := itN_four hW hH s0 s7 hq k0 k1
  unfold perN
  split
  · exact ⟨by omega, by assumption, fun i _ _ => by omega⟩
  · rename_i n1
    split
    · exact ⟨by omega, by assumption, fun i _ _ => by obtain rfl : i = 1 := by omega
                                                      exact n1⟩
    · rename_i n2
      split
      · refine ⟨by omega, by assumption, fun i _ _ => ?_⟩
        rcases (show i = 1 ∨ i = 2 by omega) with rfl | rfl
        · exact n1
        · exact n2
      · rename_i n3
        refine ⟨by omega, h4, fun i _ _ => ?_⟩
        rcases (show i = 1 ∨ i = 2 ∨ i = 3 by omega) with rfl | rfl | rfl
        · exact n1
        · exact n2
        · exact n3
end
theorem itK_bd {s kd : Int} (h : 0 ≤ kd ∧ kd ≤ 2) : ∀ i, 0 ≤ itK s kd i ∧ itK s kd i ≤ 2
  | 0 => h
  | i + 1 => kindX_bd (itK_bd h i)
theorem itK_zero (s : Int) : ∀ i, itK s 0 i = 0
  | 0 => rfl
  | i + 1 => by rw [itK, itK_zero s i]; simp [kindX]
/-- Zeros over a cycle: what was written before does not matter. -/
theorem wr_zero (W H s k kd : Int) (out : List Int) (T : Nat) : wrS W H s k 0 (wrS W H s k kd out T) T = wrS W H s k 0 out T := by
  have miss : ∀ (c : Int) (o : List Int) (j m : Nat), (∀ i, i < m → (itN W H s k i).toNat ≠ j) → (wrS W H s k c o m)[j]? = o[j]? := by
    intro c o j m
    induction m with
    | zero => intro _; rfl
    | succ m ih =>
      intro h
      rw [wrS, List.getElem?_set_ne (h m (by omega)), ih (fun i hi => h i (by omega))]
  have hit : ∀ (o : List Int) (j m : Nat), (∃ i, i < m ∧ (itN W H s k i).toNat = j) → (wrS W H s k 0 o m)[j]? = if j < o.length then some 0 else none := by
    intro o j m
    induction m with
    | zero => rintro ⟨i, hi, _⟩; omega
    | succ m ih =>
      rintro ⟨i, hi, he⟩
      by_cases e : (itN W H s k m).toNat = j
      · rw [wrS, e, List.getElem?_set, if_pos rfl, wrS_len, itK_zero]
      · rw [wrS, List.getElem?_set_ne e]
        exact ih ⟨i, by rcases Nat.lt_or_ge i m with h | h
                        · exact h
                        · obtain rfl : i = m := by omega
                          exact absurd he e, he⟩
  apply List.ext_getElem?
  intro j
  by_cases h : ∃ i, i < T ∧ (itN W H s k i).toNat = j
  · rw [hit _ j T h, hit _ j T h, wrS_len]
  · have h' : ∀ i, i < T → (itN W H s k i).toNat ≠ j := fun i hi he => h ⟨i, hi, he⟩
    rw [miss _ _ j T h', miss _ _ j T h', miss _ _ j T h']
end Knot

namespace Knot

/-! ### The symmetries of a panel are a group, and orbits divide their number -/

theorem symsTo_mem (p : Pan) (s : Int) : ∀ k : Nat, s ∈ symsTo p k ↔ 0 ≤ s ∧ s < k ∧ mapP p s = p
  | 0 => by simp [symsTo]; omega
  | k + 1 => by
    by_cases h : mapP p k = p
    · rw [symsTo_yes h, List.mem_append, symsTo_mem p s k, List.mem_singleton]
      constructor
      · rintro (⟨a, b, c⟩ | e)
        · exact ⟨a, by omega, c⟩
        · subst e; exact ⟨by omega, by omega, h⟩
      · rintro ⟨a, b, c⟩
        by_cases e : s = k
        · exact .inr e
        · exact .inl ⟨a, by omega, c⟩
    · rw [symsTo_no h, symsTo_mem p s k]
      constructor
      · rintro ⟨a, b, c⟩; exact ⟨a, by omega, c⟩
      · rintro ⟨a, b, c⟩
        have : s ≠ k := fun e => h (e ▸ c)
        exact ⟨a, by omega, c⟩
theorem symsTo_nat (p : Pan) : ∀ k : Nat, ∃ l : List Nat, symsTo p k = l.map Int.ofNat ∧ l.Nodup ∧ ∀ a : Nat, a ∈ l ↔ a < k ∧ mapP p a = p
  | 0 => ⟨[], rfl, List.nodup_nil, fun a => by simp⟩
  | k + 1 => by
    obtain ⟨l, h1, h2, h3⟩ := symsTo_nat p k
    by_cases h : mapP p k = p
    · refine ⟨l ++ [k], by rw [symsTo_yes h, h1]; simp, ?_, fun a => ?_⟩
      · refine List.nodup_append.2 ⟨h2, by simp, ?_⟩
        intro a ha b hb e
        rw [List.mem_singleton] at hb
        have := ((h3 a).1 ha).1
        omega
      · rw [List.mem_append, h3, List.mem_singleton]
        constructor
        · rintro (⟨a1, a2⟩ | e)
          · exact ⟨by omega, a2⟩
          · subst e; exact ⟨by omega, h⟩
        · rintro ⟨a1, a2⟩
          by_cases e : a = k
          · exact .inr e
          · exact .inl ⟨by omega, a2⟩
    · refine ⟨l, by rw [symsTo_no h, h1], h2, fun a => ?_⟩
      rw [h3]
      constructor
      · rintro ⟨a1, a2⟩; exact ⟨by omega, a2⟩
      · rintro ⟨a1, a2⟩
        have : a ≠ k := fun e => h (e ▸ a2)
        exact ⟨by omega, a2⟩
theorem compK_nat {a b : Nat} (ha : a < 8) (hb : b < 8) : compK a b = ((compN a b : Nat) : Int) ∧ invK a = ((invN a : Nat) : Int) ∧ compN a b < 8 ∧ invN a < 8 := by
  have h : ∀ a : Nat, a < 8 → ∀ b : Nat, b < 8 → compK a b = ((compN a b : Nat) : Int) ∧ invK a = ((invN a : Nat) : Int) ∧ compN a b < 8 ∧ invN a < 8 := by decide
  exact h a ha b hb
theorem bset (f : Nat → Bool) (h0 : f 0 = true) (hc : ∀ a b, a < 8 → b < 8 → f a = true → f b = true → f (compN a b) = true) : grpB (maskB f) = true := by
  obtain ⟨_, h⟩ := maskB_bit f
  unfold grpB
  simp only [Bool.and_eq_true, List.all_eq_true, List.mem_range, Bool.or_eq_true, Bool.not_eq_true', Bool.and_eq_false_imp]
  refine ⟨by rw [h 0 (by omega)]; exact h0, fun a ha b hb => ?_⟩
  rw [h a ha, h b hb, h _ (compK_nat ha hb).2.2.1]
  by_cases e : f a = true ∧ f b = true
  · exact .inr (hc a b ha hb e.1 e.2)
  · refine .inl fun h1 => ?_
    cases h2 : f b
    · rfl
    · exact absurd ⟨h1, h2⟩ e
section
variable {p : Pan} (hp : Ok p)
include hp
theorem sym_comp {a b : Int} (a0 : 0 ≤ a) (a7 : a ≤ 7) (b0 : 0 ≤ b) (b7 : b ≤ 7) (ha : mapP p a = p) (hb : mapP p b = p) : mapP p (compK a b) = p := by
  rw [← map_comp hp a0 a7 b0 b7, ha, hb]
theorem sym_inv {a : Int} (a0 : 0 ≤ a) (a7 : a ≤ 7) (ha : mapP p a = p) : mapP p (invK a) = p := by
  obtain ⟨⟨i0, i7⟩, i1, i2⟩ := invK_bd a0 a7
  have h := map_comp hp a0 a7 i0 i7
  rw [ha, i1, mapP_zero ⟨hp.w1, hp.w8⟩] at h
  exact h
omit hp in
theorem sym_size {a : Int} (ha : mapP p a = p) : mapW p.W p.H a = p.W ∧ mapH p.W p.H a = p.H := ⟨congrArg Pan.W ha, congrArg Pan.H ha⟩
/-- Orbits of points divide the number of symmetries. -/
theorem orbit_div (x y : Int) : (symsTo p 8).length % (orbL ((symsTo p 8).map fun s => mapX p.W p.H x y s)).length = 0 ∧ 0 < (orbL ((symsTo p 8).map fun s => mapX p.W p.H x y s)).length := by
  obtain ⟨l, h1, h2, h3⟩ := symsTo_nat p 8
  have hx := fun (a b : Int) (a0 : 0 ≤ a) (a7 : a ≤ 7) (b0 : 0 ≤ b) (b7 : b ≤ 7) (ha : mapP p a = p) => (show mapX p.W p.H (mapX p.W p.H x y a).1 (mapX p.W p.H x y a).2 b = mapX p.W p.H x y (compK a b) by
    have h := (mapX_comp p.W p.H x y a0 a7 b0 b7).1
    rwa [(sym_size ha).1, (sym_size ha).2] at h)
  have key := orb_count (f := fun a => mapX p.W p.H x y a) (G := fun a => decide (mapP p a = p)) (S := fun a => decide (mapP p a = p) && decide (mapX p.W p.H x y a = (x, y)))
    (bset _ (by simpa using mapP_zero ⟨hp.w1, hp.w8⟩) fun a b ha hb h k => by
      simp only [decide_eq_true_eq] at h k ⊢
      rw [← (compK_nat ha hb).1]
      exact sym_comp hp (by omega) (by omega) (by omega) (by omega) h k)
    (bset _ (by simpa using ⟨mapP_zero ⟨hp.w1, hp.w8⟩, mapX_zero p.W p.H x y⟩) fun a b ha hb h k => by
      simp only [Bool.and_eq_true, decide_eq_true_eq] at h k ⊢
      rw [← (compK_nat ha hb).1]
      refine ⟨sym_comp hp (by omega) (by omega) (by omega) (by omega) h.1 k.1, ?_⟩
      rw [← hx a b (by omega) (by omega) (by omega) (by omega) h.1, h.2]
      exact k.2)
    (fun a b ha hb h k => by
      simp only [Bool.and_eq_true, decide_eq_true_eq] at h k ⊢
      have hc := compK_nat ha (compK_nat hb hb).2.2.2
      obtain ⟨⟨i0, i7⟩, i1, i2⟩ := invK_bd (a := (b : Int)) (by omega) (by omega)
      have hki := sym_inv hp (by omega) (by omega) k
      rw [← hc.1, ← (compK_nat hb hb).2.1, ← hx a (invK b) (by omega) (by omega) i0 i7 h]
      constructor
      · intro e
        refine ⟨sym_comp hp (by omega) (by omega) i0 i7 h hki, ?_⟩
        rw [e, hx b (invK b) (by omega) (by omega) i0 i7 k, i1, mapX_zero]
      · rintro ⟨_, e⟩
        have e2 := hx (invK b) b i0 i7 (by omega) (by omega) hki
        have e3 := mapX_comp p.W p.H (mapX p.W p.H x y a).1 (mapX p.W p.H x y a).2 i0 i7 (b := (b : Int)) (by omega) (by omega)
        rw [(sym_size hki).1, (sym_size hki).2, e, i2, mapX_zero] at e3
        exact e3.1.symm)
    l (fun a => by rw [h3]; simp) h2
  rw [h1]
  simpa [List.map_map, Function.comp_def] using key
end
end Knot

namespace Knot

/-! ### The symmetries of a panel are a group -/

theorem gI_append_zero {l m : List Int} (h : 0 < l.length) : gI (l ++ m) 0 = gI l 0 := by
  cases l with
  | nil => simp at h
  | cons a t => rfl
theorem symsTo_head {p : Pan} (hp : Ok p) : ∀ k : Nat, 0 < (symsTo p (k + 1)).length ∧ gI (symsTo p (k + 1)) 0 = 0
  | 0 => by
    have h0 : mapP p ((0 : Nat) : Int) = p := mapP_zero ⟨hp.w1, hp.w8⟩
    rw [symsTo_yes h0]
    simp [symsTo, gI]
  | k + 1 => by
    obtain ⟨h1, h2⟩ := symsTo_head hp k
    by_cases h : mapP p ((k + 1 : Nat) : Int) = p
    · rw [symsTo_yes h]
      exact ⟨by rw [List.length_append]; omega, by rw [gI_append_zero h1]; exact h2⟩
    · rw [symsTo_no h]
      exact ⟨h1, h2⟩
theorem syms_rng {p : Pan} {s : Int} (h : s ∈ symsTo p 8) : 0 ≤ s ∧ s ≤ 7 := by
  obtain ⟨a, b, _⟩ := (symsTo_mem p s 8).1 h
  exact ⟨a, by omega⟩
theorem syms_comp {p : Pan} (hp : Ok p) {a b : Int} (ha : a ∈ symsTo p 8) (hb : b ∈ symsTo p 8) : compK a b ∈ symsTo p 8 := by
  obtain ⟨a0, a7⟩ := syms_rng ha
  obtain ⟨b0, b7⟩ := syms_rng hb
  obtain ⟨c0, c7⟩ := compK_bd a0 a7 b0 b7
  exact (symsTo_mem p _ 8).2 ⟨c0, by omega, sym_comp hp a0 a7 b0 b7 ((symsTo_mem p a 8).1 ha).2.2 ((symsTo_mem p b 8).1 hb).2.2⟩
theorem take_contains {l : List Int} {n : Nat} {c x : Int} (hn : n < l.length) (hx : l[n] = x) : (l.take (n + 1)).contains c = ((l.take n).contains c || x == c) := by
  rw [List.take_succ_eq_append_getElem hn, hx, List.contains_eq_any_beq, List.contains_eq_any_beq, List.any_append]
  have e : (c == x) = (x == c) := by
    by_cases h : c = x
    · subst h; rfl
    · rw [beq_eq_false_iff_ne.2 h, beq_eq_false_iff_ne.2 (fun e => h e.symm)]
  simp [e]
end Knot

namespace Knot

/-! ### The order of panels; the least panel is the same for all panels that are alike -/

theorem cmpI_neg (a b : Int) : cmpI a b = -cmpI b a := by
  unfold cmpI
  split <;> split <;> (try split) <;> omega
theorem cmpI_zero {a b : Int} : cmpI a b = 0 ↔ a = b := by
  unfold cmpI
  split <;> (try split) <;> omega
theorem cmpI_trans {a b c : Int} (h : cmpI a b ≤ 0) (k : cmpI b c ≤ 0) : cmpI a c ≤ 0 ∧ (cmpI a c = 0 → cmpI a b = 0 ∧ cmpI b c = 0) := by
  unfold cmpI at *
  split at h <;> split at k <;> (try split at h) <;> (try split at k) <;> split <;> (try split) <;> (try split) <;> (try split) <;> (try split) <;> (try split) <;> omega
theorem cmpL_neg : ∀ s t : List Int, cmpL s t = -cmpL t s
  | [], [] => by simp [cmpL]
  | [], _ :: _ => by simp [cmpL]
  | _ :: _, [] => by simp [cmpL]
  | a :: s, b :: t => by
    have := cmpL_neg s t
    unfold cmpL
    split <;> split <;> (try split) <;> omega
theorem cmpL_zero : ∀ s t : List Int, cmpL s t = 0 ↔ s = t
  | [], [] => by simp [cmpL]
  | [], _ :: _ => by simp [cmpL]
  | _ :: _, [] => by simp [cmpL]
  | a :: s, b :: t => by
    have := cmpL_zero s t
    unfold cmpL
    by_cases h1 : a < b
    · rw [if_pos h1]
      simp
      intro h
      omega
    · rw [if_neg h1]
      by_cases h2 : b < a
      · rw [if_pos h2]
        simp
        intro h
        omega
      · rw [if_neg h2, this]
        simp
        intro _
        omega
theorem cmpL_trans : ∀ s t u : List Int, cmpL s t ≤ 0 → cmpL t u ≤ 0 → cmpL s u ≤ 0
  | [], [], _, _, k => k
  | [], _ :: _, [], _, k => by simp [cmpL] at k
  | [], _ :: _, _ :: _, _, _ => by simp [cmpL]
  | _ :: _, [], _, h, _ => by simp [cmpL] at h
  | _ :: _, _ :: _, [], _, k => by simp [cmpL] at k
  | a :: s, b :: t, c :: u, h, k => by
    have ih := cmpL_trans s t u
    unfold cmpL at h k ⊢
    by_cases h1 : a < b
    · by_cases k1 : b < c
      · rw [if_pos (by omega)]; omega
      · by_cases k2 : c < b
        · rw [if_neg k1, if_pos k2] at k; omega
        · rw [if_pos (by omega)]; omega
    · by_cases h2 : b < a
      · rw [if_neg h1, if_pos h2] at h; omega
      · rw [if_neg h1, if_neg h2] at h
        by_cases k1 : b < c
        · rw [if_pos (by omega)]; omega
        · by_cases k2 : c < b
          · rw [if_neg k1, if_pos k2] at k; omega
          · rw [if_neg k1, if_neg k2] at k
            rw [if_neg (by omega), if_neg (by omega)]
            exact ih h k
theorem cmpP_neg (p q : Pan) : cmpP p q = -cmpP q p := by
  have h1 := cmpI_neg p.W q.W
  have h2 := cmpI_neg p.H q.H
  have h3 := cmpL_neg p.B q.B
  unfold cmpP
  split <;> split <;> (try split) <;> (try split) <;> omega
theorem cmpP_zero {p q : Pan} : cmpP p q = 0 ↔ p = q := by
  have h1 := cmpI_zero (a := p.W) (b := q.W)
  have h2 := cmpI_zero (a := p.H) (b := q.H)
  have h3 := cmpL_zero p.B q.B
  unfold cmpP
  constructor
  · intro h
    split at h
    · split at h
      · cases p; cases q
        simp_all
      · omega
    · omega
  · rintro rfl
    rw [if_pos (h1.2 rfl), if_pos (h2.2 rfl)]
    exact h3.2 rfl
theorem cmpP_trans {p q r : Pan} (h : cmpP p q ≤ 0) (k : cmpP q r ≤ 0) : cmpP p r ≤ 0 := by
  have hw := cmpI_trans (a := p.W) (b := q.W) (c := r.W)
  have hh := cmpI_trans (a := p.H) (b := q.H) (c := r.H)
  have hb := cmpL_trans p.B q.B r.B
  have w1 := cmpI_zero (a := p.W) (b := q.W)
  have w2 := cmpI_zero (a := q.W) (b := r.W)
  have w3 := cmpI_zero (a := p.W) (b := r.W)
  have g1 := cmpI_zero (a := p.H) (b := q.H)
  have g2 := cmpI_zero (a := q.H) (b := r.H)
  have g3 := cmpI_zero (a := p.H) (b := r.H)
  unfold cmpP at *
  by_cases a1 : cmpI p.W q.W = 0
  · by_cases a2 : cmpI q.W r.W = 0
    · have a3 : cmpI p.W r.W = 0 := w3.2 ((w1.1 a1).trans (w2.1 a2))
      rw [if_pos a1] at h
      rw [if_pos a2] at k
      rw [if_pos a3]
      by_cases b1 : cmpI p.H q.H = 0
      · by_cases b2 : cmpI q.H r.H = 0
        · have b3 : cmpI p.H r.H = 0 := g3.2 ((g1.1 b1).trans (g2.1 b2))
          rw [if_pos b1] at h
          rw [if_pos b2] at k
          rw [if_pos b3]
          exact hb h k
        · rw [if_neg b2] at k
          have := hh (by omega) k
          rw [if_neg (fun e => b2 (this.2 e).2)]
          exact this.1
      · rw [if_neg b1] at h
        have hk : cmpI q.H r.H ≤ 0 := by
          split at k
          · omega
          · exact k
        have := hh h hk
        rw [if_neg (fun e => b1 (this.2 e).1)]
        exact this.1
    · rw [if_neg a2] at k
      have := hw (by omega) k
      rw [if_neg (fun e => a2 (this.2 e).2)]
      exact this.1
  · rw [if_neg a1] at h
    have hk : cmpI q.W r.W ≤ 0 := by
      split at k
      · omega
      · exact k
    have := hw h hk
    rw [if_neg (fun e => a1 (this.2 e).1)]
    exact this.1

theorem least_mem {p : Pan} (hp : Ok p) : ∀ k : Nat, ∃ s : Nat, s ≤ k ∧ leastTo p k = mapP p s
  | 0 => ⟨0, by omega, (mapP_zero ⟨hp.w1, hp.w8⟩).symm⟩
  | k + 1 => by
    obtain ⟨s, hs, e⟩ := least_mem hp k
    unfold leastTo
    split
    · exact ⟨k + 1, by omega, rfl⟩
    · exact ⟨s, by omega, e⟩
theorem least_le {p : Pan} (hp : Ok p) : ∀ (k s : Nat), s ≤ k → cmpP (leastTo p k) (mapP p s) ≤ 0
  | 0, s, h => by
    obtain rfl : s = 0 := by omega
    have e : mapP p ((0 : Nat) : Int) = p := mapP_zero ⟨hp.w1, hp.w8⟩
    rw [e]
    show cmpP p p ≤ 0
    rw [cmpP_zero.2 rfl]
    omega
  | k + 1, s, h => by
    by_cases hs : s ≤ k
    · have ih := least_le hp k s hs
      unfold leastTo
      split
      · rename_i hc
        exact cmpP_trans (by omega) ih
      · exact ih
    · obtain rfl : s = k + 1 := by omega
      unfold leastTo
      split
      · rw [cmpP_zero.2 rfl]; omega
      · rename_i hc
        have := cmpP_neg (mapP p ((k + 1 : Nat) : Int)) (leastTo p k)
        omega
theorem least_map {p : Pan} (hp : Ok p) {a : Int} (a0 : 0 ≤ a) (a7 : a ≤ 7) : leastTo (mapP p a) 7 = leastTo p 7 := by
  have hq := mapP_ok hp a0 a7
  obtain ⟨⟨i0, i7⟩, i1, i2⟩ := invK_bd a0 a7
  have le1 : cmpP (leastTo p 7) (leastTo (mapP p a) 7) ≤ 0 := by
    obtain ⟨s, hs, e⟩ := least_mem hq 7
    obtain ⟨c0, c7⟩ := compK_bd (a := a) (b := (s : Int)) a0 a7 (by omega) (by omega)
    rw [e, map_comp hp a0 a7 (by omega) (by omega)]
    have := least_le hp 7 (compK a s).toNat (by omega)
    rwa [show (((compK a s).toNat : Nat) : Int) = compK a s by omega] at this
  have le2 : cmpP (leastTo (mapP p a) 7) (leastTo p 7) ≤ 0 := by
    obtain ⟨s, hs, e⟩ := least_mem hp 7
    obtain ⟨c0, c7⟩ := compK_bd (a := invK a) (b := (s : Int)) i0 i7 (by omega) (by omega)
    have h1 : mapP (mapP p a) (compK (invK a) s) = mapP p s := by
      rw [← map_comp hq i0 i7 (by omega) (by omega), map_comp hp a0 a7 i0 i7, i1, mapP_zero ⟨hp.w1, hp.w8⟩]
    rw [e, ← h1]
    have := least_le hq 7 (compK (invK a) s).toNat (by omega)
    rwa [show (((compK (invK a) s).toNat : Nat) : Int) = compK (invK a) s by omega] at this
  have := cmpP_neg (leastTo p 7) (leastTo (mapP p a) 7)
  exact (cmpP_zero.1 (by omega)).symm
end Knot

namespace Knot

/-! ### What SymmetricPanel returns is moved to itself -/

theorem gI_set_self {l : List Int} {j v : Int} (h : j.toNat < l.length) : gI (l.set j.toNat v) j = v := by
  simp [gI, List.getD, List.getElem?_set, h]
theorem gI_set_ne {l : List Int} {i j v : Int} (h : i.toNat ≠ j.toNat) : gI (l.set i.toNat v) j = gI l j := by
  simp [gI, List.getD, List.getElem?_set_ne h]
theorem gB_set_self {l : List Bool} {j : Int} {v : Bool} (h : j.toNat < l.length) : gB (l.set j.toNat v) j = v := by
  simp [gB, List.getD, List.getElem?_set, h]
theorem gB_set_ne {l : List Bool} {i j : Int} {v : Bool} (h : i.toNat ≠ j.toNat) : gB (l.set i.toNat v) j = gB l j := by
  simp [gB, List.getD, List.getElem?_set_ne h]

section
variable {W H s : Int} (hW : 1 ≤ W ∧ W ≤ 8) (hH : 1 ≤ H ∧ H ≤ 8) (s0 : 0 ≤ s) (s7 : s ≤ 7) (hq : 4 ≤ s → W = H)
include hW hH s0 s7 hq
theorem mapN_inj2 {j k : Int} (j0 : 0 ≤ j) (j1 : j < inner W H) (k0 : 0 ≤ k) (k1 : k < inner W H) (h : mapN W H s j = mapN W H s k) : j = k := by
  have _ := hH
  have a := mapN_at hW s0 s7 hq j0 j1
  have b := mapN_at hW s0 s7 hq k0 k1
  rw [h, b] at a
  have e := mapX_inj s0 s7 a
  exact pt_inj hW j0 k0 e.1.symm e.2.symm
theorem itN_shift {k : Int} (k0 : 0 ≤ k) (k1 : k < inner W H) : ∀ (i d : Nat), itN W H s k i = itN W H s k (i + d) → itN W H s k d = k
  | 0, d, h => by rw [Nat.zero_add] at h; exact h.symm
  | i + 1, d, h => by
    have a := itN_in hW hH s0 s7 k0 k1 i
    have b := itN_in hW hH s0 s7 k0 k1 (i + d)
    rw [show i + 1 + d = (i + d) + 1 by omega, itN, itN] at h
    exact itN_shift k0 k1 i d (mapN_inj2 hW hH s0 s7 hq a.1 a.2 b.1 b.2 h)
/-- The places of a cycle differ. -/
theorem cyc_ne {k : Int} (k0 : 0 ≤ k) (k1 : k < inner W H) {i j : Nat} (hij : i < j) (hj : j < perN W H s k) : itN W H s k i ≠ itN W H s k j := by
  intro h
  have hp := per_is hW hH s0 s7 hq k0 k1
  have := itN_shift hW hH s0 s7 hq k0 k1 i (j - i) (by rw [show i + (j - i) = j by omega]; exact h)
  exact hp.2.2 (j - i) (by omega) (by omega) this
theorem wr_hit {k : Int} (k0 : 0 ≤ k) (k1 : k < inner W H) {out : List Int} (hl : (out.length : Int) = inner W H) (kd : Int) : ∀ (m i : Nat), i < m → m ≤ perN W H s k → gI (wrS W H s k kd out m) (itN W H s k i) = itK s kd i
  | 0, i, h, _ => by omega
  | m + 1, i, h, hm => by
    have hin := itN_in hW hH s0 s7 k0 k1 m
    have hin2 := itN_in hW hH s0 s7 k0 k1 i
    have hwl := wrS_len W H s k kd out m
    rw [wrS]
    by_cases e : i = m
    · subst e
      exact gI_set_self (by omega)
    · have hne := cyc_ne hW hH s0 s7 hq k0 k1 (i := i) (j := m) (by omega) (by omega)
      rw [gI_set_ne (by omega)]
      exact wr_hit k0 k1 hl kd m i (by omega) (by omega)
omit hq in
theorem wr_miss {k : Int} (k0 : 0 ≤ k) (k1 : k < inner W H) (out : List Int) (kd : Int) {j : Int} (j0 : 0 ≤ j) : ∀ (m : Nat), (∀ i, i < m → itN W H s k i ≠ j) → gI (wrS W H s k kd out m) j = gI out j
  | 0, _ => rfl
  | m + 1, h => by
    have hin := itN_in hW hH s0 s7 k0 k1 m
    have hm := h m (by omega)
    rw [wrS, gI_set_ne (by omega)]
    exact wr_miss k0 k1 out kd j0 m (fun i hi => h i (by omega))
omit hq in
theorem mk_hit {k : Int} (k0 : 0 ≤ k) (k1 : k < inner W H) {done : List Bool} (hl : (done.length : Int) = inner W H) {j : Int} (j0 : 0 ≤ j) : ∀ (m : Nat), gB (mkS W H s k done m) j = true ↔ (gB done j = true ∨ ∃ i, i < m ∧ itN W H s k i = j)
  | 0 => by simp [mkS]
  | m + 1 => by
    have hin := itN_in hW hH s0 s7 k0 k1 m
    have hml := mkS_len W H s k done m
    have ih := mk_hit k0 k1 hl j0 m
    rw [mkS]
    by_cases e : itN W H s k m = j
    · subst e
      rw [gB_set_self (by omega)]
      exact ⟨fun _ => .inr ⟨m, by omega, rfl⟩, fun _ => rfl⟩
    · rw [gB_set_ne (by omega), ih]
      constructor
      · rintro (h | ⟨i, hi, he⟩)
        · exact .inl h
        · exact .inr ⟨i, by omega, he⟩
      · rintro (h | ⟨i, hi, he⟩)
        · exact .inl h
        · rcases Nat.lt_or_ge i m with h | h
          · exact .inr ⟨i, h, he⟩
          · obtain rfl : i = m := by omega
            exact absurd he e
omit hW hH s0 s7 hq in
theorem itK_per {k : Int} {kd : Int} (hkd : 0 ≤ kd ∧ kd ≤ 2) : ∀ i : Nat, itK s kd i = if 4 ≤ s ∧ kd ≠ 0 ∧ i % 2 = 1 then 3 - kd else kd
  | 0 => by simp [itK]
  | i + 1 => by
    rw [itK, itK_per (k := k) hkd i, kindX]
    split <;> split <;> split <;> omega
/-- What the first points' cycles have been filled with agrees with the symmetry. -/
def Agree (W H s : Int) (out : List Int) (seen : List Bool) : Prop := ∀ j, 0 ≤ j → j < inner W H → gB seen j = true → gB seen (mapN W H s j) = true ∧ gI out (mapN W H s j) = kindX (gI out j) s
theorem symTo_agree {B : List Int} (hl : (B.length : Int) = inner W H) (hB : ∀ k : Nat, k < B.length → 0 ≤ gI B k ∧ gI B k ≤ 2) : ∀ k : Nat, k ≤ B.length →
    Agree W H s (symTo W H s B k).1 (symTo W H s B k).2 ∧ (∀ j : Nat, j < k → gB (symTo W H s B k).2 j = true) ∧ ∀ j : Int, 0 ≤ j → j < inner W H → 0 ≤ gI (symTo W H s B k).1 j ∧ gI (symTo W H s B k).1 j ≤ 2
  | 0, _ => by
    refine ⟨fun j j0 j1 h => ?_, fun j h => by omega, fun j j0 j1 => ?_⟩
    · exfalso
      have : gB (List.replicate B.length false) j = true := h
      simp [gB, List.getD, List.getElem?_replicate] at this
      split at this <;> simp at this
    · have := hB j.toNat (by omega)
      rw [show ((j.toNat : Nat) : Int) = j by omega] at this
      exact this
  | k + 1, hk => by
    obtain ⟨ha, hs, hb⟩ := symTo_agree hl hB k (by omega)
    obtain ⟨l1, l2⟩ := symTo_len W H s B k
    cases hc : gB (symTo W H s B k).2 k
    · rw [symTo_no hc]
      obtain ⟨out, ho⟩ : ∃ out, (symTo W H s B k).1 = out := ⟨_, rfl⟩
      obtain ⟨seen, hse⟩ : ∃ seen, (symTo W H s B k).2 = seen := ⟨_, rfl⟩
      rw [ho, hse] at ha
      rw [hse] at hs hc l2
      rw [ho] at hb l1
      rw [ho, hse]
      show Agree W H s (wrS W H s k (kd0 W H s B k) out (perN W H s k)) (mkS W H s k seen (perN W H s k)) ∧ (∀ j : Nat, j < k + 1 → gB (mkS W H s k seen (perN W H s k)) j = true) ∧ ∀ j : Int, 0 ≤ j → j < inner W H → 0 ≤ gI (wrS W H s k (kd0 W H s B k) out (perN W H s k)) j ∧ gI (wrS W H s k (kd0 W H s B k) out (perN W H s k)) j ≤ 2
      have k0 : (0 : Int) ≤ (k : Int) := by omega
      have k1 : (k : Int) < inner W H := by omega
      obtain ⟨⟨t1, t4⟩, tp, _⟩ := per_is hW hH s0 s7 hq k0 k1
      have hkd : 0 ≤ kd0 W H s B k ∧ kd0 W H s B k ≤ 2 := by
        unfold kd0
        split
        · omega
        · exact hB k (by omega)
      have hkt : itK s (kd0 W H s B k) (perN W H s k) = kd0 W H s B k := by
        rw [itK_per (k := k) hkd]
        by_cases h : 4 ≤ s ∧ perN W H s k % 2 = 1
        · have : kd0 W H s B k = 0 := by unfold kd0; rw [if_pos h]
          rw [if_neg (by omega)]
        · rw [if_neg (by omega)]
      obtain ⟨T, hT⟩ : ∃ T, perN W H s k = T := ⟨_, rfl⟩
      obtain ⟨kd, hkdd⟩ : ∃ kd, kd0 W H s B k = kd := ⟨_, rfl⟩
      have hhit := fun i hi => wr_hit hW hH s0 s7 hq k0 k1 (out := out) (by omega) kd T i hi (by omega)
      have hmk := fun j (j0 : 0 ≤ j) => mk_hit hW hH s0 s7 k0 k1 (done := seen) (by omega) (j := j) j0 T
      rw [hT] at tp t1 hkt ⊢
      rw [hkdd] at hkt hkd ⊢
      -- no place of the cycle was seen before
      have hfree : ∀ i, i ≤ T → gB seen (itN W H s k i) = false := by
        have down : ∀ i, i ≤ T → gB seen (itN W H s k (T - i)) = false := by
          intro i
          induction i with
          | zero => intro _; rw [Nat.sub_zero, tp]; exact hc
          | succ i ih =>
            intro hi
            have h1 := ih (by omega)
            have hin := itN_in hW hH s0 s7 k0 k1 (T - (i + 1))
            cases h2 : gB seen (itN W H s k (T - (i + 1)))
            · rfl
            · have := (ha _ hin.1 hin.2 h2).1
              rw [show T - i = (T - (i + 1)) + 1 by omega, itN] at h1
              rw [h1] at this
              exact absurd this (by simp)
        intro i hi
        have := down (T - i) (by omega)
        rwa [show T - (T - i) = i by omega] at this
      refine ⟨fun j j0 j1 h => ?_, fun j hj => ?_, fun j j0 j1 => ?_⟩
      · have hmi := mapN_in hW hH s0 s7 j0 j1
        rcases (hmk j j0).1 h with h | ⟨i, hi, rfl⟩
        · obtain ⟨a1, a2⟩ := ha j j0 j1 h
          have n1 : ∀ i, i < T → itN W H s k i ≠ j := fun i hi e => by have := hfree i (by omega); rw [e, h] at this; simp at this
          have n2 : ∀ i, i < T → itN W H s k i ≠ mapN W H s j := fun i hi e => by have := hfree i (by omega); rw [e, a1] at this; simp at this
          refine ⟨(hmk _ hmi.1).2 (.inl a1), ?_⟩
          rw [wr_miss hW hH s0 s7 k0 k1 out kd hmi.1 T n2, wr_miss hW hH s0 s7 k0 k1 out kd j0 T n1]
          exact a2
        · have e1 : mapN W H s (itN W H s k i) = itN W H s k (i + 1) := rfl
          rw [e1, hhit i hi]
          rcases Nat.lt_or_ge (i + 1) T with h2 | h2
          · exact ⟨(hmk _ (e1 ▸ hmi.1)).2 (.inr ⟨i + 1, h2, rfl⟩), hhit (i + 1) h2⟩
          · obtain rfl : T = i + 1 := by omega
            rw [tp]
            refine ⟨(hmk _ k0).2 (.inr ⟨0, by omega, rfl⟩), ?_⟩
            have h0 := hhit 0 (by omega)
            rw [show itN W H s k 0 = k from rfl] at h0
            rw [h0]
            exact hkt.symm
      · rw [hmk _ (by omega)]
        rcases Nat.lt_or_ge j k with h | h
        · exact .inl (hs j h)
        · obtain rfl : j = k := by omega
          exact .inr ⟨0, by omega, rfl⟩
      · by_cases h : ∃ i, i < T ∧ itN W H s k i = j
        · obtain ⟨i, hi, rfl⟩ := h
          rw [hhit i hi]
          exact itK_bd hkd i
        · rw [wr_miss hW hH s0 s7 k0 k1 out kd j0 T (fun i hi e => h ⟨i, hi, e⟩)]
          exact hb j j0 j1
    · rw [symTo_yes hc]
      exact ⟨ha, fun j hj => by
        rcases Nat.lt_or_ge j k with h | h
        · exact hs j h
        · obtain rfl : j = k := by omega
          exact hc, hb⟩
/-- The panel made symmetric is valid, and the symmetry moves it to itself. -/
theorem symTo_fix {B : List Int} (hl : (B.length : Int) = inner W H) (hB : ∀ k : Nat, k < B.length → 0 ≤ gI B k ∧ gI B k ≤ 2) :
    Ok ⟨W, H, (symTo W H s B B.length).1⟩ ∧ mapP ⟨W, H, (symTo W H s B B.length).1⟩ s = ⟨W, H, (symTo W H s B B.length).1⟩ := by
  obtain ⟨ha, hs, hb⟩ := symTo_agree hW hH s0 s7 hq hl hB B.length (Nat.le_refl _)
  obtain ⟨l1, l2⟩ := symTo_len W H s B B.length
  generalize symTo W H s B B.length = Q at *
  have hok : Ok ⟨W, H, Q.1⟩ := by
    refine ⟨hW.1, hW.2, hH.1, hH.2, by simpa [l1] using hl, fun k hk => ?_⟩
    obtain ⟨i, hi, rfl⟩ := List.getElem_of_mem hk
    have hi' : i < Q.1.length := hi
    have := hb i (by omega) (by omega)
    simp [gI, List.getD, hi'] at this
    exact this
  refine ⟨hok, ?_⟩
  have hm := sq_map hq
  have hlen : (mapP ⟨W, H, Q.1⟩ s).B.length = Q.1.length := mapP_len _ _
  refine pan_ext (mapP_ok hok s0 s7) hok hm.1 hm.2 ?_
  have hBe : (mapP ⟨W, H, Q.1⟩ s).B = Q.1 := by
    refine List.ext_getElem hlen fun i h1 h2 => ?_
    have i0 : (0 : Int) ≤ (i : Int) := by omega
    have i1 : (i : Int) < inner W H := by omega
    have h3 := itN_in hW hH s0 s7 i0 i1 3
    have h4 := itN_four hW hH s0 s7 hq i0 i1
    have hg := map_get hok s0 s7 (k := itN W H s i 3) h3.1 (by show _ < ((Q.1.length : Nat) : Int); omega)
    have e : mapN W H s (itN W H s i 3) = i := h4
    have hsn : gB Q.2 (itN W H s i 3) = true := by
      have := hs (itN W H s i 3).toNat (by omega)
      rwa [show (((itN W H s i 3).toNat : Nat) : Int) = itN W H s i 3 by omega] at this
    have hg2 := (ha _ h3.1 h3.2 hsn).2
    rw [show mapN (Pan.mk W H Q.1).W (Pan.mk W H Q.1).H s (itN W H s i 3) = i from e] at hg
    rw [e] at hg2
    have hg3 := hg.trans hg2.symm
    simp only [gI, List.getD, Int.toNat_natCast] at hg3
    rw [List.getElem?_eq_getElem h1, List.getElem?_eq_getElem h2] at hg3
    exact hg3
  intro x y _
  have e2 : mapP ⟨W, H, Q.1⟩ s = ⟨W, H, Q.1⟩ := by
    have a : (mapP ⟨W, H, Q.1⟩ s).W = W := hm.1
    have b : (mapP ⟨W, H, Q.1⟩ s).H = H := hm.2
    cases h : mapP ⟨W, H, Q.1⟩ s
    rw [h] at a b hBe
    simp_all
  rw [e2]
end
end Knot
