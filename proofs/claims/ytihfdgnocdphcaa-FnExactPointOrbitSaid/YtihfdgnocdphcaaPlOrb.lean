/- Plain mathematics: pigeonhole, iterates that come back, representatives of classes. No program is in sight. -/
namespace Knot

/-- The pigeonhole. -/
theorem pigeon : ∀ (n : Nat) (l : List Nat), l.Nodup → (∀ x ∈ l, x < n) → l.length ≤ n
  | 0, l, _, hb => by
    cases l with
    | nil => simp
    | cons a t => exact absurd (hb a (by simp)) (by omega)
  | n + 1, l, hd, hb => by
    have h1 : (l.erase n).Nodup := hd.erase n
    have h2 : ∀ x ∈ l.erase n, x < n := by
      intro x hx
      have hm := List.mem_of_mem_erase hx
      have := hb x hm
      have hne : x ≠ n := by
        intro e
        subst e
        exact (List.Nodup.not_mem_erase hd) hx
      omega
    have h3 := pigeon n (l.erase n) h1 h2
    have h4 := List.length_erase (a := n) (l := l)
    split at h4 <;> omega

/-- n times f. -/
def it {α : Type} (f : α → α) : Nat → α → α
  | 0, a => a
  | n + 1, a => f (it f n a)

theorem it_add {α : Type} (f : α → α) (m n : Nat) (a : α) : it f (m + n) a = it f m (it f n a) := by
  induction m with
  | zero => simp [it]
  | succ m ih => rw [Nat.succ_add]; simp [it, ih]

theorem it_succ' {α : Type} (f : α → α) (n : Nat) (a : α) : it f (n + 1) a = it f n (f a) := by
  have := it_add f n 1 a
  simpa [it] using this

theorem it_mem {α : Type} (f : α → α) (D : α → Prop) (hf : ∀ a, D a → D (f a)) (n : Nat) (a : α) (ha : D a) : D (it f n a) := by
  induction n with
  | zero => exact ha
  | succ n ih => exact hf _ ih

theorem it_inj {α : Type} (f : α → α) (D : α → Prop) (hf : ∀ a, D a → D (f a)) (hi : ∀ a b, D a → D b → f a = f b → a = b) (n : Nat) (a b : α) (ha : D a) (hb : D b)
    (h : it f n a = it f n b) : a = b := by
  induction n with
  | zero => exact h
  | succ n ih => exact ih (hi _ _ (it_mem f D hf n a ha) (it_mem f D hf n b hb) h)

/-- Of the iterates up to the number of places two are equal. -/
theorem it_meet {α : Type} (f : α → α) (c : α → Nat) (M : Nat) (D : α → Prop) (hf : ∀ a, D a → D (f a)) (hc : ∀ a, D a → c a < M) (a : α) (ha : D a) :
    ∃ i j, i < j ∧ j ≤ M ∧ c (it f i a) = c (it f j a) := by
  apply Classical.byContradiction
  intro hno
  have hnd : ((List.range (M + 1)).map fun i => c (it f i a)).Nodup := by
    rw [List.nodup_iff_pairwise_ne, List.pairwise_map]
    have hp : (List.range (M + 1)).Pairwise (fun i j => i < j ∧ j ≤ M) := by
      rw [List.pairwise_iff_getElem]
      intro i j hi hj hij
      simp at hi hj ⊢
      omega
    exact hp.imp (fun {i j} h e => hno ⟨i, j, h.1, h.2, e⟩)
  have hl := pigeon M _ hnd (by
    intro x hx
    obtain ⟨i, _, rfl⟩ := List.mem_map.1 hx
    exact hc _ (it_mem f D hf i a ha))
  simp at hl
  omega

/-- The least number with a property. -/
theorem least (P : Nat → Prop) (n : Nat) (h : P n) : ∃ m, P m ∧ m ≤ n ∧ ∀ i, i < m → ¬ P i := by
  induction n using Nat.strongRecOn with
  | _ n ih =>
    by_cases hx : ∃ i, i < n ∧ P i
    · obtain ⟨i, hi, hp⟩ := hx
      obtain ⟨m, h1, h2, h3⟩ := ih i hi hp
      exact ⟨m, h1, by omega, h3⟩
    · exact ⟨n, h, Nat.le_refl _, fun i hi hp => hx ⟨i, hi, hp⟩⟩

/-- The iterates of a one-to-one step come back; the first return. -/
theorem comes_back {α : Type} (f : α → α) (c : α → Nat) (M : Nat) (D : α → Prop) (hf : ∀ a, D a → D (f a)) (hi : ∀ a b, D a → D b → f a = f b → a = b)
    (hc : ∀ a, D a → c a < M) (hci : ∀ a b, D a → D b → c a = c b → a = b) (a : α) (ha : D a) :
    ∃ T, 1 ≤ T ∧ T ≤ M ∧ it f T a = a ∧ ∀ i, 1 ≤ i → i < T → it f i a ≠ a := by
  obtain ⟨i, j, hij, hj, he⟩ := it_meet f c M D hf hc a ha
  have he' := hci _ _ (it_mem f D hf i a ha) (it_mem f D hf j a ha) he
  have h1 : it f (j - i) a = a := by
    have : it f j a = it f i (it f (j - i) a) := by rw [← it_add]; congr 1; omega
    rw [this] at he'
    exact (it_inj f D hf hi i a _ ha (it_mem f D hf _ a ha) he').symm
  obtain ⟨T, hT, hle, hmin⟩ := least (fun n => 1 ≤ n ∧ it f n a = a) (j - i) ⟨by omega, h1⟩
  exact ⟨T, hT.1, by omega, hT.2, fun k hk hkT e => hmin k hkT ⟨hk, e⟩⟩

/-! ### Representatives -/

/-- The list L holds one of each class of R in D. -/
structure Reps {α : Type} (R : α → α → Prop) (D : α → Prop) (L : List α) : Prop where
  mem : ∀ a ∈ L, D a
  apart : L.Pairwise (fun a b => ¬ R a b)
  all : ∀ a, D a → ∃ b ∈ L, R a b

theorem reps_le {α : Type} {R : α → α → Prop} {D : α → Prop} {L K : List α} (hs : ∀ a b, R a b → R b a) (ht : ∀ a b c, R a b → R b c → R a c)
    (hL : Reps R D L) (hK : Reps R D K) : L.length ≤ K.length := by
  classical
  have hidx : ∀ i : Fin L.length, ∃ j : Fin K.length, R L[i] K[j] := by
    intro i
    obtain ⟨b, hb, hr⟩ := hK.all _ (hL.mem L[i] (List.getElem_mem _))
    obtain ⟨j, hj, rfl⟩ := List.getElem_of_mem hb
    exact ⟨⟨j, hj⟩, hr⟩
  let g : Nat → Nat := fun i => if h : i < L.length then (Classical.choose (hidx ⟨i, h⟩)).val else 0
  have hg : ∀ i (h : i < L.length), ∃ hj : g i < K.length, R L[i] K[g i] := by
    intro i h
    have e : g i = (Classical.choose (hidx ⟨i, h⟩)).val := by simp [g, h]
    have hsp := Classical.choose_spec (hidx ⟨i, h⟩)
    refine ⟨by rw [e]; exact (Classical.choose (hidx ⟨i, h⟩)).isLt, ?_⟩
    simp only [e]
    exact hsp
  have hnd : ((List.range L.length).map g).Nodup := by
    rw [List.nodup_iff_pairwise_ne, List.pairwise_map]
    rw [List.pairwise_iff_getElem]
    intro i j hi hj hij e
    simp only [List.getElem_range, List.length_range] at hi hj e
    obtain ⟨_, r1⟩ := hg i hi
    obtain ⟨h2, r2⟩ := hg j hj
    have r1' : R L[i] K[g j] := by simp only [e] at r1; exact r1
    exact (List.pairwise_iff_getElem.1 hL.apart i j hi hj hij) (ht _ _ _ r1' (hs _ _ r2))
  have := pigeon K.length _ hnd (by
    intro x hx
    obtain ⟨i, hi, rfl⟩ := List.mem_map.1 hx
    exact (hg i (by simpa using hi)).1)
  simpa using this

/-- How many classes there are does not hang on the choice of representatives. -/
theorem reps_eq {α : Type} {R : α → α → Prop} {D : α → Prop} {L K : List α} (hs : ∀ a b, R a b → R b a) (ht : ∀ a b c, R a b → R b c → R a c)
    (hL : Reps R D L) (hK : Reps R D K) : L.length = K.length :=
  Nat.le_antisymm (reps_le hs ht hL hK) (reps_le hs ht hK hL)

/-- Classes are carried over by a map that keeps and reflects the relation. -/
theorem reps_map {α β : Type} {R : α → α → Prop} {S : β → β → Prop} {D : α → Prop} {E : β → Prop} {L : List α} (m : α → β)
    (hD : ∀ a, D a → E (m a)) (hE : ∀ b, E b → ∃ a, D a ∧ S b (m a)) (ht : ∀ a b c, S a b → S b c → S a c)
    (hR : ∀ a b, D a → D b → (R a b ↔ S (m a) (m b))) (hL : Reps R D L) : Reps S E (L.map m) := by
  refine ⟨?_, ?_, ?_⟩
  · intro b hb
    obtain ⟨a, ha, rfl⟩ := List.mem_map.1 hb
    exact hD a (hL.mem a ha)
  · rw [List.pairwise_map]
    refine List.Pairwise.imp_of_mem ?_ hL.apart
    intro a b ha hb h hr
    exact h ((hR a b (hL.mem a ha) (hL.mem b hb)).2 hr)
  · intro b hb
    obtain ⟨a, ha, hs⟩ := hE b hb
    obtain ⟨c, hc, hr⟩ := hL.all a ha
    exact ⟨m c, List.mem_map.2 ⟨c, hc, rfl⟩, ht _ _ _ hs ((hR a c ha (hL.mem c hc)).1 hr)⟩

/-- Representatives of two parts that have nothing to do with each other. -/
theorem reps_append {α : Type} {R : α → α → Prop} {D E : α → Prop} {L K : List α} (hdis : ∀ a b, D a → E b → ¬ R a b)
    (hL : Reps R D L) (hK : Reps R E K) : Reps R (fun a => D a ∨ E a) (L ++ K) := by
  refine ⟨?_, ?_, ?_⟩
  · intro a ha
    rcases List.mem_append.1 ha with h | h
    · exact .inl (hL.mem a h)
    · exact .inr (hK.mem a h)
  · rw [List.pairwise_append]
    exact ⟨hL.apart, hK.apart, fun a ha b hb => hdis a b (hL.mem a ha) (hK.mem b hb)⟩
  · rintro a (h | h)
    · obtain ⟨b, hb, hr⟩ := hL.all a h
      exact ⟨b, List.mem_append.2 (.inl hb), hr⟩
    · obtain ⟨b, hb, hr⟩ := hK.all a h
      exact ⟨b, List.mem_append.2 (.inr hb), hr⟩

end Knot
