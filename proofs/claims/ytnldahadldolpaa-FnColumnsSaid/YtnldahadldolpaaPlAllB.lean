/-
  Plain mathematics of this seat, in one text. No program is in sight.
-/
namespace Knot

/-- The pigeonhole. -/
theorem pigeon : ∀ (n : Nat) (l : List Nat), l.Nodup → (∀ x ∈ l, x < n) → l.length ≤ n
  | 0, l, _, hb => by
    cases l with
    | nil => simp
    | cons a t => exact absurd (hb a (by simp)) (by omega)
  | n + 1, l, hd, hb => by
    have h1 : (l.erase n).Nodup := hd.erase n
    have h2 : ∀ x ∈ l.erase n, x < n := by
      intro x hx
      have hm := List.mem_of_mem_erase hx
      have := hb x hm
      have hne : x ≠ n := by
        intro e
        subst e
        exact (List.Nodup.not_mem_erase hd) hx
      omega
    have h3 := pigeon n (l.erase n) h1 h2
    have h4 := List.length_erase (a := n) (l := l)
    split at h4 <;> omega

/-- n times f. -/
def it {α : Type} (f : α → α) : Nat → α → α
  | 0, a => a
  | n + 1, a => f (it f n a)

theorem it_add {α : Type} (f : α → α) (m n : Nat) (a : α) : it f (m + n) a = it f m (it f n a) := by
  induction m with
  | zero => simp [it]
  | succ m ih => rw [Nat.succ_add]; simp [it, ih]

theorem it_succ' {α : Type} (f : α → α) (n : Nat) (a : α) : it f (n + 1) a = it f n (f a) := by
  have := it_add f n 1 a
  simpa [it] using this

theorem it_mem {α : Type} (f : α → α) (D : α → Prop) (hf : ∀ a, D a → D (f a)) (n : Nat) (a : α) (ha : D a) : D (it f n a) := by
  induction n with
  | zero => exact ha
  | succ n ih => exact hf _ ih

theorem it_inj {α : Type} (f : α → α) (D : α → Prop) (hf : ∀ a, D a → D (f a)) (hi : ∀ a b, D a → D b → f a = f b → a = b) (n : Nat) (a b : α) (ha : D a) (hb : D b)
    (h : it f n a = it f n b) : a = b := by
  induction n with
  | zero => exact h
  | succ n ih => exact ih (hi _ _ (it_mem f D hf n a ha) (it_mem f D hf n b hb) h)

/-- Of the iterates up to the number of places two are equal. -/
theorem it_meet {α : Type} (f : α → α) (c : α → Nat) (M : Nat) (D : α → Prop) (hf : ∀ a, D a → D (f a)) (hc : ∀ a, D a → c a < M) (a : α) (ha : D a) :
    ∃ i j, i < j ∧ j ≤ M ∧ c (it f i a) = c (it f j a) := by
  apply Classical.byContradiction
  intro hno
  have hnd : ((List.range (M + 1)).map fun i => c (it f i a)).Nodup := by
    rw [List.nodup_iff_pairwise_ne, List.pairwise_map]
    have hp : (List.range (M + 1)).Pairwise (fun i j => i < j ∧ j ≤ M) := by
      rw [List.pairwise_iff_getElem]
      intro i j hi hj hij
      simp at hi hj ⊢
      omega
    exact hp.imp (fun {i j} h e => hno ⟨i, j, h.1, h.2, e⟩)
  have hl := pigeon M _ hnd (by
    intro x hx
    obtain ⟨i, _, rfl⟩ := List.mem_map.1 hx
    exact hc _ (it_mem f D hf i a ha))
  simp at hl
  omega

/-- The least number with a property. -/
theorem least (P : Nat → Prop) (n : Nat) (h : P n) : ∃ m, P m ∧ m ≤ n ∧ ∀ i, i < m → ¬ P i := by
  induction n using Nat.strongRecOn with
  | _ n ih =>
    by_cases hx : ∃ i, i < n ∧ P i
    · obtain ⟨i, hi, hp⟩ := hx
      obtain ⟨m, h1, h2, h3⟩ := ih i hi hp
      exact ⟨m, h1, by omega, h3⟩
    · exact ⟨n, h, Nat.le_refl _, fun i hi hp => hx ⟨i, hi, hp⟩⟩

/-- The iterates of a one-to-one step come back; the first return. -/
theorem comes_back {α : Type} (f : α → α) (c : α → Nat) (M : Nat) (D : α → Prop) (hf : ∀ a, D a → D (f a)) (hi : ∀ a b, D a → D b → f a = f b → a = b)
    (hc : ∀ a, D a → c a < M) (hci : ∀ a b, D a → D b → c a = c b → a = b) (a : α) (ha : D a) :
    ∃ T, 1 ≤ T ∧ T ≤ M ∧ it f T a = a ∧ ∀ i, 1 ≤ i → i < T → it f i a ≠ a := by
  obtain ⟨i, j, hij, hj, he⟩ := it_meet f c M D hf hc a ha
  have he' := hci _ _ (it_mem f D hf i a ha) (it_mem f D hf j a ha) he
  have h1 : it f (j - i) a = a := by
    have : it f j a = it f i (it f (j - i) a) := by rw [← it_add]; congr 1; omega
    rw [this] at he'
    exact (it_inj f D hf hi i a _ ha (it_mem f D hf _ a ha) he').symm
  obtain ⟨T, hT, hle, hmin⟩ := least (fun n => 1 ≤ n ∧ it f n a = a) (j - i) ⟨by omega, h1⟩
  exact ⟨T, hT.1, by omega, hT.2, fun k hk hkT e => hmin k hkT ⟨hk, e⟩⟩

/-! ### Representatives -/

/-- The list L holds one of each class of R in D. -/
structure Reps {α : Type} (R : α → α → Prop) (D : α → Prop) (L : List α) : Prop where
  mem : ∀ a ∈ L, D a
  apart : L.Pairwise (fun a b => ¬ R a b)
  all : ∀ a, D a → ∃ b ∈ L, R a b

theorem reps_le {α : Type} {R : α → α → Prop} {D : α → Prop} {L K : List α} (hs : ∀ a b, R a b → R b a) (ht : ∀ a b c, R a b → R b c → R a c)
    (hL : Reps R D L) (hK : Reps R D K) : L.length ≤ K.length := by
  classical
  have hidx : ∀ i : Fin L.length, ∃ j : Fin K.length, R L[i] K[j] := by
    intro i
    obtain ⟨b, hb, hr⟩ := hK.all _ (hL.mem L[i] (List.getElem_mem _))
    obtain ⟨j, hj, rfl⟩ := List.getElem_of_mem hb
    exact ⟨⟨j, hj⟩, hr⟩
  let g : Nat → Nat := fun i => if h : i < L.length then (Classical.choose (hidx ⟨i, h⟩)).val else 0
  have hg : ∀ i (h : i < L.length), ∃ hj : g i < K.length, R L[i] K[g i] := by
    intro i h
    have e : g i = (Classical.choose (hidx ⟨i, h⟩)).val := by simp [g, h]
    have hsp := Classical.choose_spec (hidx ⟨i, h⟩)
    refine ⟨by rw [e]; exact (Classical.choose (hidx ⟨i, h⟩)).isLt, ?_⟩
    simp only [e]
    exact hsp
  have hnd : ((List.range L.length).map g).Nodup := by
    rw [List.nodup_iff_pairwise_ne, List.pairwise_map]
    rw [List.pairwise_iff_getElem]
    intro i j hi hj hij e
    simp only [List.getElem_range, List.length_range] at hi hj e
    obtain ⟨_, r1⟩ := hg i hi
    obtain ⟨h2, r2⟩ := hg j hj
    have r1' : R L[i] K[g j] := by simp only [e] at r1; exact r1
    exact (List.pairwise_iff_getElem.1 hL.apart i j hi hj hij) (ht _ _ _ r1' (hs _ _ r2))
  have := pigeon K.length _ hnd (by
    intro x hx
    obtain ⟨i, hi, rfl⟩ := List.mem_map.1 hx
    exact (hg i (by simpa using hi)).1)
  simpa using this

/-- How many classes there are does not hang on the choice of representatives. -/
theorem reps_eq {α : Type} {R : α → α → Prop} {D : α → Prop} {L K : List α} (hs : ∀ a b, R a b → R b a) (ht : ∀ a b c, R a b → R b c → R a c)
    (hL : Reps R D L) (hK : Reps R D K) : L.length = K.length :=
  Nat.le_antisymm (reps_le hs ht hL hK) (reps_le hs ht hK hL)

/-- Classes are carried over by a map that keeps and reflects the relation. -/
theorem reps_map {α β : Type} {R : α → α → Prop} {S : β → β → Prop} {D : α → Prop} {E : β → Prop} {L : List α} (m : α → β)
    (hD : ∀ a, D a → E (m a)) (hE : ∀ b, E b → ∃ a, D a ∧ S b (m a)) (ht : ∀ a b c, S a b → S b c → S a c)
    (hR : ∀ a b, D a → D b → (R a b ↔ S (m a) (m b))) (hL : Reps R D L) : Reps S E (L.map m) := by
  refine ⟨?_, ?_, ?_⟩
  · intro b hb
    obtain ⟨a, ha, rfl⟩ := List.mem_map.1 hb
    exact hD a (hL.mem a ha)
  · rw [List.pairwise_map]
    refine List.Pairwise.imp_of_mem ?_ hL.apart
    intro a b ha hb h hr
    exact h ((hR a b (hL.mem a ha) (hL.mem b hb)).2 hr)
  · intro b hb
    obtain ⟨a, ha, hs⟩ := hE b hb
    obtain ⟨c, hc, hr⟩ := hL.all a ha
    exact ⟨m c, List.mem_map.2 ⟨c, hc, rfl⟩, ht _ _ _ hs ((hR a c ha (hL.mem c hc)).1 hr)⟩

/-- Representatives of two parts that have nothing to do with each other. -/
theorem reps_append {α : Type} {R : α → α → Prop} {D E : α → Prop} {L K : List α} (hdis : ∀ a b, D a → E b → ¬ R a b)
    (hL : Reps R D L) (hK : Reps R E K) : Reps R (fun a => D a ∨ E a) (L ++ K) := by
  refine ⟨?_, ?_, ?_⟩
  · intro a ha
    rcases List.mem_append.1 ha with h | h
    · exact .inl (hL.mem a h)
    · exact .inr (hK.mem a h)
  · rw [List.pairwise_append]
    exact ⟨hL.apart, hK.apart, fun a ha b hb => hdis a b (hL.mem a ha) (hK.mem b hb)⟩
  · rintro a (h | h)
    · obtain ⟨b, hb, hr⟩ := hL.all a h
      exact ⟨b, List.mem_append.2 (.inl hb), hr⟩
    · obtain ⟨b, hb, hr⟩ := hK.all a h
      exact ⟨b, List.mem_append.2 (.inr hb), hr⟩

end Knot

namespace Knot

def gI (l : List Int) (i : Int) : Int := l.getD i.toNat 0
def gB (l : List Bool) (i : Int) : Bool := l.getD i.toNat false
def sB (l : List Bool) (i : Int) : List Bool := l.set i.toNat true

structure Pairing (n : Nat) (P : List Int) : Prop where
  len : P.length = n
  lo : ∀ i : Int, 0 ≤ i → i < n → 0 ≤ gI P i
  hi : ∀ i : Int, 0 ≤ i → i < n → gI P i < n
  ne : ∀ i : Int, 0 ≤ i → i < n → gI P i ≠ i
  inv : ∀ i : Int, 0 ≤ i → i < n → gI P (gI P i) = i

/-- From a on along the links, over what is known on this side, to the other side. -/
def chain (P L : List Int) (n : Int) : Nat → Int → List Bool → Int × List Bool
  | 0, a, s => (a, s)
  | f + 1, a, s => if a < n then chain P L n f (gI L (gI P a)) (sB (sB s a) (gI P a)) else (a, s)

def pass1 (P L : List Int) (n : Nat) : Nat → List Int × List Bool
  | 0 => ([], List.replicate n false)
  | k + 1 => ((pass1 P L n k).1 ++ [(chain P L n n (gI L ((n : Int) + k)) (pass1 P L n k).2).1 - n], (chain P L n n (gI L ((n : Int) + k)) (pass1 P L n k).2).2)

def cyc (P L : List Int) : Nat → Int → List Bool → List Bool
  | 0, _, s => s
  | f + 1, a, s => if gB s a then s else cyc P L f (gI L (gI P a)) (sB (sB s a) (gI P a))

/-- Closed loops among the first k, and what has been seen. -/
def cycTo (P L : List Int) (n : Nat) (s : List Bool) : Nat → Int × List Bool
  | 0 => (0, s)
  | k + 1 => if gB (cycTo P L n s k).2 k then cycTo P L n s k else ((cycTo P L n s k).1 + 1, cyc P L (n + 1) k (cycTo P L n s k).2)

def pass (P L : List Int) (n : Nat) : List Int × Int := ((pass1 P L n n).1, (cycTo P L n (pass1 P L n n).2 n).1)
def loopsOf (P L : List Int) (n : Nat) : Int := (cycTo P L n (List.replicate n false) n).1

def nxt (P L : List Int) (a : Int) : Int := gI L (gI P a)

/-- A chain that begins on the other side comes to the other side. -/
theorem chain_leaves {n : Nat} {P L : List Int} (hP : Pairing n P) (hL : Pairing (2 * n) L) (k : Nat) (hk : k < n) :
    ∃ j, j ≤ n ∧ (n : Int) ≤ it (nxt P L) j (gI L ((n : Int) + k)) ∧ ∀ i, i < j → it (nxt P L) i (gI L ((n : Int) + k)) < n := by
  apply Classical.byContradiction
  intro hno
  have hall : ∀ j, j ≤ n → it (nxt P L) j (gI L ((n : Int) + k)) < n := by
    intro j
    induction j using Nat.strongRecOn with
    | _ j ih =>
      intro hj
      apply Classical.byContradiction
      intro hge
      exact hno ⟨j, hj, by omega, fun i hi => ih i hi (by omega)⟩
  have h0 : ∀ j, j ≤ n → 0 ≤ it (nxt P L) j (gI L ((n : Int) + k)) := by
    intro j
    induction j with
    | zero => intro _; exact hL.lo _ (by omega) (by omega)
    | succ j ih =>
      intro hj
      have h1 := ih (by omega)
      have h2 := hall j (by omega)
      have h3 := hP.lo _ h1 h2
      have h4 := hP.hi _ h1 h2
      exact hL.lo _ h3 (by omega)
  have hinj : ∀ i j, i < j → j ≤ n → it (nxt P L) i (gI L ((n : Int) + k)) ≠ it (nxt P L) j (gI L ((n : Int) + k)) := by
    intro i
    induction i with
    | zero =>
      intro j hij hj e
      obtain ⟨j, rfl⟩ : ∃ m, j = m + 1 := ⟨j - 1, by omega⟩
      have h1 := h0 j (by omega)
      have h2 := hall j (by omega)
      have h3 := hP.lo _ h1 h2
      have h4 := hP.hi _ h1 h2
      have h5 : gI L (gI L ((n : Int) + k)) = gI L (gI L (gI P (it (nxt P L) j (gI L ((n : Int) + k))))) := congrArg (gI L) e
      rw [hL.inv _ (by omega) (by omega), hL.inv _ h3 (by omega)] at h5
      omega
    | succ i ih =>
      intro j hij hj e
      obtain ⟨j, rfl⟩ : ∃ m, j = m + 1 := ⟨j - 1, by omega⟩
      have h1 := h0 j (by omega)
      have h2 := hall j (by omega)
      have h1' := h0 i (by omega)
      have h2' := hall i (by omega)
      have h3 := hP.lo _ h1 h2
      have h4 := hP.hi _ h1 h2
      have h3' := hP.lo _ h1' h2'
      have h4' := hP.hi _ h1' h2'
      have h5 : gI L (gI L (gI P (it (nxt P L) i (gI L ((n : Int) + k))))) = gI L (gI L (gI P (it (nxt P L) j (gI L ((n : Int) + k))))) := congrArg (gI L) e
      rw [hL.inv _ h3' (by omega), hL.inv _ h3 (by omega)] at h5
      have h6 := congrArg (gI P) h5
      rw [hP.inv _ h1' h2', hP.inv _ h1 h2] at h6
      exact ih j (by omega) (by omega) h6
  have hnd : ((List.range (n + 1)).map fun j => (it (nxt P L) j (gI L ((n : Int) + k))).toNat).Nodup := by
    rw [List.nodup_iff_pairwise_ne, List.pairwise_map, List.pairwise_iff_getElem]
    intro i j hi hj hij e
    simp only [List.length_range, List.getElem_range] at hi hj e
    have a1 := h0 i (by omega)
    have a2 := h0 j (by omega)
    exact hinj i j hij (by omega) (by omega)
  have hl := pigeon n _ hnd (by
    intro x hx
    obtain ⟨j, hj, rfl⟩ := List.mem_map.1 hx
    have hj' := List.mem_range.1 hj
    have a1 := h0 j (by omega)
    have a2 := hall j (by omega)
    omega)
  simp at hl
  omega

end Knot

namespace Knot

/-- A step that can be walked back, over states that lie two and two on places below N. -/
structure Sys (α : Type) where
  V : α → Prop
  f : α → α
  b : α → α
  seg : α → Nat
  N : Nat
  start : Nat → α
  hf : ∀ a, V a → V (f a)
  hb : ∀ a, V a → V (b a)
  bb : ∀ a, V a → b (b a) = a
  fbf : ∀ a, V a → f (b (f a)) = b a
  seg_b : ∀ a, V a → seg (b a) = seg a
  seg_eq : ∀ a c, V a → V c → seg a = seg c → a = c ∨ a = b c
  seg_lt : ∀ a, V a → seg a < N
  start_V : ∀ k, k < N → V (start k)
  seg_start : ∀ k, k < N → seg (start k) = k
  b_ne : ∀ a, V a → b a ≠ a
  f_ne : ∀ a, V a → f a ≠ b a

namespace Sys
variable {α : Type} (S : Sys α)

theorem f_inj (a c : α) (ha : S.V a) (hc : S.V c) (h : S.f a = S.f c) : a = c := by
  have h1 := S.fbf a ha
  have h2 := S.fbf c hc
  rw [h] at h1
  have h3 : S.b a = S.b c := h1.symm.trans h2
  rw [← S.bb a ha, ← S.bb c hc, h3]

theorem itV (n : Nat) (a : α) (ha : S.V a) : S.V (it S.f n a) := it_mem S.f S.V S.hf n a ha

/-- Going back from n steps ahead. -/
theorem back (n : Nat) (a : α) (ha : S.V a) : it S.f n (S.b (it S.f n a)) = S.b a := by
  induction n with
  | zero => rfl
  | succ n ih =>
    show it S.f (n + 1) (S.b (S.f (it S.f n a))) = _
    rw [it_succ', S.fbf _ (S.itV n a ha)]
    exact ih

/-- The first return. -/
theorem first (a : α) (ha : S.V a) : ∃ T, 1 ≤ T ∧ T ≤ 2 * S.N ∧ it S.f T a = a ∧ ∀ i, 1 ≤ i → i < T → it S.f i a ≠ a := by
  classical
  -- a number of a state: even in one direction, odd in the other
  let code : α → Nat := fun a => 2 * S.seg a + if a = S.start (S.seg a) then 0 else 1
  have code_lt : ∀ a, S.V a → code a < 2 * S.N := by
    intro a ha
    have := S.seg_lt a ha
    show 2 * S.seg a + (if a = S.start (S.seg a) then 0 else 1) < 2 * S.N
    split <;> omega
  have code_inj : ∀ a c, S.V a → S.V c → code a = code c → a = c := by
    intro a c ha hc h
    replace h : 2 * S.seg a + (if a = S.start (S.seg a) then 0 else 1) = 2 * S.seg c + (if c = S.start (S.seg c) then 0 else 1) := h
    have hs : S.seg a = S.seg c := by split at h <;> split at h <;> omega
    rcases S.seg_eq a c ha hc hs with h1 | h1
    · exact h1
    · have hlt := S.seg_lt a ha
      have hst := S.start_V _ hlt
      rw [← hs] at h
      by_cases e1 : a = S.start (S.seg a)
      · by_cases e2 : c = S.start (S.seg a)
        · rw [e1, ← e2]
        · rw [if_pos e1, if_neg e2] at h; omega
      · by_cases e2 : c = S.start (S.seg a)
        · rw [if_neg e1, if_pos e2] at h; omega
        · rcases S.seg_eq a _ ha hst (S.seg_start _ hlt).symm with h3 | h3
          · exact absurd h3 e1
          · rcases S.seg_eq c _ hc hst (by rw [← hs]; exact (S.seg_start _ hlt).symm) with h4 | h4
            · exact absurd h4 e2
            · rw [h3, h4]
  exact comes_back S.f code (2 * S.N) S.V S.hf S.f_inj code_lt code_inj a ha

/-- No walk leads back on its own way. -/
theorem no_back (n : Nat) : ∀ a, S.V a → it S.f n a ≠ S.b a := by
  induction n using Nat.strongRecOn with
  | _ n ih =>
    intro a ha h
    match n, h with
    | 0, h => exact S.b_ne a ha h.symm
    | 1, h => exact S.f_ne a ha h
    | n + 2, h =>
      have h1 : S.f (it S.f (n + 1) a) = S.f (S.b (S.f a)) := by rw [S.fbf a ha]; exact h
      have h2 := S.f_inj _ _ (S.itV _ a ha) (S.hb _ (S.hf a ha)) h1
      rw [it_succ'] at h2
      exact ih n (by omega) (S.f a) (S.hf a ha) h2

/-- Two states of one walk on one place are one. -/
theorem same_seg (a : α) (ha : S.V a) (i j : Nat) (hij : i ≤ j) (h : S.seg (it S.f i a) = S.seg (it S.f j a)) : it S.f (j - i) a = a := by
  have hj : it S.f j a = it S.f (j - i) (it S.f i a) := by rw [← it_add]; congr 1; omega
  have hj' : it S.f j a = it S.f i (it S.f (j - i) a) := by rw [← it_add]; congr 1; omega
  rcases S.seg_eq _ _ (S.itV j a ha) (S.itV i a ha) h.symm with e | e
  · rw [hj'] at e
    exact it_inj S.f S.V S.hf S.f_inj i _ _ (S.itV _ a ha) ha e
  · rw [hj] at e
    exact absurd e (S.no_back _ _ (S.itV i a ha))

/-- Place t is met by the walk from place s. -/
def Rel (s t : Nat) : Prop := ∃ n, S.seg (it S.f n (S.start s)) = t

theorem rel_refl (s : Nat) (hs : s < S.N) : S.Rel s s := ⟨0, S.seg_start s hs⟩

theorem rel_lt {s t : Nat} (hs : s < S.N) (h : S.Rel s t) : t < S.N := by
  obtain ⟨n, rfl⟩ := h
  exact S.seg_lt _ (S.itV n _ (S.start_V s hs))

/-- From whatever state on place s the same places are met. -/
theorem rel_of (a : α) (ha : S.V a) (n : Nat) : S.Rel (S.seg a) (S.seg (it S.f n a)) := by
  have hst := S.start_V _ (S.seg_lt a ha)
  rcases S.seg_eq a _ ha hst (S.seg_start _ (S.seg_lt a ha)).symm with e | e
  · exact ⟨n, by rw [← e]⟩
  · -- a = b s, s the start: the way back from n steps ahead of a; it comes round
    obtain ⟨T, hT1, _, hT, _⟩ := S.first _ (S.itV n a ha)
    have hback := S.back n a ha
    have hbs : S.b a = S.start (S.seg a) := by
      have h2 := congrArg S.b e
      rwa [S.bb _ hst] at h2
    -- u := b (f^n a) leads in n steps to the start; so the start leads on to u
    have hu := S.hb _ (S.itV n a ha)
    obtain ⟨U, hU1, _, hU, _⟩ := S.first _ hu
    refine ⟨U * (n + 1) - n, ?_⟩
    have hmul : ∀ m, it S.f (U * m) (S.b (it S.f n a)) = S.b (it S.f n a) := by
      intro m
      induction m with
      | zero => rfl
      | succ m ih => rw [Nat.mul_succ, it_add, hU, ih]
    have hge : n ≤ U * (n + 1) := by
      calc n ≤ n + 1 := by omega
        _ = 1 * (n + 1) := by omega
        _ ≤ U * (n + 1) := Nat.mul_le_mul_right _ hU1
    have : it S.f (U * (n + 1) - n) (S.start (S.seg a)) = S.b (it S.f n a) := by
      rw [← hbs, ← hback, ← it_add, show U * (n + 1) - n + n = U * (n + 1) by omega]
      exact hmul _
    rw [this, S.seg_b _ (S.itV n a ha)]

theorem rel_symm {s t : Nat} (hs : s < S.N) (h : S.Rel s t) : S.Rel t s := by
  obtain ⟨n, rfl⟩ := h
  have hst := S.start_V s hs
  have hb := S.hb _ (S.itV n _ hst)
  have h1 := S.rel_of _ hb n
  rw [S.back n _ hst, S.seg_b _ (S.itV n _ hst), S.seg_b _ hst, S.seg_start s hs] at h1
  exact h1

theorem rel_trans {s t u : Nat} (hs : s < S.N) (h : S.Rel s t) (h' : S.Rel t u) : S.Rel s u := by
  obtain ⟨n, rfl⟩ := h
  obtain ⟨m, rfl⟩ := h'
  have hst := S.start_V s hs
  have hn := S.itV n _ hst
  -- the start of place t is f^n s or its back
  have htl := S.seg_lt _ hn
  have htt := S.start_V _ htl
  rcases S.seg_eq _ _ htt hn (S.seg_start _ htl) with e | e
  · rw [e, ← it_add]
    exact ⟨m + n, rfl⟩
  · rw [e]
    have h1 := S.rel_of _ (S.hb _ hn) (m)
    -- the walk from b (f^n s): after n steps it is at b s
    have h2 : S.Rel s (S.seg (S.b (it S.f n (S.start s)))) := by rw [S.seg_b _ hn]; exact ⟨n, rfl⟩
    -- b(f^n s) comes round: it = f^U-cycle; use rel_of at b s
    obtain ⟨U, hU1, _, hU, _⟩ := S.first _ (S.hb _ hn)
    have hmul : ∀ k, it S.f (U * k) (S.b (it S.f n (S.start s))) = S.b (it S.f n (S.start s)) := by
      intro k
      induction k with
      | zero => rfl
      | succ k ih => rw [Nat.mul_succ, it_add, hU, ih]
    have hge : n ≤ U * (n + 1) := by
      calc n ≤ n + 1 := by omega
        _ = 1 * (n + 1) := by omega
        _ ≤ U * (n + 1) := Nat.mul_le_mul_right _ hU1
    have h3 : it S.f (U * (n + 1) - n) (S.b (S.start s)) = S.b (it S.f n (S.start s)) := by
      rw [← S.back n _ hst, ← it_add, show U * (n + 1) - n + n = U * (n + 1) by omega]
      exact hmul _
    have h4 := S.rel_of _ (S.hb _ hst) (m + (U * (n + 1) - n))
    rw [it_add, h3, S.seg_b _ hst, S.seg_start s hs] at h4
    exact h4

end Sys
end Knot

namespace Knot

/-- The states from a on, until the step leads to a0. -/
def orbF {α : Type} [DecidableEq α] (f : α → α) (a0 : α) : Nat → α → List α
  | 0, _ => []
  | n + 1, a => a :: (if f a = a0 then [] else orbF f a0 n (f a))

theorem orbF_eq {α : Type} [DecidableEq α] (f : α → α) (a0 : α) (T : Nat) (hT : it f T a0 = a0) (hmin : ∀ i, 1 ≤ i → i < T → it f i a0 ≠ a0) :
    ∀ (n i : Nat), i < T → T - i ≤ n → orbF f a0 n (it f i a0) = (List.range' i (T - i)).map fun j => it f j a0 := by
  intro n
  induction n with
  | zero => intro i h1 h2; omega
  | succ n ih =>
    intro i h1 h2
    have hc : T - i = (T - (i + 1)) + 1 := by omega
    rw [orbF, hc, List.range'_succ, List.map_cons]
    congr 1
    by_cases he : i + 1 = T
    · have e1 : f (it f i a0) = a0 := by
        have e2 : it f (i + 1) a0 = a0 := by rw [he]; exact hT
        exact e2
      rw [if_pos e1, he]
      simp
    · rw [if_neg (show f (it f i a0) ≠ a0 from hmin (i + 1) (by omega) (by omega))]
      exact ih (i + 1) (by omega) (by omega)

/-- Marks: the number c at all places of a list. -/
def mark (c : Int) (own : List Int) (ss : List Nat) : List Int := ss.foldl (fun o s => o.set s c) own

theorem mark_length (c : Int) (ss : List Nat) : ∀ own, (mark c own ss).length = own.length := by
  induction ss with
  | nil => intro own; rfl
  | cons a t ih => intro own; show (mark c (own.set a c) t).length = _; rw [ih]; simp

theorem mark_getD (c : Int) (ss : List Nat) : ∀ own (k : Nat) (d : Int), k < own.length → (mark c own ss).getD k d = if k ∈ ss then c else own.getD k d := by
  induction ss with
  | nil => intro own k d hk; simp [mark]
  | cons a t ih =>
    intro own k d hk
    show (mark c (own.set a c) t).getD k d = _
    rw [ih _ _ _ (by simpa using hk)]
    by_cases h1 : k ∈ t
    · simp [h1]
    · by_cases h2 : k = a
      · subst h2; simp [h1, List.getD, hk]
      · simp [h1, h2, List.getD, Ne.symm h2]

variable {α : Type} [DecidableEq α]

/-- All curves that begin at a place below k, and the curve of each place. -/
def traceTo (f : α → α) (seg : α → Nat) (start : Nat → α) (N : Nat) : Nat → List (List α) × List Int
  | 0 => ([], List.replicate N (-1))
  | k + 1 =>
    let r := traceTo f seg start N k
    if 0 ≤ r.2.getD k 0 then r
    else
      let c := orbF f (start k) (2 * N) (start k)
      (r.1 ++ [c], mark r.1.length r.2 (c.map seg))

namespace Sys
variable (S : Sys α)

def traceTo (k : Nat) := Knot.traceTo S.f S.seg S.start S.N k

theorem orb_mem (k : Nat) (hk : k < S.N) (t : Nat) : t ∈ (orbF S.f (S.start k) (2 * S.N) (S.start k)).map S.seg ↔ S.Rel k t := by
  obtain ⟨T, h1, h2, h3, h4⟩ := S.first _ (S.start_V k hk)
  have he := orbF_eq S.f (S.start k) T h3 h4 (2 * S.N) 0 (by omega) (by omega)
  simp only [it] at he
  rw [he]
  simp only [List.map_map, List.mem_map, List.mem_range'_1, Function.comp]
  constructor
  · rintro ⟨j, _, rfl⟩; exact ⟨j, rfl⟩
  · rintro ⟨n, rfl⟩
    refine ⟨n % T, ⟨by omega, by have := Nat.mod_lt n (show 0 < T by omega); omega⟩, ?_⟩
    have hmul : ∀ m, it S.f (T * m) (S.start k) = S.start k := by
      intro m
      induction m with
      | zero => rfl
      | succ m ih => rw [Nat.mul_succ, it_add, h3, ih]
    have hd := Nat.mod_add_div n T
    have : it S.f n (S.start k) = it S.f (n % T) (S.start k) := by
      conv => lhs; rw [← hd]
      rw [it_add, hmul]
    rw [this]

/-- What the tracing has found when it has come to place k. -/
structure Traced (k : Nat) (r : List (List α) × List Int) (reps : List Nat) : Prop where
  len : r.1.length = reps.length
  olen : r.2.length = S.N
  lt : ∀ s ∈ reps, s < k
  apart : reps.Pairwise fun s t => ¬ S.Rel s t
  cur : ∀ (i : Nat) s, reps[i]? = some s → r.1[i]? = some (orbF S.f (S.start s) (2 * S.N) (S.start s))
  own : ∀ t, t < S.N → (r.2.getD t 0 = -1 ∧ ∀ s ∈ reps, ¬ S.Rel s t) ∨ ∃ (i : Nat) (s : Nat), reps[i]? = some s ∧ S.Rel s t ∧ r.2.getD t 0 = (i : Int)
  all : ∀ t, t < k → ∃ s ∈ reps, S.Rel s t

theorem traced (k : Nat) (hk : k ≤ S.N) : ∃ reps, S.Traced k (S.traceTo k) reps := by
  induction k with
  | zero => exact ⟨[], ⟨rfl, by simp [traceTo, Knot.traceTo], by simp, by simp, by simp, fun t ht => .inl ⟨by simp [traceTo, Knot.traceTo, List.getD, ht], by simp⟩, fun t ht => by omega⟩⟩
  | succ k ih =>
    obtain ⟨reps, h⟩ := ih (by omega)
    have hkN : k < S.N := by omega
    unfold traceTo
    rw [Knot.traceTo]
    simp only []
    have hr : Knot.traceTo S.f S.seg S.start S.N k = S.traceTo k := rfl
    rw [hr]
    by_cases hp : 0 ≤ (S.traceTo k).2.getD k 0
    · rw [if_pos hp]
      refine ⟨reps, ⟨h.len, h.olen, fun s hs => by have := h.lt s hs; omega, h.apart, h.cur, h.own, fun t ht => ?_⟩⟩
      by_cases ht' : t < k
      · exact h.all t ht'
      · have : t = k := by omega
        subst this
        rcases h.own t hkN with ⟨e, _⟩ | ⟨i, s, hi, hs, _⟩
        · omega
        · exact ⟨s, List.mem_of_getElem? hi, hs⟩
    · rw [if_neg hp]
      have hno : ∀ s ∈ reps, ¬ S.Rel s k := by
        rcases h.own k hkN with ⟨_, e⟩ | ⟨i, s, _, _, e⟩
        · exact e
        · exfalso; omega
      have hkk := S.rel_refl k hkN
      refine ⟨reps ++ [k], ⟨by simp [h.len], by simp [mark_length, h.olen], ?_, ?_, ?_, ?_, ?_⟩⟩
      · intro s hs
        rcases List.mem_append.1 hs with h1 | h1
        · have := h.lt s h1; omega
        · simp at h1; omega
      · rw [List.pairwise_append]
        exact ⟨h.apart, by simp, fun a ha b hb => by simp at hb; subst hb; exact hno a ha⟩
      · intro i s hi
        rw [List.getElem?_append] at hi ⊢
        rw [h.len]
        split at hi
        · rename_i hlt; rw [if_pos hlt]; exact h.cur i s hi
        · rename_i hlt
          rw [if_neg hlt]
          have : i - reps.length = 0 := by
            rcases Nat.eq_zero_or_pos (i - reps.length) with h0 | h0
            · exact h0
            · rw [List.getElem?_eq_none (by simp; omega)] at hi; cases hi
          rw [this] at hi ⊢
          simp at hi
          subst hi
          rfl
      · intro t ht
        have hm := mark_getD ((S.traceTo k).1.length : Int) ((orbF S.f (S.start k) (2 * S.N) (S.start k)).map S.seg) (S.traceTo k).2 t 0 (by rw [h.olen]; exact ht)
        simp only [] at hm ⊢
        rw [hm]
        by_cases hrt : S.Rel k t
        · rw [if_pos ((S.orb_mem k hkN t).2 hrt)]
          right
          refine ⟨reps.length, k, by simp, hrt, by rw [h.len]⟩
        · rw [if_neg (fun hh => hrt ((S.orb_mem k hkN t).1 hh))]
          rcases h.own t ht with ⟨e1, e2⟩ | ⟨i, s, hi, hs, e⟩
          · left
            refine ⟨e1, fun s hs => ?_⟩
            rcases List.mem_append.1 hs with h1 | h1
            · exact e2 s h1
            · simp at h1; subst h1; exact hrt
          · right
            refine ⟨i, s, ?_, hs, e⟩
            rw [List.getElem?_append_left (by exact (List.getElem?_eq_some_iff.1 hi).1)]
            exact hi
      · intro t ht
        by_cases ht' : t < k
        · obtain ⟨s, hs, hr⟩ := h.all t ht'
          exact ⟨s, by simp [hs], hr⟩
        · have : t = k := by omega
          subst this
          exact ⟨t, by simp, hkk⟩

/-- The curves are as many as the classes. -/
theorem traced_reps {reps : List Nat} {r : List (List α) × List Int} (h : S.Traced S.N r reps) : Reps S.Rel (· < S.N) reps :=
  ⟨h.lt, h.apart, fun t ht => by
    obtain ⟨s, hs, hr⟩ := h.all t ht
    exact ⟨s, hs, S.rel_symm (h.lt s hs) hr⟩⟩

/-- Two places are of one curve if and only if they are related. -/
theorem traced_same {reps : List Nat} {r : List (List α) × List Int} (h : S.Traced S.N r reps) {a b : Nat} (ha : a < S.N) (hb : b < S.N) :
    r.2.getD a 0 = r.2.getD b 0 ↔ S.Rel a b := by
  obtain ⟨i, s, hi, hs, e⟩ : ∃ (i : Nat) (s : Nat), reps[i]? = some s ∧ S.Rel s a ∧ r.2.getD a 0 = (i : Int) := by
    rcases h.own a ha with ⟨_, e⟩ | h'
    · obtain ⟨s, hs, hr⟩ := h.all a ha; exact absurd hr (e s hs)
    · exact h'
  obtain ⟨j, t, hj, ht, e'⟩ : ∃ (i : Nat) (s : Nat), reps[i]? = some s ∧ S.Rel s b ∧ r.2.getD b 0 = (i : Int) := by
    rcases h.own b hb with ⟨_, e⟩ | h'
    · obtain ⟨s, hs, hr⟩ := h.all b hb; exact absurd hr (e s hs)
    · exact h'
  have hsl := h.lt s (List.mem_of_getElem? hi)
  have htl := h.lt t (List.mem_of_getElem? hj)
  constructor
  · intro hab
    have : i = j := by omega
    subst this
    rw [hi] at hj
    cases hj
    exact S.rel_trans ha (S.rel_symm hsl hs) ht
  · intro hab
    have hst : S.Rel s t := S.rel_trans hsl hs (S.rel_trans ha hab (S.rel_symm htl ht))
    have hts : S.Rel t s := S.rel_symm hsl hst
    rw [e, e']
    have hpw := List.pairwise_iff_getElem.1 h.apart
    obtain ⟨hi1, hi2⟩ := List.getElem?_eq_some_iff.1 hi
    obtain ⟨hj1, hj2⟩ := List.getElem?_eq_some_iff.1 hj
    rcases Nat.lt_trichotomy i j with hlt | heq | hgt
    · exact absurd (by rw [hi2, hj2]; exact hst) (hpw i j hi1 hj1 hlt)
    · rw [heq]
    · exact absurd (by rw [hi2, hj2]; exact hts) (hpw j i hj1 hi1 hgt)

end Sys
end Knot

namespace Knot

structure Pan where
  W : Int
  H : Int
  B : List Int
  deriving DecidableEq

structure Wk where
  X : Int
  Y : Int
  dx : Int
  dy : Int
  deriving DecidableEq

def inner (w h : Int) : Int := w * (h - 1) + h * (w - 1)

structure Ok (p : Pan) : Prop where
  w1 : 1 ≤ p.W
  w8 : p.W ≤ 8
  h1 : 1 ≤ p.H
  h8 : p.H ≤ 8
  len : (p.B.length : Int) = inner p.W p.H
  kind : ∀ k ∈ p.B, 0 ≤ k ∧ k ≤ 2

theorem ok_conj (p : Pan) : Ok p ↔ 1 ≤ p.W ∧ p.W ≤ 8 ∧ 1 ≤ p.H ∧ p.H ≤ 8 ∧ (p.B.length : Int) = inner p.W p.H ∧ ∀ k ∈ p.B, 0 ≤ k ∧ k ≤ 2 :=
  ⟨fun h => ⟨h.w1, h.w8, h.h1, h.h8, h.len, h.kind⟩, fun ⟨a, b, c, d, e, f⟩ => ⟨a, b, c, d, e, f⟩⟩
instance (p : Pan) : Decidable (Ok p) := decidable_of_iff _ (ok_conj p).symm
def Has (p : Pan) (x y : Int) : Prop := 0 ≤ x ∧ x ≤ 2 * p.W ∧ 0 ≤ y ∧ y ≤ 2 * p.H ∧ (x + y) % 2 = 1
def Edge (p : Pan) (x y : Int) : Prop := x = 0 ∨ x = 2 * p.W ∨ y = 0 ∨ y = 2 * p.H
instance (p : Pan) (x y : Int) : Decidable (Has p x y) := by unfold Has; infer_instance
instance (p : Pan) (x y : Int) : Decidable (Edge p x y) := by unfold Edge; infer_instance

/-- The number of the inner points in the rows before y. -/
def rowOf (w y : Int) : Int := y / 2 * (w - 1) + (y - 1) / 2 * w
def num (p : Pan) (x y : Int) : Int := rowOf p.W y + (x - 1) / 2
def brk (p : Pan) (x y : Int) : Int := if Edge p x y then 0 else p.B.getD (num p x y).toNat 0

def stepW (p : Pan) (w : Wk) : Wk :=
  let x := w.X + w.dx
  let y := w.Y + w.dy
  let k := brk p x y
  ⟨x, y, if x = 0 ∨ x = 2 * p.W ∨ k = 1 then -w.dx else w.dx, if y = 0 ∨ y = 2 * p.H ∨ k = 2 then -w.dy else w.dy⟩
def backW (w : Wk) : Wk := ⟨w.X + w.dx, w.Y + w.dy, -w.dx, -w.dy⟩
def segI (p : Pan) (w : Wk) : Int := min w.X (w.X + w.dx) * (2 * p.H) + min w.Y (w.Y + w.dy)
def startI (p : Pan) (k : Int) : Wk :=
  let x := k / (2 * p.H)
  let y := k % (2 * p.H)
  if (x + y) % 2 = 1 then ⟨x, y, 1, 1⟩ else ⟨x, y + 1, 1, -1⟩

structure OkW (p : Pan) (w : Wk) : Prop where
  dx : w.dx = 1 ∨ w.dx = -1
  dy : w.dy = 1 ∨ w.dy = -1
  here : Has p w.X w.Y
  there : Has p (w.X + w.dx) (w.Y + w.dy)

theorem lin_lt {n x y m : Int} (hx : x < m) (hy : y < n) (hn : 0 < n) : x * n + y < m * n := by
  have h : x * n ≤ (m - 1) * n := Int.mul_le_mul_of_nonneg_right (by omega) (by omega)
  rw [Int.sub_mul] at h
  omega
theorem lin_nonneg {n x y : Int} (hx : 0 ≤ x) (hy : 0 ≤ y) (hn : 0 ≤ n) : 0 ≤ x * n + y := by
  have := Int.mul_nonneg hx hn
  omega
theorem lin_div {n x y : Int} (h0 : 0 ≤ y) (h1 : y < n) : (x * n + y) / n = x := by
  rw [Int.add_comm, Int.add_mul_ediv_right _ _ (by omega), Int.ediv_eq_zero_of_lt h0 h1]; omega
theorem lin_mod {n x y : Int} (h0 : 0 ≤ y) (h1 : y < n) : (x * n + y) % n = y := by
  rw [Int.add_comm, Int.add_mul_emod_self_right, Int.emod_eq_of_lt h0 h1]
theorem lin_inj {n x y x' y' : Int} (h0 : 0 ≤ y) (h1 : y < n) (h0' : 0 ≤ y') (h1' : y' < n) (h : x * n + y = x' * n + y') : x = x' ∧ y = y' :=
  ⟨by rw [← lin_div h0 h1 (x := x), h, lin_div h0' h1'], by rw [← lin_mod h0 h1 (x := x), h, lin_mod h0' h1']⟩

section
variable {p : Pan}

theorem okW_mk {X Y dx dy : Int} (h1 : dx = 1 ∨ dx = -1) (h2 : dy = 1 ∨ dy = -1) (h3 : Has p X Y) (h4 : Has p (X + dx) (Y + dy)) : OkW p ⟨X, Y, dx, dy⟩ := ⟨h1, h2, h3, h4⟩

theorem OkW.step {w : Wk} (hp : Ok p) (h : OkW p w) : OkW p (stepW p w) := by
  obtain ⟨h1, h2, ⟨a1, a2, a3, a4, a5⟩, ⟨b1, b2, b3, b4, b5⟩⟩ := h
  obtain ⟨X, Y, dx, dy⟩ := w
  have := hp.w1
  have := hp.h1
  simp only [stepW] at *
  generalize brk p (X + dx) (Y + dy) = k
  refine okW_mk ?_ ?_ ⟨b1, b2, b3, b4, b5⟩ ?_
  · split <;> omega
  · split <;> omega
  · unfold Has
    split <;> split <;> omega

theorem OkW.back {w : Wk} (h : OkW p w) : OkW p (backW w) := by
  obtain ⟨h1, h2, h3, h4⟩ := h
  obtain ⟨X, Y, dx, dy⟩ := w
  simp only [backW] at *
  refine okW_mk (by omega) (by omega) h4 ?_
  rw [show X + dx + -dx = X by omega, show Y + dy + -dy = Y by omega]
  exact h3

theorem back_back (w : Wk) : backW (backW w) = w := by
  unfold backW
  cases w
  simp
  omega

theorem step_back_step (w : Wk) : stepW p (backW (stepW p w)) = backW w := by
  obtain ⟨X, Y, dx, dy⟩ := w
  have e1 : ∀ c : Prop, [Decidable c] → X + dx + (if c then -dx else dx) + -(if c then -dx else dx) = X + dx := fun c _ => by split <;> omega
  have e2 : ∀ c : Prop, [Decidable c] → Y + dy + (if c then -dy else dy) + -(if c then -dy else dy) = Y + dy := fun c _ => by split <;> omega
  simp only [stepW, backW, e1, e2]
  congr 1
  · split <;> simp [*]
  · split <;> simp [*]

theorem seg_back (w : Wk) : segI p (backW w) = segI p w := by
  obtain ⟨X, Y, dx, dy⟩ := w
  simp only [segI, backW]
  rw [show X + dx + -dx = X by omega, show Y + dy + -dy = Y by omega, Int.min_comm (X + dx), Int.min_comm (Y + dy)]

theorem seg_bounds {w : Wk} (h : OkW p w) : 0 ≤ segI p w ∧ segI p w < 4 * p.W * p.H := by
  obtain ⟨h1, h2, ⟨a1, a2, a3, a4, a5⟩, ⟨b1, b2, b3, b4, b5⟩⟩ := h
  unfold segI
  constructor
  · exact lin_nonneg (by omega) (by omega) (by omega)
  · have h := lin_lt (n := 2 * p.H) (x := min w.X (w.X + w.dx)) (y := min w.Y (w.Y + w.dy)) (m := 2 * p.W) (by omega) (by omega) (by omega)
    rw [show 4 * p.W * p.H = 2 * p.W * (2 * p.H) by rw [Int.mul_assoc 2, Int.mul_left_comm p.W, ← Int.mul_assoc 2 2, Int.mul_assoc 4]; rfl]
    exact h

theorem seg_same {a c : Wk} (ha : OkW p a) (hc : OkW p c) (h : segI p a = segI p c) : a = c ∨ a = backW c := by
  obtain ⟨h1, h2, ⟨a1, a2, a3, a4, a5⟩, ⟨b1, b2, b3, b4, b5⟩⟩ := ha
  obtain ⟨h1', h2', ⟨a1', a2', a3', a4', a5'⟩, ⟨b1', b2', b3', b4', b5'⟩⟩ := hc
  unfold segI at h
  obtain ⟨e1, e2⟩ := lin_inj (by omega) (by omega) (by omega) (by omega) h
  obtain ⟨X, Y, dx, dy⟩ := a
  obtain ⟨X', Y', dx', dy'⟩ := c
  simp only [backW, Wk.mk.injEq] at *
  rcases h1 with rfl | rfl <;> rcases h2 with rfl | rfl <;> rcases h1' with rfl | rfl <;> rcases h2' with rfl | rfl <;> omega

theorem start_ok (hp : Ok p) {k : Int} (h0 : 0 ≤ k) (h1 : k < 4 * p.W * p.H) : OkW p (startI p k) ∧ segI p (startI p k) = k := by
  have hH := hp.h1
  have hW := hp.w1
  have hm0 := Int.emod_nonneg k (show 2 * p.H ≠ 0 by omega)
  have hm1 := Int.emod_lt_of_pos k (show 0 < 2 * p.H by omega)
  have hd := Int.mul_ediv_add_emod k (2 * p.H)
  have hx0 : 0 ≤ k / (2 * p.H) := Int.ediv_nonneg h0 (by omega)
  have hx1 : k / (2 * p.H) < 2 * p.W := by
    refine Int.ediv_lt_of_lt_mul (by omega) ?_
    rw [show 2 * p.W * (2 * p.H) = 4 * p.W * p.H by rw [Int.mul_assoc 2, Int.mul_left_comm p.W, ← Int.mul_assoc 2 2, Int.mul_assoc 4]; rfl]
    exact h1
  unfold startI
  simp only []
  generalize k / (2 * p.H) = x at *
  generalize k % (2 * p.H) = y at *
  split
  · rename_i hpar
    refine ⟨okW_mk (.inl rfl) (.inl rfl) ⟨hx0, by omega, hm0, by omega, hpar⟩ ⟨by omega, by omega, by omega, by omega, by omega⟩, ?_⟩
    show min _ (_ + 1) * _ + min _ (_ + 1) = k
    rw [Int.min_eq_left (by omega), Int.min_eq_left (by omega), Int.mul_comm]
    omega
  · rename_i hpar
    refine ⟨okW_mk (.inl rfl) (.inr rfl) ⟨hx0, by omega, by omega, by omega, by omega⟩ ⟨by omega, by omega, by omega, by omega, by omega⟩, ?_⟩
    show min x (x + 1) * _ + min (y + 1) (y + 1 + -1) = k
    rw [Int.min_eq_left (by omega), Int.min_eq_right (by omega), Int.mul_comm]
    omega

theorem back_ne {w : Wk} (h : OkW p w) : backW w ≠ w := by
  obtain ⟨X, Y, dx, dy⟩ := w
  have := h.dx
  simp only [backW, ne_eq, Wk.mk.injEq] at *
  omega

theorem step_ne_back {w : Wk} (h : OkW p w) : stepW p w ≠ backW w := by
  obtain ⟨h1, h2, _, ⟨b1, b2, b3, b4, b5⟩⟩ := h
  obtain ⟨X, Y, dx, dy⟩ := w
  simp only [stepW, backW, ne_eq, Wk.mk.injEq] at *
  rintro ⟨_, _, e1, e2⟩
  split at e1
  · split at e2
    · rename_i c1 c2
      have hk : brk p (X + dx) (Y + dy) = if Edge p (X + dx) (Y + dy) then 0 else p.B.getD (num p (X + dx) (Y + dy)).toNat 0 := rfl
      by_cases he : Edge p (X + dx) (Y + dy)
      · rw [if_pos he] at hk
        rw [hk] at c1 c2
        omega
      · simp only [Edge] at he
        omega
    · omega
  · omega

/-- The walkers of a valid panel. -/
def sys (p : Pan) (hp : Ok p) : Sys Wk where
  V := OkW p
  f := stepW p
  b := backW
  seg := fun w => (segI p w).toNat
  N := (4 * p.W * p.H).toNat
  start := fun k => startI p k
  hf := fun _ h => h.step hp
  hb := fun _ h => h.back
  bb := fun a _ => back_back a
  fbf := fun a _ => step_back_step a
  seg_b := fun a _ => by rw [seg_back]
  seg_eq := fun a c ha hc h => seg_same ha hc (by
    have := seg_bounds ha
    have := seg_bounds hc
    omega)
  seg_lt := fun a ha => by have := seg_bounds ha; omega
  start_V := fun k hk => (start_ok hp (by omega) (by omega)).1
  seg_start := fun k hk => by rw [(start_ok hp (k := (k : Int)) (by omega) (by omega)).2]; omega
  b_ne := fun _ h => back_ne h
  f_ne := fun _ h => step_ne_back h
end
end Knot

namespace Knot

/-! ### The inner points of a panel and their numbers -/

def ptY (W k : Int) : Int := if k % (2 * W - 1) < W - 1 then 2 * (k / (2 * W - 1)) + 1 else 2 * (k / (2 * W - 1)) + 2
def ptX (W k : Int) : Int := if k % (2 * W - 1) < W - 1 then 2 * (k % (2 * W - 1)) + 2 else 2 * (k % (2 * W - 1) - (W - 1)) + 1

theorem eight_cases {W : Int} (h1 : 1 ≤ W) (h8 : W ≤ 8) : W = 1 ∨ W = 2 ∨ W = 3 ∨ W = 4 ∨ W = 5 ∨ W = 6 ∨ W = 7 ∨ W = 8 := by omega

section
variable {W H : Int} (w1 : 1 ≤ W) (w8 : W ≤ 8)
include w1 w8
theorem pt_in {k : Int} (_k0 : 0 ≤ k) (k1 : k < inner W H) : 1 ≤ ptY W k ∧ ptY W k < 2 * H ∧ 1 ≤ ptX W k ∧ ptX W k < 2 * W ∧ (ptX W k + ptY W k) % 2 = 1 := by
  rcases eight_cases w1 w8 with rfl | rfl | rfl | rfl | rfl | rfl | rfl | rfl <;> simp only [ptX, ptY, inner] at * <;> split <;> omega
theorem pt_num {k : Int} (_k0 : 0 ≤ k) : rowOf W (ptY W k) + (ptX W k - 1) / 2 = k := by
  rcases eight_cases w1 w8 with rfl | rfl | rfl | rfl | rfl | rfl | rfl | rfl <;> simp only [ptX, ptY, rowOf] at * <;> split <;> omega
theorem num_pt {x y : Int} (y0 : 1 ≤ y) (y1 : y < 2 * H) (x0 : 1 ≤ x) (x1 : x < 2 * W) (hp : (x + y) % 2 = 1) :
    0 ≤ rowOf W y + (x - 1) / 2 ∧ rowOf W y + (x - 1) / 2 < inner W H ∧ ptX W (rowOf W y + (x - 1) / 2) = x ∧ ptY W (rowOf W y + (x - 1) / 2) = y := by
  generalize hn : rowOf W y + (x - 1) / 2 = n
  rcases (show (∃ q t : Int, y = 2 * q + 1 ∧ x = 2 * t + 2 ∧ 0 ≤ q ∧ 0 ≤ t) ∨ (∃ q t : Int, y = 2 * q + 2 ∧ x = 2 * t + 1 ∧ 0 ≤ q ∧ 0 ≤ t) from by
    by_cases h : y % 2 = 1
    · exact .inl ⟨y / 2, x / 2 - 1, by omega, by omega, by omega, by omega⟩
    · exact .inr ⟨y / 2 - 1, x / 2, by omega, by omega, by omega, by omega⟩) with ⟨q, t, rfl, rfl, q0, t0⟩ | ⟨q, t, rfl, rfl, q0, t0⟩
  · have hn' : n = q * (2 * W - 1) + t := by
      rw [← hn]
      rcases eight_cases w1 w8 with rfl | rfl | rfl | rfl | rfl | rfl | rfl | rfl <;> simp only [rowOf] <;> omega
    clear hn
    have e1 : n / (2 * W - 1) = q := by rw [hn']; exact lin_div t0 (by omega)
    have e2 : n % (2 * W - 1) = t := by rw [hn']; exact lin_mod t0 (by omega)
    unfold ptX ptY
    rw [e1, e2, if_pos (by omega), if_pos (by omega)]
    refine ⟨?_, ?_, rfl, rfl⟩
    · rw [hn']; exact lin_nonneg q0 t0 (by omega)
    · rcases eight_cases w1 w8 with rfl | rfl | rfl | rfl | rfl | rfl | rfl | rfl <;> simp only [inner] <;> omega
  · have hn' : n = q * (2 * W - 1) + (W - 1 + t) := by
      rw [← hn]
      rcases eight_cases w1 w8 with rfl | rfl | rfl | rfl | rfl | rfl | rfl | rfl <;> simp only [rowOf] <;> omega
    clear hn
    have e1 : n / (2 * W - 1) = q := by rw [hn']; exact lin_div (by omega) (by omega)
    have e2 : n % (2 * W - 1) = W - 1 + t := by rw [hn']; exact lin_mod (by omega) (by omega)
    unfold ptX ptY
    rw [e1, e2, if_neg (by omega), if_neg (by omega)]
    refine ⟨?_, ?_, by omega, rfl⟩
    · rw [hn']; exact lin_nonneg q0 (by omega) (by omega)
    · rcases eight_cases w1 w8 with rfl | rfl | rfl | rfl | rfl | rfl | rfl | rfl <;> simp only [inner] <;> omega
theorem row_bd {y : Int} (y0 : 1 ≤ y) (y1 : y ≤ 16) : 0 ≤ rowOf W y ∧ rowOf W y ≤ 200 := by
  rcases eight_cases w1 w8 with rfl | rfl | rfl | rfl | rfl | rfl | rfl | rfl <;> simp only [rowOf] at * <;> omega
theorem row_succ {y : Int} (y0 : 1 ≤ y) : rowOf W (y + 1) = rowOf W y + W - y % 2 := by
  rcases eight_cases w1 w8 with rfl | rfl | rfl | rfl | rfl | rfl | rfl | rfl <;> simp only [rowOf] at * <;> omega
theorem row_le {y z : Int} (y0 : 1 ≤ y) (h : y ≤ z) : rowOf W y ≤ rowOf W z := by
  rcases eight_cases w1 w8 with rfl | rfl | rfl | rfl | rfl | rfl | rfl | rfl <;> simp only [rowOf] at * <;> omega
theorem row_of_pt {k : Int} (k0 : 0 ≤ k) : rowOf W (ptY W k) ≤ k ∧ k < rowOf W (ptY W k + 1) ∧ ptX W k = 2 * (k - rowOf W (ptY W k)) + 1 + ptY W k % 2 ∧ 1 ≤ ptY W k := by
  rcases eight_cases w1 w8 with rfl | rfl | rfl | rfl | rfl | rfl | rfl | rfl <;> simp only [ptX, ptY, rowOf] at * <;> split <;> refine ⟨by omega, by omega, by omega, by omega⟩
theorem row_end : rowOf W (2 * H) = inner W H := by
  rcases eight_cases w1 w8 with rfl | rfl | rfl | rfl | rfl | rfl | rfl | rfl <;> simp only [rowOf, inner] at * <;> omega
theorem row_one : rowOf W 1 = 0 := by
  rcases eight_cases w1 w8 with rfl | rfl | rfl | rfl | rfl | rfl | rfl | rfl <;> simp only [rowOf] at * <;> omega
end

/-- The first points, one after the other. -/
def ptsTo (W : Int) : Nat → List Int
  | 0 => []
  | k + 1 => ptsTo W k ++ [ptX W k, ptY W k]
theorem ptsTo_length (W : Int) : ∀ k, (ptsTo W k).length = 2 * k
  | 0 => rfl
  | k + 1 => by rw [ptsTo, List.length_append, ptsTo_length W k]; simp; omega
theorem ptsTo_get (W : Int) : ∀ (n k : Nat), k < n → gI (ptsTo W n) ((2 * k : Nat) : Int) = ptX W k ∧ gI (ptsTo W n) ((2 * k + 1 : Nat) : Int) = ptY W k
  | 0, k, h => by omega
  | n + 1, k, h => by
    have hl := ptsTo_length W n
    by_cases hk : k < n
    · obtain ⟨h1, h2⟩ := ptsTo_get W n k hk
      rw [← h1, ← h2]
      constructor
      · show (ptsTo W n ++ _).getD _ _ = (ptsTo W n).getD _ _
        simp only [Int.toNat_natCast, List.getD]
        rw [List.getElem?_append_left (by omega)]
      · show (ptsTo W n ++ _).getD _ _ = (ptsTo W n).getD _ _
        simp only [Int.toNat_natCast, List.getD]
        rw [List.getElem?_append_left (by omega)]
    · have e : k = n := by omega
      subst e
      constructor
      · show (ptsTo W k ++ _).getD _ _ = _
        simp only [Int.toNat_natCast, List.getD]
        rw [List.getElem?_append_right (by omega), hl]
        simp
      · show (ptsTo W k ++ _).getD _ _ = _
        simp only [Int.toNat_natCast, List.getD]
        rw [List.getElem?_append_right (by omega), hl]
        simp

/-- What the panel holds at an inner point is what stands at the point's number. -/
theorem not_edge {p : Pan} {x y : Int} (h : Has p x y) (he : ¬ Edge p x y) : 1 ≤ y ∧ y < 2 * p.H ∧ 1 ≤ x ∧ x < 2 * p.W := by
  obtain ⟨a, b, c, d, _⟩ := h
  unfold Edge at he
  omega
end Knot

namespace Knot

/-! ### The walk of a walker, step by step -/

/-- The first states of a walk. -/
def trk (p : Pan) (a : Wk) (n : Nat) : List Wk := (List.range n).map fun j => it (stepW p) j a
theorem trk_length (p : Pan) (a : Wk) (n : Nat) : (trk p a n).length = n := by simp [trk]
theorem trk_succ (p : Pan) (a : Wk) (n : Nat) : trk p a (n + 1) = trk p a n ++ [it (stepW p) n a] := by simp [trk, List.range_succ]
/-- The points at which walkers stand, one after the other (X, Y, X, Y, ..). -/
def flatP (l : List Wk) : List Int := l.flatMap fun a => [a.X, a.Y]
theorem flatP_append (l m : List Wk) : flatP (l ++ m) = flatP l ++ flatP m := by simp [flatP]
def segsP (p : Pan) (l : List Wk) : List Int := l.map (segI p)
/-- How many segments; the tracing of a panel. -/
def segN (p : Pan) : Nat := (4 * p.W * p.H).toNat
def traceP (p : Pan) (k : Nat) : List (List Wk) × List Int := traceTo (stepW p) (fun w => (segI p w).toNat) (fun k => startI p k) (segN p) k
theorem traceP_sys {p : Pan} (hp : Ok p) (k : Nat) : (sys p hp).traceTo k = traceP p k := rfl
theorem segN_le {p : Pan} (hp : Ok p) : segN p ≤ 256 := by
  show (4 * p.W * p.H).toNat ≤ 256
  have := hp.w1
  have := hp.w8
  have := hp.h1
  have := hp.h8
  have h : 4 * p.W * p.H ≤ 4 * 8 * 8 := Int.mul_le_mul (by omega) (by omega) (by omega) (by omega)
  omega
/-- The first return of a walk; the states up to it are the curve. -/
theorem trk_orb {p : Pan} (hp : Ok p) {a : Wk} (ha : OkW p a) :
    ∃ T, 1 ≤ T ∧ T ≤ 512 ∧ it (stepW p) T a = a ∧ (∀ i, 1 ≤ i → i < T → it (stepW p) i a ≠ a) ∧ orbF (stepW p) a (2 * segN p) a = trk p a T := by
  obtain ⟨T, h1, h2, h3, h4⟩ := (sys p hp).first a ha
  have hs : (sys p hp).N = segN p := rfl
  have hN := segN_le hp
  rw [hs] at h2
  refine ⟨T, h1, by omega, h3, h4, ?_⟩
  have he := orbF_eq (stepW p) a T h3 h4 (2 * segN p) 0 (by omega) (by omega)
  rw [show orbF (stepW p) a (2 * segN p) a = orbF (stepW p) a (2 * segN p) (it (stepW p) 0 a) from rfl, he]
  simp [trk, List.range_eq_range']
theorem trk_ok {p : Pan} (hp : Ok p) {a : Wk} (ha : OkW p a) (i : Nat) : OkW p (it (stepW p) i a) := (sys p hp).itV i a ha

/-! ### The tracing, round by round -/
theorem traceP_len (p : Pan) : ∀ k, (traceP p k).2.length = segN p
  | 0 => by simp [traceP, traceTo]
  | k + 1 => by
    have ih := traceP_len p k
    unfold traceP at ih ⊢
    unfold traceTo
    simp only []
    split
    · exact ih
    · rw [mark_length]; exact ih
theorem traceP_count (p : Pan) : ∀ k, (traceP p k).1.length ≤ k
  | 0 => by simp [traceP, traceTo]
  | k + 1 => by
    have ih := traceP_count p k
    unfold traceP at ih ⊢
    unfold traceTo
    simp only []
    split
    · omega
    · simp; omega
theorem gI_getD (l : List Int) (k : Nat) : gI l k = l.getD k 0 := by simp [gI]
theorem traceP_seen {p : Pan} {k : Nat} (h : 0 ≤ gI (traceP p k).2 k) : traceP p (k + 1) = traceP p k := by
  rw [gI_getD] at h
  unfold traceP at h ⊢
  conv => lhs; unfold traceTo
  simp only []
  rw [if_pos h]
/-- The segments of a walk's first states, as places. -/
def segN' (p : Pan) (l : List Wk) : List Nat := l.map fun w => (segI p w).toNat
theorem traceP_new {p : Pan} {k : Nat} (h : ¬ 0 ≤ gI (traceP p k).2 k) :
    traceP p (k + 1) = ((traceP p k).1 ++ [orbF (stepW p) (startI p k) (2 * segN p) (startI p k)], mark (traceP p k).1.length (traceP p k).2 (segN' p (orbF (stepW p) (startI p k) (2 * segN p) (startI p k)))) := by
  rw [gI_getD] at h
  unfold traceP at h ⊢
  conv => lhs; unfold traceTo
  simp only []
  rw [if_neg h]
  rfl
theorem mark_take (c : Int) (own : List Int) (ss : List Nat) (i : Nat) (hi : i < ss.length) : mark c own (ss.take (i + 1)) = (mark c own (ss.take i)).set ss[i] c := by
  rw [List.take_add_one, List.getElem?_eq_getElem hi]
  unfold mark
  rw [List.foldl_append]
  rfl
theorem mark_all (c : Int) (own : List Int) (ss : List Nat) {n : Nat} (h : ss.length ≤ n) : mark c own (ss.take n) = mark c own ss := by rw [List.take_of_length_le h]
theorem trk_get (p : Pan) (a : Wk) (n i : Nat) (h : i < n) : (trk p a n)[i]? = some (it (stepW p) i a) := by simp [trk, h]
theorem gI_segsP (p : Pan) (a : Wk) (n i : Nat) (h : i < n) : gI (segsP p (trk p a n)) i = segI p (it (stepW p) i a) := by
  simp [gI, segsP, List.getD, trk_get p a n i h]
theorem segN'_get (p : Pan) (a : Wk) (n i : Nat) (h : i < n) : ∃ hi : i < (segN' p (trk p a n)).length, (segN' p (trk p a n))[i] = (segI p (it (stepW p) i a)).toNat :=
  ⟨by simp [segN', trk_length, h], by simp [segN', trk]⟩
theorem segN'_length (p : Pan) (l : List Wk) : (segN' p l).length = l.length := by simp [segN']
end Knot

namespace Knot

/-! ### While a curve is traced, its next segment is unowned -/

theorem mark_gI (c : Int) (own : List Int) (ss : List Nat) {t : Int} (t0 : 0 ≤ t) (t1 : t < own.length) : gI (mark c own ss) t = if t.toNat ∈ ss then c else gI own t :=
  mark_getD c ss own t.toNat 0 (by omega)

theorem fresh {p : Pan} (hp : Ok p) {k : Nat} (hk : k < segN p) (hu : ¬ 0 ≤ gI (traceP p k).2 k) {T : Nat} (hmin : ∀ i, 1 ≤ i → i < T → it (stepW p) i (startI p k) ≠ startI p k) {i : Nat} (hi : i < T) (c : Int) :
    gI (mark c (traceP p k).2 (segN' p (trk p (startI p k) i))) (segI p (it (stepW p) i (startI p k))) = -1 := by
  have hok := (sys p hp).start_V k hk
  have hV : OkW p (it (stepW p) i (startI p k)) := (sys p hp).itV i _ hok
  have hb := seg_bounds hV
  have hlt : (segI p (it (stepW p) i (startI p k))).toNat < segN p := (sys p hp).seg_lt _ hV
  have hlen := traceP_len p k
  have hN : (sys p hp).N = segN p := rfl
  rw [mark_gI c _ _ hb.1 (by omega)]
  have hnot : ¬ (segI p (it (stepW p) i (startI p k))).toNat ∈ segN' p (trk p (startI p k) i) := by
    intro hm
    obtain ⟨w, hw, he⟩ := List.mem_map.1 hm
    obtain ⟨j, hj, rfl⟩ := List.mem_map.1 hw
    have hj' := List.mem_range.1 hj
    have h2 := (sys p hp).same_seg _ hok j i (by omega) he
    exact hmin (i - j) (by omega) (by omega) h2
  rw [if_neg hnot]
  obtain ⟨reps, ht⟩ := (sys p hp).traced k (by rw [hN]; omega)
  have hkk : ∀ s ∈ reps, ¬ (sys p hp).Rel s k := by
    rcases ht.own k hk with ⟨_, h2⟩ | ⟨j, s, _, _, h2⟩
    · exact h2
    · exfalso
      rw [gI_getD] at hu
      exact hu (by rw [show (traceP p k).2.getD k 0 = (j : Int) from h2]; omega)
  have hrel : (sys p hp).Rel k (segI p (it (stepW p) i (startI p k))).toNat := ⟨i, rfl⟩
  rcases ht.own (segI p (it (stepW p) i (startI p k))).toNat hlt with ⟨h1, _⟩ | ⟨j, s, hs, h1, _⟩
  · exact h1
  · exfalso
    have hsm := List.mem_of_getElem? hs
    have hsl := ht.lt s hsm
    exact hkk s hsm ((sys p hp).rel_trans (by rw [hN]; omega) h1 ((sys p hp).rel_symm hk hrel))

theorem stale {p : Pan} (hp : Ok p) {k : Nat} (hk : k < segN p) {T : Nat} (h1 : 1 ≤ T) (hT : it (stepW p) T (startI p k) = startI p k) (c : Int) :
    gI (mark c (traceP p k).2 (segN' p (trk p (startI p k) T))) (segI p (it (stepW p) T (startI p k))) = c := by
  have hok : OkW p (startI p k) := (sys p hp).start_V k hk
  rw [hT]
  have hb := seg_bounds hok
  have hlt : (segI p (startI p k)).toNat < segN p := (sys p hp).seg_lt _ hok
  have hlen := traceP_len p k
  rw [mark_gI c _ _ hb.1 (by omega), if_pos]
  exact List.mem_map.2 ⟨startI p k, List.mem_map.2 ⟨0, List.mem_range.2 (by omega), rfl⟩, rfl⟩
/-- Marked step by step. -/
theorem mark_step (p : Pan) (a : Wk) (c : Int) (own : List Int) (i : Nat) : mark c own (segN' p (trk p a (i + 1))) = (mark c own (segN' p (trk p a i))).set (segI p (it (stepW p) i a)).toNat c := by
  rw [trk_succ]
  unfold segN' mark
  rw [List.map_append, List.foldl_append]
  rfl
end Knot

namespace Knot

/-! ### Numbers of curves, and what a change does to them -/

def cntP (p : Pan) : Int := (traceP p (segN p)).1.length
theorem cntP_bd {p : Pan} (hp : Ok p) : 0 ≤ cntP p ∧ cntP p ≤ 256 := by
  unfold cntP
  have h1 := traceP_count p (segN p)
  have h2 := segN_le hp
  omega
def withP (p : Pan) (k kd : Int) : Pan := ⟨p.W, p.H, p.B.set k.toNat kd⟩
theorem withP_ok {p : Pan} (hp : Ok p) {k kd : Int} (h : 0 ≤ kd ∧ kd ≤ 2) : Ok (withP p k kd) := by
  refine ⟨hp.w1, hp.w8, hp.h1, hp.h8, ?_, ?_⟩
  · show ((p.B.set k.toNat kd).length : Int) = _
    rw [List.length_set]
    exact hp.len
  · intro x hx
    rcases List.mem_or_eq_of_mem_set hx with h1 | rfl
    · exact hp.kind x h1
    · exact h
/-- The code of a panel and an inner point. -/
def codeP (p : Pan) (x y : Int) : Int := if Ok p then if Has p x y then if Edge p x y then 6 else 0 else 2 else 1
/-- The code of a panel, an inner point and a kind of break. -/
def codeK (p : Pan) (x y kd : Int) : Int := if Ok p ∧ Has p x y ∧ ¬ (0 ≤ kd ∧ kd ≤ 2) then 2 else codeP p x y
def effM (p : Pan) (x y kd : Int) : Int × Int := if codeK p x y kd = 0 then (cntP (withP p (num p x y) kd) - cntP p, 0) else (0, codeK p x y kd)
def effs (p : Pan) (k : Int) : List Int := [cntP (withP p k 0), cntP (withP p k 1), cntP (withP p k 2)]
def effsM (p : Pan) (x y : Int) : List Int × Int := if codeP p x y = 0 then (effs p (num p x y), 0) else ([], codeP p x y)
theorem codeP_ok {p : Pan} {x y : Int} (h : codeP p x y = 0) : Ok p ∧ Has p x y ∧ ¬ Edge p x y := by
  unfold codeP at h
  split at h
  · split at h
    · split at h
      · omega
      · exact ⟨by assumption, by assumption, by assumption⟩
    · omega
  · omega
theorem codeK_ok {p : Pan} {x y kd : Int} (h : codeK p x y kd = 0) : codeP p x y = 0 ∧ 0 ≤ kd ∧ kd ≤ 2 := by
  unfold codeK at h
  split at h
  · omega
  · rename_i hn
    have hc := codeP_ok h
    refine ⟨h, ?_⟩
    by_cases hk : 0 ≤ kd ∧ kd ≤ 2
    · exact hk
    · exact absurd ⟨hc.1, hc.2.1, hk⟩ hn
/-- The number of an inner point. -/
theorem num_in {p : Pan} (hp : Ok p) {x y : Int} (h : Has p x y) (he : ¬ Edge p x y) : 0 ≤ num p x y ∧ num p x y < p.B.length ∧ (1 ≤ x ∧ x ≤ 16) ∧ (1 ≤ y ∧ y ≤ 16) ∧ (x + y) % 2 = 1 ∧ rowOf p.W y + (x - 1) / 2 = num p x y := by
  obtain ⟨a1, a2, a3, a4, a5⟩ := h
  unfold Edge at he
  have w1 := hp.w1
  have w8 := hp.w8
  have h1 := hp.h1
  have h8 := hp.h8
  have hl := hp.len
  obtain ⟨n1, n2, _, _⟩ := num_pt (H := p.H) w1 w8 (y := y) (x := x) (by omega) (by omega) (by omega) (by omega) a5
  refine ⟨n1, ?_, by omega, by omega, a5, rfl⟩
  show rowOf p.W y + (x - 1) / 2 < _
  omega
end Knot

namespace Knot

/-! ### The number of curves is the number of classes of what steps join -/

section
variable {p : Pan} (hp : Ok p)

/-- Two segments are on one curve. -/
def On (p : Pan) (hp : Ok p) (a b : Nat) : Prop := a < segN p ∧ (sys p hp).Rel a b

theorem On.lt {a b : Nat} (h : On p hp a b) : a < segN p ∧ b < segN p := ⟨h.1, (sys p hp).rel_lt h.1 h.2⟩
theorem On.refl {a : Nat} (h : a < segN p) : On p hp a a := ⟨h, (sys p hp).rel_refl a h⟩
theorem On.symm {a b : Nat} (h : On p hp a b) : On p hp b a := ⟨(h.lt hp).2, (sys p hp).rel_symm h.1 h.2⟩
theorem On.trans {a b c : Nat} (h : On p hp a b) (k : On p hp b c) : On p hp a c := ⟨h.1, (sys p hp).rel_trans h.1 h.2 k.2⟩
include hp in
theorem seg_lt {w : Wk} (h : OkW p w) : (segI p w).toNat < segN p := (sys p hp).seg_lt w h
/-- A step joins. -/
theorem On.step {w : Wk} (h : OkW p w) : On p hp (segI p w).toNat (segI p (stepW p w)).toNat :=
  ⟨seg_lt hp h, (sys p hp).rel_of w h 1⟩
/-- What is closed under steps is closed under what is joined. -/
theorem On.min {Q : Nat → Prop} (hQ : ∀ w, OkW p w → Q (segI p w).toNat → Q (segI p (stepW p w)).toNat) {a b : Nat} (h : On p hp a b) (ha : Q a) : Q b := by
  obtain ⟨h1, n, rfl⟩ := h
  induction n with
  | zero =>
    have := (sys p hp).seg_start a h1
    show Q ((sys p hp).seg ((sys p hp).start a))
    rw [this]
    exact ha
  | succ n ih => exact hQ _ ((sys p hp).itV n _ ((sys p hp).start_V a h1)) ih
/-- As many curves as classes. -/
theorem cnt_reps {L : List Nat} (h : Reps (On p hp) (· < segN p) L) : cntP p = L.length := by
  obtain ⟨reps, hr⟩ := (sys p hp).traced (segN p) (Nat.le_refl _)
  have h1 := (sys p hp).traced_reps hr
  have h2 : Reps (On p hp) (· < segN p) reps := ⟨h1.mem, h1.apart.imp fun h k => h k.2, fun a ha => by
    obtain ⟨b, hb, k⟩ := h1.all a ha
    exact ⟨b, hb, ha, k⟩⟩
  have h3 := reps_eq (fun _ _ h => h.symm hp) (fun _ _ _ h k => h.trans hp k) h2 h
  have h4 := hr.len
  show (((traceP p (segN p)).1.length : Nat) : Int) = _
  rw [show traceP p (segN p) = (sys p hp).traceTo (segN p) from rfl, h4, h3]
/-- Of one curve just if they bear one number. -/
theorem own_on {a b : Nat} (ha : a < segN p) (hb : b < segN p) : gI (traceP p (segN p)).2 a = gI (traceP p (segN p)).2 b ↔ On p hp a b := by
  obtain ⟨reps, hr⟩ := (sys p hp).traced (segN p) (Nat.le_refl _)
  have := (sys p hp).traced_same hr ha hb
  rw [gI_getD, gI_getD]
  exact this.trans ⟨fun h => ⟨ha, h⟩, fun h => h.2⟩
end
end Knot

namespace Knot

/-! ### Loops of two pairings, round by round -/

def unseen (s : List Bool) : Nat := s.count false

theorem unseen_le (s : List Bool) : unseen s ≤ s.length := List.count_le_length
theorem unseen_set {s : List Bool} {a : Int} (h0 : 0 ≤ a) (h1 : a < s.length) (h : gB s a = false) : unseen (sB s a) + 1 = unseen s := by
  have hl : a.toNat < s.length := by omega
  have hg : s[a.toNat] = false := by simpa [gB, List.getD, hl] using h
  have hc : 0 < s.count false := List.count_pos_iff.2 (by rw [← hg]; exact List.getElem_mem _)
  unfold unseen sB
  rw [List.count_set hl, hg]
  simp
  omega
theorem unseen_set_le (s : List Bool) (a : Int) : unseen (sB s a) ≤ unseen s := by
  unfold unseen sB
  by_cases hl : a.toNat < s.length
  · rw [List.count_set hl]
    simp
  · rw [List.set_eq_of_length_le (by omega)]
    exact Nat.le_refl _
theorem sB_length (s : List Bool) (a : Int) : (sB s a).length = s.length := by simp [sB]

section
variable {P L : List Int} {n : Nat} (hr : ∀ a : Int, 0 ≤ a → a < n → 0 ≤ nxt P L a ∧ nxt P L a < n)
include hr
theorem cyc_more : ∀ (f : Nat) (s : List Bool) (a : Int), s.length = n → 0 ≤ a → a < n → unseen s < f → ∀ g, unseen s < g → cyc P L f a s = cyc P L g a s
  | 0, _, _, _, _, _, h, _, _ => by omega
  | f + 1, s, a, hs, h0, h1, hf, g, hg => by
    obtain ⟨g, rfl⟩ : ∃ m, g = m + 1 := ⟨g - 1, by omega⟩
    unfold cyc
    by_cases hb : gB s a = true
    · rw [if_pos hb, if_pos hb]
    · rw [if_neg hb, if_neg hb]
      have e := unseen_set (s := s) h0 (by omega) (by simpa using hb)
      have e2 := unseen_set_le (sB s a) (gI P a)
      have hn := hr a h0 h1
      exact cyc_more f _ _ (by rw [sB_length, sB_length, hs]) hn.1 hn.2 (by omega) g (by omega)
theorem cyc_step {s : List Bool} {a : Int} (hs : s.length = n) (h0 : 0 ≤ a) (h1 : a < n) (hb : gB s a = false) :
    cyc P L (unseen s + 1) a s = cyc P L (unseen (sB (sB s a) (gI P a)) + 1) (nxt P L a) (sB (sB s a) (gI P a)) := by
  have e := unseen_set (s := s) h0 (by omega) hb
  have e2 := unseen_set_le (sB s a) (gI P a)
  have hn := hr a h0 h1
  conv => lhs; unfold cyc
  rw [if_neg (by rw [hb]; simp)]
  exact cyc_more hr _ _ _ (by rw [sB_length, sB_length, hs]) hn.1 hn.2 (by omega) _ (by omega)
theorem cyc_start {s : List Bool} {a : Int} (hs : s.length = n) (h0 : 0 ≤ a) (h1 : a < n) : cyc P L (n + 1) a s = cyc P L (unseen s + 1) a s :=
  cyc_more hr _ _ _ hs h0 h1 (by have := unseen_le s; omega) _ (by omega)
end
theorem cyc_stop {P L : List Int} {s : List Bool} {a : Int} (f : Nat) (hb : gB s a = true) : cyc P L (f + 1) a s = s := by
  unfold cyc
  rw [if_pos hb]
theorem cyc_length (P L : List Int) : ∀ (f : Nat) (a : Int) (s : List Bool), (cyc P L f a s).length = s.length
  | 0, _, _ => rfl
  | f + 1, a, s => by
    unfold cyc
    split
    · rfl
    · rw [cyc_length, sB_length, sB_length]
theorem cycTo_length (P L : List Int) (n : Nat) (s : List Bool) : ∀ k, (cycTo P L n s k).2.length = s.length
  | 0 => rfl
  | k + 1 => by
    unfold cycTo
    split
    · exact cycTo_length P L n s k
    · show (cyc _ _ _ _ _).length = _
      rw [cyc_length, cycTo_length]
theorem cycTo_bd (P L : List Int) (n : Nat) (s : List Bool) : ∀ k, 0 ≤ (cycTo P L n s k).1 ∧ (cycTo P L n s k).1 ≤ k
  | 0 => ⟨Int.le_refl _, Int.le_refl _⟩
  | k + 1 => by
    have := cycTo_bd P L n s k
    unfold cycTo
    split
    · omega
    · show 0 ≤ _ + 1 ∧ _ + 1 ≤ _
      omega
theorem cycTo_seen {P L : List Int} {n : Nat} {s : List Bool} {k : Nat} (h : gB (cycTo P L n s k).2 k = true) : cycTo P L n s (k + 1) = cycTo P L n s k := by
  conv => lhs; unfold cycTo
  rw [if_pos h]
theorem cycTo_new {P L : List Int} {n : Nat} {s : List Bool} {k : Nat} (h : gB (cycTo P L n s k).2 k = false) : cycTo P L n s (k + 1) = ((cycTo P L n s k).1 + 1, cyc P L (n + 1) k (cycTo P L n s k).2) := by
  conv => lhs; unfold cycTo
  rw [if_neg (by rw [h]; simp)]
end Knot

namespace Knot

/-! ### Loops of two pairings are the classes of what both join -/

/-- What two pairings join, from step to step. -/
inductive Jn (P L : List Int) (n : Nat) : Int → Int → Prop
  | refl {a : Int} (h0 : 0 ≤ a) (h1 : a < n) : Jn P L n a a
  | p {a b : Int} (h : Jn P L n a b) : Jn P L n a (gI P b)
  | l {a b : Int} (h : Jn P L n a b) : Jn P L n a (gI L b)

section
variable {P L : List Int} {n : Nat} (hP : Pairing n P) (hL : Pairing n L)
include hP hL

theorem Jn.dom {a b : Int} (h : Jn P L n a b) : (0 ≤ a ∧ a < n) ∧ 0 ≤ b ∧ b < n := by
  induction h with
  | refl h0 h1 => exact ⟨⟨h0, h1⟩, h0, h1⟩
  | p _ ih => exact ⟨ih.1, hP.lo _ ih.2.1 ih.2.2, hP.hi _ ih.2.1 ih.2.2⟩
  | l _ ih => exact ⟨ih.1, hL.lo _ ih.2.1 ih.2.2, hL.hi _ ih.2.1 ih.2.2⟩

omit hP hL in
theorem Jn.trans {a b c : Int} (h : Jn P L n a b) (k : Jn P L n b c) : Jn P L n a c := by
  induction k with
  | refl => exact h
  | p _ ih => exact ih.p
  | l _ ih => exact ih.l

theorem Jn.symm {a b : Int} (h : Jn P L n a b) : Jn P L n b a := by
  induction h with
  | refl h0 h1 => exact .refl h0 h1
  | @p b h ih =>
    obtain ⟨_, b0, b1⟩ := h.dom hP hL
    have e : Jn P L n (gI P b) (gI P (gI P b)) := .p (.refl (hP.lo _ b0 b1) (hP.hi _ b0 b1))
    rw [hP.inv _ b0 b1] at e
    exact e.trans ih
  | @l b h ih =>
    obtain ⟨_, b0, b1⟩ := h.dom hP hL
    have e : Jn P L n (gI L b) (gI L (gI L b)) := .l (.refl (hL.lo _ b0 b1) (hL.hi _ b0 b1))
    rw [hL.inv _ b0 b1] at e
    exact e.trans ih

theorem nxt_dom {a : Int} (h : 0 ≤ a ∧ a < n) : 0 ≤ nxt P L a ∧ nxt P L a < n :=
  have h2 := hP.lo _ h.1 h.2
  have h3 := hP.hi _ h.1 h.2
  ⟨hL.lo _ h2 h3, hL.hi _ h2 h3⟩

theorem nxt_inj {a b : Int} (ha : 0 ≤ a ∧ a < n) (hb : 0 ≤ b ∧ b < n) (h : nxt P L a = nxt P L b) : a = b := by
  unfold nxt at h
  have h1 := congrArg (gI L) h
  rw [hL.inv _ (hP.lo _ ha.1 ha.2) (hP.hi _ ha.1 ha.2), hL.inv _ (hP.lo _ hb.1 hb.2) (hP.hi _ hb.1 hb.2)] at h1
  have h2 := congrArg (gI P) h1
  rwa [hP.inv _ ha.1 ha.2, hP.inv _ hb.1 hb.2] at h2

theorem itd (i : Nat) {a : Int} (ha : 0 ≤ a ∧ a < n) : 0 ≤ it (nxt P L) i a ∧ it (nxt P L) i a < n :=
  it_mem (nxt P L) (fun a => 0 ≤ a ∧ a < (n : Int)) (fun _ h => nxt_dom hP hL h) i a ha

/-- No walk leads to its own partner. -/
theorem no_partner (d : Nat) : ∀ a : Int, 0 ≤ a ∧ a < n → it (nxt P L) d a ≠ gI P a := by
  induction d using Nat.strongRecOn with
  | _ d ih =>
    intro a ha h
    match d, h with
    | 0, h => exact hP.ne _ ha.1 ha.2 h.symm
    | 1, h => exact hL.ne _ (hP.lo _ ha.1 ha.2) (hP.hi _ ha.1 ha.2) h
    | d + 2, h =>
      have hd := itd hP hL (d + 1) ha
      have h1 : gI L (gI P (it (nxt P L) (d + 1) a)) = gI P a := h
      have h2 := congrArg (gI L) h1
      rw [hL.inv _ (hP.lo _ hd.1 hd.2) (hP.hi _ hd.1 hd.2)] at h2
      have h3 := congrArg (gI P) h2
      rw [hP.inv _ hd.1 hd.2, it_succ'] at h3
      exact ih d (by omega) (nxt P L a) (nxt_dom hP hL ha) h3

/-- The first return. -/
theorem nxt_back {a : Int} (ha : 0 ≤ a ∧ a < n) : ∃ T, 1 ≤ T ∧ T ≤ n ∧ it (nxt P L) T a = a ∧ ∀ i, 1 ≤ i → i < T → it (nxt P L) i a ≠ a :=
  comes_back (nxt P L) Int.toNat n (fun a => 0 ≤ a ∧ a < (n : Int)) (fun _ h => nxt_dom hP hL h) (fun _ _ h k e => nxt_inj hP hL h k e) (fun a h => by omega) (fun a b h k e => by omega) a ha

/-- What the first i steps from a mark. -/
def marks (P L : List Int) (a : Int) (s : List Bool) : Nat → List Bool
  | 0 => s
  | i + 1 => sB (sB (marks P L a s i) (it (nxt P L) i a)) (gI P (it (nxt P L) i a))

omit hP hL in
theorem marks_length (a : Int) (s : List Bool) : ∀ i, (marks P L a s i).length = s.length
  | 0 => rfl
  | i + 1 => by rw [marks, sB_length, sB_length, marks_length a s i]

omit hP hL in
theorem gB_sB {s : List Bool} {x a : Int} (x0 : 0 ≤ x) (a0 : 0 ≤ a) (h : a < s.length) : gB (sB s a) x = true ↔ x = a ∨ gB s x = true := by
  unfold gB sB
  simp only [List.getD, List.getElem?_set]
  by_cases e : a.toNat = x.toNat
  · have : x = a := by omega
    subst this
    rw [if_pos rfl, if_pos (by omega)]
    simp
  · rw [if_neg e]
    have : ¬ x = a := by omega
    simp [this]

theorem marks_iff {a : Int} (ha : 0 ≤ a ∧ a < n) {s : List Bool} (hs : s.length = n) {x : Int} (hx : 0 ≤ x) : ∀ i, gB (marks P L a s i) x = true ↔ gB s x = true ∨ ∃ j, j < i ∧ (x = it (nxt P L) j a ∨ x = gI P (it (nxt P L) j a))
  | 0 => by simp [marks]
  | i + 1 => by
    have hd := itd hP hL i ha
    have l1 := marks_length (P := P) (L := L) a s i
    rw [marks, gB_sB hx (hP.lo _ hd.1 hd.2) (by rw [sB_length, l1, hs]; exact hP.hi _ hd.1 hd.2), gB_sB hx hd.1 (by rw [l1, hs]; exact hd.2), marks_iff ha hs hx i]
    constructor
    · rintro (h | h | h | ⟨j, hj, h⟩)
      · exact .inr ⟨i, by omega, .inr h⟩
      · exact .inr ⟨i, by omega, .inl h⟩
      · exact .inl h
      · exact .inr ⟨j, by omega, h⟩
    · rintro (h | ⟨j, hj, h⟩)
      · exact .inr (.inr (.inl h))
      · by_cases e : j = i
        · subst e
          rcases h with h | h
          · exact .inr (.inl h)
          · exact .inl h
        · exact .inr (.inr (.inr ⟨j, by omega, h⟩))

/-- What is met on the way round is what is joined. -/
theorem round_jn {a : Int} (ha : 0 ≤ a ∧ a < n) {T : Nat} (hT1 : 1 ≤ T) (hT : it (nxt P L) T a = a) (x : Int) :
    (∃ j, j < T ∧ (x = it (nxt P L) j a ∨ x = gI P (it (nxt P L) j a))) ↔ Jn P L n a x := by
  constructor
  · rintro ⟨j, _, h⟩
    have hj : ∀ j, Jn P L n a (it (nxt P L) j a) := by
      intro j
      induction j with
      | zero => exact .refl ha.1 ha.2
      | succ j ih => exact ih.p.l
    rcases h with rfl | rfl
    · exact hj j
    · exact (hj j).p
  · intro h
    induction h with
    | refl h0 h1 => exact ⟨0, hT1, .inl rfl⟩
    | p h ih =>
      obtain ⟨j, hj, rfl | rfl⟩ := ih
      · exact ⟨j, hj, .inr rfl⟩
      · have hd := itd hP hL j ha
        exact ⟨j, hj, .inl (hP.inv _ hd.1 hd.2)⟩
    | l h ih =>
      obtain ⟨j, hj, rfl | rfl⟩ := ih
      · -- L of a_j is the partner of the one before
        have key : ∀ j, 1 ≤ j → gI L (it (nxt P L) j a) = gI P (it (nxt P L) (j - 1) a) := by
          intro j hj
          obtain ⟨j, rfl⟩ : ∃ m, j = m + 1 := ⟨j - 1, by omega⟩
          have hd := itd hP hL j ha
          exact hL.inv _ (hP.lo _ hd.1 hd.2) (hP.hi _ hd.1 hd.2)
        by_cases h0 : j = 0
        · subst h0
          have := key T hT1
          rw [hT] at this
          exact ⟨T - 1, by omega, .inr this⟩
        · exact ⟨j - 1, by omega, .inr (key j (by omega))⟩
      · by_cases hl : j + 1 < T
        · exact ⟨j + 1, hl, .inl rfl⟩
        · have e : j + 1 = T := by omega
          refine ⟨0, hT1, .inl ?_⟩
          show it (nxt P L) (j + 1) a = a
          rw [e, hT]

/-- A set that is closed under what is joined. -/
def Shut (P L : List Int) (n : Nat) (s : List Bool) : Prop := ∀ a b : Int, Jn P L n a b → gB s a = true → gB s b = true

theorem cyc_marks {a : Int} (ha : 0 ≤ a ∧ a < n) {s : List Bool} (hs : s.length = n) (hc : Shut P L n s) (hn : gB s a = false) {T : Nat} (hT1 : 1 ≤ T) (hT : it (nxt P L) T a = a) (hmin : ∀ i, 1 ≤ i → i < T → it (nxt P L) i a ≠ a) :
    ∀ m f, m ≤ T → 1 ≤ f → cyc P L (f + m) (it (nxt P L) (T - m) a) (marks P L a s (T - m)) = marks P L a s T
  | 0, f, _, hf => by
    obtain ⟨f, rfl⟩ : ∃ m, f = m + 1 := ⟨f - 1, by omega⟩
    rw [Nat.sub_zero, Nat.add_zero]
    refine cyc_stop f ?_
    rw [hT]
    exact (marks_iff hP hL ha hs ha.1 T).2 (.inr ⟨0, hT1, .inl rfl⟩)
  | m + 1, f, hm, hf => by
    have hnot : gB (marks P L a s (T - (m + 1))) (it (nxt P L) (T - (m + 1)) a) = false := by
      generalize hi : T - (m + 1) = i
      have hd := itd hP hL i ha
      cases hb : gB (marks P L a s i) (it (nxt P L) i a)
      · rfl
      · exfalso
        rcases (marks_iff hP hL ha hs hd.1 i).1 hb with h | ⟨j, hj, h⟩
        · have hr := (round_jn hP hL ha hT1 hT _).1 ⟨i, by omega, .inl rfl⟩
          have := hc _ _ (hr.symm hP hL) h
          rw [hn] at this
          cases this
        · have he : it (nxt P L) i a = it (nxt P L) (i - j) (it (nxt P L) j a) := by rw [← it_add]; congr 1; omega
          have hdj := itd hP hL j ha
          rcases h with h | h
          · have h2 : it (nxt P L) j (it (nxt P L) (i - j) a) = it (nxt P L) j a := by rw [← it_add, ← h]; congr 1; omega
            have h3 := it_inj (nxt P L) (fun a => 0 ≤ a ∧ a < (n : Int)) (fun _ h => nxt_dom hP hL h) (fun _ _ h k e => nxt_inj hP hL h k e) j _ _ (itd hP hL (i - j) ha) ha h2
            exact hmin (i - j) (by omega) (by omega) h3
          · rw [he] at h
            exact no_partner hP hL _ _ hdj h
    have hstep : cyc P L (f + (m + 1)) (it (nxt P L) (T - (m + 1)) a) (marks P L a s (T - (m + 1))) = cyc P L (f + m) (it (nxt P L) (T - m) a) (marks P L a s (T - m)) := by
      have e1 : f + (m + 1) = (f + m) + 1 := by omega
      have e2 : T - m = (T - (m + 1)) + 1 := by omega
      rw [e1, e2]
      conv => lhs; unfold cyc
      rw [if_neg (by rw [hnot]; simp)]
      rfl
    rw [hstep]
    exact cyc_marks ha hs hc hn hT1 hT hmin m f (by omega) hf

theorem cyc_iff {a : Int} (ha : 0 ≤ a ∧ a < n) {s : List Bool} (hs : s.length = n) (hc : Shut P L n s) (hn : gB s a = false) {x : Int} (hx : 0 ≤ x) :
    gB (cyc P L (n + 1) a s) x = true ↔ gB s x = true ∨ Jn P L n a x := by
  obtain ⟨T, h1, h2, h3, h4⟩ := nxt_back hP hL ha
  have e := cyc_marks hP hL ha hs hc hn h1 h3 h4 T (n + 1 - T) (Nat.le_refl _) (by omega)
  rw [show n + 1 - T + T = n + 1 by omega, Nat.sub_self] at e
  have e' : cyc P L (n + 1) a s = marks P L a s T := e
  rw [e', marks_iff hP hL ha hs hx T, round_jn hP hL ha h1 h3]

/-- The count of the loops, with one element of each. s0: what was seen before, closed. -/
structure Looped (P L : List Int) (n : Nat) (s0 : List Bool) (k : Nat) (r : Int × List Bool) (reps : List Int) : Prop where
  count : r.1 = reps.length
  len : r.2.length = n
  mem : ∀ a ∈ reps, (0 ≤ a ∧ a < n) ∧ gB s0 a = false
  apart : reps.Pairwise fun a b => ¬ Jn P L n a b
  seen : ∀ x : Int, 0 ≤ x → x < n → (gB r.2 x = true ↔ gB s0 x = true ∨ ∃ a ∈ reps, Jn P L n a x)
  all : ∀ x : Int, 0 ≤ x → x < k → gB r.2 x = true

theorem looped {s0 : List Bool} (hs : s0.length = n) (hc : Shut P L n s0) : ∀ k, k ≤ n → ∃ reps, Looped P L n s0 k (cycTo P L n s0 k) reps
  | 0, _ => ⟨[], ⟨rfl, hs, by simp, by simp, by simp [cycTo], fun x h0 h1 => by omega⟩⟩
  | k + 1, hk => by
    obtain ⟨reps, h⟩ := looped hs hc k (by omega)
    cases hb : gB (cycTo P L n s0 k).2 k
    · rw [cycTo_new hb]
      have hcl : Shut P L n (cycTo P L n s0 k).2 := by
        intro a b hab ha
        obtain ⟨⟨a0, a1⟩, b0, b1⟩ := hab.dom hP hL
        rcases (h.seen a a0 a1).1 ha with h1 | ⟨r, hr, h1⟩
        · exact (h.seen b b0 b1).2 (.inl (hc _ _ hab h1))
        · exact (h.seen b b0 b1).2 (.inr ⟨r, hr, h1.trans hab⟩)
      have hd : (0 : Int) ≤ (k : Int) ∧ (k : Int) < n := by omega
      have hnk : ¬ (gB s0 k = true ∨ ∃ a ∈ reps, Jn P L n a k) := fun hh => by
        have := (h.seen k hd.1 hd.2).2 hh
        rw [hb] at this
        cases this
      refine ⟨reps ++ [(k : Int)], ⟨?_, ?_, ?_, ?_, ?_, ?_⟩⟩
      · simp [h.count]
      · show (cyc _ _ _ _ _).length = n
        rw [cyc_length, h.len]
      · intro a ha
        rcases List.mem_append.1 ha with h1 | h1
        · exact h.mem a h1
        · simp at h1
          subst h1
          refine ⟨hd, ?_⟩
          cases h2 : gB s0 k
          · rfl
          · exact absurd (.inl h2) hnk
      · rw [List.pairwise_append]
        exact ⟨h.apart, by simp, fun a ha b hb2 => by
          simp at hb2
          subst hb2
          exact fun hj => hnk (.inr ⟨a, ha, hj⟩)⟩
      · intro x h0 h1
        show gB (cyc _ _ _ _ _) x = true ↔ _
        rw [cyc_iff hP hL hd h.len hcl hb h0, h.seen x h0 h1]
        constructor
        · rintro ((h2 | ⟨a, ha, h2⟩) | h2)
          · exact .inl h2
          · exact .inr ⟨a, List.mem_append.2 (.inl ha), h2⟩
          · exact .inr ⟨k, List.mem_append.2 (.inr (by simp)), h2⟩
        · rintro (h2 | ⟨a, ha, h2⟩)
          · exact .inl (.inl h2)
          · rcases List.mem_append.1 ha with h3 | h3
            · exact .inl (.inr ⟨a, h3, h2⟩)
            · simp at h3
              subst h3
              exact .inr h2
      · intro x h0 h1
        show gB (cyc _ _ _ _ _) x = true
        rw [cyc_iff hP hL hd h.len hcl hb h0]
        by_cases hx : x < k
        · exact .inl (h.all x h0 hx)
        · have e : x = k := by omega
          subst e
          exact .inr (.refl hd.1 hd.2)
    · rw [cycTo_seen hb]
      refine ⟨reps, ⟨h.count, h.len, h.mem, h.apart, h.seen, fun x h0 h1 => ?_⟩⟩
      by_cases hx : x < k
      · exact h.all x h0 hx
      · have e : x = k := by omega
        subst e
        exact hb

/-- As many loops as classes among what was not seen before. -/
theorem looped_reps {s0 : List Bool} {r : Int × List Bool} {reps : List Int} (h : Looped P L n s0 n r reps) :
    Reps (Jn P L n) (fun a => (0 ≤ a ∧ a < (n : Int)) ∧ gB s0 a = false) reps :=
  ⟨h.mem, h.apart, fun x ⟨⟨h0, h1⟩, h2⟩ => by
    rcases (h.seen x h0 h1).1 (h.all x h0 h1) with h3 | ⟨a, ha, h3⟩
    · rw [h2] at h3; cases h3
    · exact ⟨a, ha, h3.symm hP hL⟩⟩

theorem loopsOf_reps : ∃ reps : List Int, loopsOf P L n = reps.length ∧ Reps (Jn P L n) (fun a => 0 ≤ a ∧ a < (n : Int)) reps := by
  have hc : Shut P L n (List.replicate n false) := by
    intro a b _ h
    unfold gB at h
    simp [List.getD, List.getElem?_replicate] at h
    split at h <;> simp at h
  obtain ⟨reps, h⟩ := looped hP hL (s0 := List.replicate n false) (by simp) hc n (Nat.le_refl _)
  refine ⟨reps, h.count, ?_⟩
  have hr := looped_reps hP hL h
  have hf : ∀ a : Int, gB (List.replicate n false) a = false := by
    intro a
    unfold gB
    simp [List.getD, List.getElem?_replicate]
    split <;> simp
  exact ⟨fun a ha => (hr.mem a ha).1, hr.apart, fun a ha => hr.all a ⟨ha, hf a⟩⟩
end
end Knot

namespace Knot

/-! ### A pairing passed on over links: what is joined on the other side, and what is closed -/

/-- What a pairing of the first n and links of twice as many join. -/
inductive Lk (P L : List Int) (n : Nat) : Int → Int → Prop
  | refl {a : Int} (h0 : 0 ≤ a) (h1 : a < ((2 * n : Nat) : Int)) : Lk P L n a a
  | p {a b : Int} (h : Lk P L n a b) (hb : b < n) : Lk P L n a (gI P b)
  | l {a b : Int} (h : Lk P L n a b) : Lk P L n a (gI L b)

theorem marks_front (P L : List Int) (a : Int) : ∀ (i : Nat) (s : List Bool), marks P L a s (i + 1) = marks P L (nxt P L a) (sB (sB s a) (gI P a)) i
  | 0, _ => rfl
  | i + 1, s => by
    have ih := marks_front P L a i s
    show sB (sB (marks P L a s (i + 1)) (it (nxt P L) (i + 1) a)) (gI P (it (nxt P L) (i + 1) a)) = sB (sB (marks P L (nxt P L a) _ i) (it (nxt P L) i (nxt P L a))) (gI P (it (nxt P L) i (nxt P L a)))
    rw [ih, it_succ']

theorem chain_eq (P L : List Int) (n : Nat) : ∀ (j f : Nat) (a : Int) (s : List Bool), j ≤ f → (∀ i, i < j → it (nxt P L) i a < n) → (n : Int) ≤ it (nxt P L) j a →
    chain P L n f a s = (it (nxt P L) j a, marks P L a s j)
  | 0, f, a, s, _, _, h => by
    have h' : (n : Int) ≤ a := h
    cases f with
    | zero => rfl
    | succ f => unfold chain; rw [if_neg (by omega)]; rfl
  | j + 1, f, a, s, hf, hlt, h => by
    obtain ⟨f, rfl⟩ : ∃ m, f = m + 1 := ⟨f - 1, by omega⟩
    have h0 : a < n := hlt 0 (by omega)
    unfold chain
    rw [if_pos h0, it_succ', marks_front]
    exact chain_eq P L n j f (nxt P L a) _ (by omega) (fun i hi => by rw [← it_succ']; exact hlt (i + 1) (by omega)) (by rw [← it_succ']; exact h)

section
variable {P L : List Int} {n : Nat} (hP : Pairing n P) (hL : Pairing (2 * n) L)
include hP hL

theorem Lk.dom {a b : Int} (h : Lk P L n a b) : (0 ≤ a ∧ a < ((2 * n : Nat) : Int)) ∧ 0 ≤ b ∧ b < ((2 * n : Nat) : Int) := by
  induction h with
  | refl h0 h1 => exact ⟨⟨h0, h1⟩, h0, h1⟩
  | p _ hb ih =>
    have h1 := hP.lo _ ih.2.1 hb
    have h2 := hP.hi _ ih.2.1 hb
    exact ⟨ih.1, by omega, by omega⟩
  | l _ ih => exact ⟨ih.1, hL.lo _ ih.2.1 ih.2.2, hL.hi _ ih.2.1 ih.2.2⟩

omit hP hL in
theorem Lk.trans {a b c : Int} (h : Lk P L n a b) (k : Lk P L n b c) : Lk P L n a c := by
  induction k with
  | refl => exact h
  | p _ hb ih => exact ih.p hb
  | l _ ih => exact ih.l

theorem Lk.symm {a b : Int} (h : Lk P L n a b) : Lk P L n b a := by
  induction h with
  | refl h0 h1 => exact .refl h0 h1
  | @p b h hb ih =>
    obtain ⟨_, b0, b1⟩ := h.dom hP hL
    have h1 := hP.lo _ b0 hb
    have h2 := hP.hi _ b0 hb
    have e : Lk P L n (gI P b) (gI P (gI P b)) := .p (.refl h1 (by omega)) h2
    rw [hP.inv _ b0 hb] at e
    exact e.trans ih
  | @l b h ih =>
    obtain ⟨_, b0, b1⟩ := h.dom hP hL
    have e : Lk P L n (gI L b) (gI L (gI L b)) := .l (.refl (hL.lo _ b0 b1) (hL.hi _ b0 b1))
    rw [hL.inv _ b0 b1] at e
    exact e.trans ih

/-- The pairing of the first n and the same of those behind them. -/
def twice (P : List Int) (n : Nat) : List Int := P ++ P.map (· + (n : Int))
omit hL in
theorem twice_get {x : Int} (x0 : 0 ≤ x) (x1 : x < ((2 * n : Nat) : Int)) : gI (twice P n) x = if x < n then gI P x else gI P (x - n) + n := by
  unfold gI twice
  have hl := hP.len
  simp only [List.getD]
  by_cases h : x < n
  · rw [if_pos h, List.getElem?_append_left (by omega)]
  · rw [if_neg h, List.getElem?_append_right (by omega), List.getElem?_map, hl, show x.toNat - n = (x - n).toNat by omega]
    have hx : (x - n).toNat < P.length := by omega
    rw [List.getElem?_eq_getElem hx]
    rfl
omit hL in
theorem twice_pair : Pairing (2 * n) (twice P n) := by
  have hl := hP.len
  refine ⟨by simp [twice, hl]; omega, fun i h0 h1 => ?_, fun i h0 h1 => ?_, fun i h0 h1 => ?_, fun i h0 h1 => ?_⟩
  · rw [twice_get hP h0 h1]
    split
    · exact hP.lo _ h0 (by omega)
    · have := hP.lo (i - n) (by omega) (by omega)
      omega
  · rw [twice_get hP h0 h1]
    split
    · have := hP.hi _ h0 (by omega)
      omega
    · have := hP.hi (i - n) (by omega) (by omega)
      omega
  · rw [twice_get hP h0 h1]
    split
    · exact hP.ne _ h0 (by omega)
    · have := hP.ne (i - n) (by omega) (by omega)
      omega
  · rw [twice_get hP h0 h1]
    split
    · rename_i h
      have h2 := hP.lo _ h0 h
      have h3 := hP.hi _ h0 h
      rw [twice_get hP h2 (by omega), if_pos h3]
      exact hP.inv _ h0 h
    · rename_i h
      have h2 := hP.lo (i - n) (by omega) (by omega)
      have h3 := hP.hi (i - n) (by omega) (by omega)
      rw [twice_get hP (by omega) (by omega), if_neg (by omega), show gI P (i - n) + n - n = gI P (i - n) by omega, hP.inv (i - n) (by omega) (by omega)]
      omega

/-- What a chain from the other side finds. -/
theorem chain_spec {a : Int} (ha : (n : Int) ≤ a ∧ a < ((2 * n : Nat) : Int)) {s : List Bool} (hs : s.length = n) :
    ∃ e, (chain P L n n (gI L a) s).1 = e ∧ ((n : Int) ≤ e ∧ e < ((2 * n : Nat) : Int)) ∧ e ≠ a ∧ (∀ y : Int, (n : Int) ≤ y → (Lk P L n a y ↔ y = a ∨ y = e)) ∧ (chain P L n n (gI L a) s).2.length = n ∧
      ∀ x : Int, 0 ≤ x → x < n → (gB (chain P L n n (gI L a) s).2 x = true ↔ gB s x = true ∨ Lk P L n a x) := by
  obtain ⟨j, hj, hend, hlt⟩ : ∃ j, j ≤ n ∧ (n : Int) ≤ it (nxt P L) j (gI L a) ∧ ∀ i, i < j → it (nxt P L) i (gI L a) < n := by
    have := chain_leaves hP hL (a - n).toNat (by omega)
    rw [show (n : Int) + ((a - n).toNat : Nat) = a by omega] at this
    exact this
  rw [chain_eq P L n j n _ s hj hlt hend]
  have a0 := hL.lo a (by omega) ha.2
  have a1 := hL.hi a (by omega) ha.2
  have rng : ∀ i, i ≤ j → 0 ≤ it (nxt P L) i (gI L a) ∧ it (nxt P L) i (gI L a) < ((2 * n : Nat) : Int) := by
    intro i hi
    induction i with
    | zero => exact ⟨a0, a1⟩
    | succ i ih =>
      have h1 := ih (by omega)
      have h2 := hlt i (by omega)
      have h3 := hP.lo _ h1.1 h2
      have h4 := hP.hi _ h1.1 h2
      exact ⟨hL.lo _ h3 (by omega), hL.hi _ h3 (by omega)⟩
  have hlk : ∀ i, i ≤ j → Lk P L n a (it (nxt P L) i (gI L a)) := by
    intro i hi
    induction i with
    | zero => exact (Lk.refl (by omega) ha.2).l
    | succ i ih => exact ((ih (by omega)).p (hlt i (by omega))).l
  have key : ∀ x : Int, Lk P L n a x ↔ x = a ∨ x = it (nxt P L) j (gI L a) ∨ ∃ i, i < j ∧ (x = it (nxt P L) i (gI L a) ∨ x = gI P (it (nxt P L) i (gI L a))) := by
    intro x
    constructor
    · intro h
      have prev : ∀ i, i ≤ j → 0 < i → gI L (it (nxt P L) i (gI L a)) = gI P (it (nxt P L) (i - 1) (gI L a)) := by
        intro i hi h0
        obtain ⟨i, rfl⟩ : ∃ m, i = m + 1 := ⟨i - 1, by omega⟩
        have h1 := rng i (by omega)
        have h2 := hlt i (by omega)
        have h3 := hP.lo _ h1.1 h2
        have h4 := hP.hi _ h1.1 h2
        exact hL.inv _ h3 (by omega)
      have back : gI L (gI L a) = a := hL.inv _ (by omega) ha.2
      induction h with
      | refl h0 h1 => exact .inl rfl
      | p h hb ih =>
        rcases ih with rfl | rfl | ⟨i, hi, rfl | rfl⟩
        · omega
        · omega
        · exact .inr (.inr ⟨i, hi, .inr rfl⟩)
        · exact .inr (.inr ⟨i, hi, .inl (hP.inv _ (rng i (by omega)).1 (hlt i hi))⟩)
      | l h ih =>
        rcases ih with rfl | rfl | ⟨i, hi, rfl | rfl⟩
        · by_cases h0 : j = 0
          · subst h0; exact .inr (.inl rfl)
          · exact .inr (.inr ⟨0, by omega, .inl rfl⟩)
        · by_cases h0 : j = 0
          · subst h0; exact .inl back
          · exact .inr (.inr ⟨j - 1, by omega, .inr (prev j (Nat.le_refl _) (by omega))⟩)
        · by_cases h0 : i = 0
          · subst h0; exact .inl back
          · exact .inr (.inr ⟨i - 1, by omega, .inr (prev i (by omega) (by omega))⟩)
        · by_cases h0 : i + 1 < j
          · exact .inr (.inr ⟨i + 1, h0, .inl rfl⟩)
          · have e : i + 1 = j := by omega
            refine .inr (.inl ?_)
            rw [← e]
            rfl
    · rintro (rfl | rfl | ⟨i, hi, rfl | rfl⟩)
      · exact .refl (by omega) ha.2
      · exact hlk j (Nat.le_refl _)
      · exact hlk i (by omega)
      · exact (hlk i (by omega)).p (hlt i hi)
  have hne : it (nxt P L) j (gI L a) ≠ a := by
    have ht := twice_pair hP
    have hb := twice_get hP (x := a) (by omega) ha.2
    rw [if_neg (by omega)] at hb
    have b0 := ht.lo a (by omega) ha.2
    have b1 := ht.hi a (by omega) ha.2
    have hall : ∀ i, i ≤ j → it (nxt (twice P n) L) (i + 1) (gI (twice P n) a) = it (nxt P L) i (gI L a) := by
      intro i hi
      induction i with
      | zero =>
        show gI L (gI (twice P n) (gI (twice P n) a)) = gI L a
        rw [ht.inv a (by omega) ha.2]
      | succ i ih =>
        show gI L (gI (twice P n) (it (nxt (twice P n) L) (i + 1) (gI (twice P n) a))) = gI L (gI P (it (nxt P L) i (gI L a)))
        rw [ih (by omega)]
        have h1 := rng i (by omega)
        have h2 := hlt i (by omega)
        rw [twice_get hP h1.1 h1.2, if_pos h2]
    have hn := no_partner ht hL (j + 1) (gI (twice P n) a) ⟨b0, b1⟩
    rw [hall j (Nat.le_refl _), ht.inv a (by omega) ha.2] at hn
    exact hn
  refine ⟨_, rfl, ⟨hend, (rng j (Nat.le_refl _)).2⟩, hne, fun y hy => ?_, by show (marks _ _ _ _ _).length = n; rw [marks_length, hs], fun x x0 x1 => ?_⟩
  · rw [key y]
    constructor
    · rintro (h | h | ⟨i, hi, h | h⟩)
      · exact .inl h
      · exact .inr h
      · have := hlt i hi; omega
      · have h1 := hP.hi _ (rng i (by omega)).1 (hlt i hi); omega
    · rintro (h | h)
      · exact .inl h
      · exact .inr (.inl h)
  · show gB (marks P L (gI L a) s j) x = true ↔ _
    rw [key x]
    have hm : ∀ i, i ≤ j → (gB (marks P L (gI L a) s i) x = true ↔ gB s x = true ∨ ∃ k, k < i ∧ (x = it (nxt P L) k (gI L a) ∨ x = gI P (it (nxt P L) k (gI L a)))) := by
      intro i hi
      induction i with
      | zero => simp [marks]
      | succ i ih =>
        have r1 := rng i (by omega)
        have r2 := hlt i (by omega)
        have l1 := marks_length (P := P) (L := L) (gI L a) s i
        rw [marks, gB_sB x0 (hP.lo _ r1.1 r2) (by rw [sB_length, l1, hs]; exact hP.hi _ r1.1 r2), gB_sB x0 r1.1 (by rw [l1, hs]; exact r2), ih (by omega)]
        constructor
        · rintro (h | h | h | ⟨k, hk, h⟩)
          · exact .inr ⟨i, by omega, .inr h⟩
          · exact .inr ⟨i, by omega, .inl h⟩
          · exact .inl h
          · exact .inr ⟨k, by omega, h⟩
        · rintro (h | ⟨k, hk, h⟩)
          · exact .inr (.inr (.inl h))
          · by_cases e : k = i
            · subst e
              rcases h with h | h
              · exact .inr (.inl h)
              · exact .inl h
            · exact .inr (.inr (.inr ⟨k, by omega, h⟩))
    rw [hm j (Nat.le_refl _)]
    constructor
    · rintro (h | h)
      · exact .inl h
      · exact .inr (.inr (.inr h))
    · rintro (h | h | h | h)
      · exact .inl h
      · omega
      · omega
      · exact .inr h

/-- What is known of the first k elements of the other side. -/
structure Passed (P L : List Int) (n k : Nat) (r : List Int × List Bool) : Prop where
  len : r.1.length = k
  slen : r.2.length = n
  rng : ∀ i : Nat, i < k → 0 ≤ gI r.1 i ∧ gI r.1 i < n ∧ gI r.1 i ≠ i
  ends : ∀ i : Nat, i < k → ∀ y : Int, (n : Int) ≤ y → (Lk P L n ((n : Int) + i) y ↔ y = (n : Int) + i ∨ y = (n : Int) + gI r.1 i)
  seen : ∀ x : Int, 0 ≤ x → x < n → (gB r.2 x = true ↔ ∃ i : Nat, i < k ∧ Lk P L n ((n : Int) + i) x)

omit hP hL in
theorem gI_snoc_lt (l : List Int) (x : Int) {i : Nat} (h : i < l.length) : gI (l ++ [x]) i = gI l i := by
  unfold gI
  simp [List.getD, List.getElem?_append_left h]
omit hP hL in
theorem gI_snoc_eq (l : List Int) (x : Int) {i : Nat} (h : i = l.length) : gI (l ++ [x]) i = x := by
  subst h
  unfold gI
  simp [List.getD]

theorem passed : ∀ k, k ≤ n → Passed P L n k (pass1 P L n k)
  | 0, _ => ⟨rfl, by simp [pass1], fun i h => absurd h (by omega), fun i h => absurd h (by omega), fun x x0 x1 => by
      have : gB (List.replicate n false) x = false := by unfold gB; simp [List.getD, List.getElem?_replicate]; split <;> simp
      show gB (List.replicate n false) x = true ↔ _
      rw [this]
      constructor
      · intro h; cases h
      · rintro ⟨i, h, _⟩; omega⟩
  | k + 1, hk => by
    have ih := passed k (by omega)
    obtain ⟨e, he, he2, hne, hy, hl, hx⟩ := chain_spec hP hL (a := (n : Int) + k) ⟨by omega, by omega⟩ ih.slen
    unfold pass1
    rw [he]
    refine ⟨?_, hl, ?_, ?_, ?_⟩
    · show (_ ++ [_]).length = _
      simp [ih.len]
    · intro i hi
      by_cases h : i < k
      · show 0 ≤ gI (_ ++ [_]) i ∧ gI (_ ++ [_]) i < n ∧ gI (_ ++ [_]) i ≠ i
        rw [gI_snoc_lt _ _ (by rw [ih.len]; exact h)]
        exact ih.rng i h
      · obtain rfl : i = k := by omega
        show 0 ≤ gI (_ ++ [_]) _ ∧ gI (_ ++ [_]) _ < n ∧ gI (_ ++ [_]) _ ≠ _
        rw [gI_snoc_eq _ _ ih.len.symm]
        omega
    · intro i hi y hy'
      by_cases h : i < k
      · show _ ↔ _ ∨ y = (n : Int) + gI (_ ++ [_]) i
        rw [gI_snoc_lt _ _ (by rw [ih.len]; exact h)]
        exact ih.ends i h y hy'
      · obtain rfl : i = k := by omega
        show _ ↔ _ ∨ y = (n : Int) + gI (_ ++ [_]) _
        rw [gI_snoc_eq _ _ ih.len.symm, hy y hy', show (n : Int) + (e - n) = e by omega]
    · intro x x0 x1
      show gB (chain P L n n (gI L ((n : Int) + k)) (pass1 P L n k).2).2 x = true ↔ _
      rw [hx x x0 x1, ih.seen x x0 x1]
      constructor
      · rintro (⟨i, hi, h⟩ | h)
        · exact ⟨i, by omega, h⟩
        · exact ⟨k, by omega, h⟩
      · rintro ⟨i, hi, h⟩
        by_cases e : i < k
        · exact .inl ⟨i, e, h⟩
        · obtain rfl : i = k := by omega
          exact .inr h

/-- The pairing passed on is a pairing. -/
theorem pass_pair : Pairing n (pass P L n).1 := by
  have h := passed hP hL n (Nat.le_refl _)
  have hinv : ∀ i : Nat, i < n → gI (pass1 P L n n).1 (gI (pass1 P L n n).1 i) = i := by
    intro i hi
    obtain ⟨q0, q1, q2⟩ := h.rng i hi
    obtain ⟨q, hq⟩ := Int.eq_ofNat_of_zero_le q0
    have h1 := (h.ends i hi ((n : Int) + q) (by omega)).2 (.inr (by rw [hq]))
    have h2 := h1.symm hP hL
    rcases (h.ends q (by omega) ((n : Int) + i) (by omega)).1 h2 with h3 | h3
    · omega
    · rw [hq]; omega
  refine ⟨h.len, fun i h0 h1 => ?_, fun i h0 h1 => ?_, fun i h0 h1 => ?_, fun i h0 h1 => ?_⟩ <;> obtain ⟨k, rfl⟩ := Int.eq_ofNat_of_zero_le h0
  · exact (h.rng k (by omega)).1
  · exact (h.rng k (by omega)).2.1
  · exact (h.rng k (by omega)).2.2
  · exact hinv k (by omega)

theorem pass_ends {i j : Int} (hi : 0 ≤ i ∧ i < n) (hj : 0 ≤ j ∧ j < n) : Lk P L n ((n : Int) + i) ((n : Int) + j) ↔ j = i ∨ j = gI (pass P L n).1 i := by
  have h := passed hP hL n (Nat.le_refl _)
  obtain ⟨k, rfl⟩ := Int.eq_ofNat_of_zero_le hi.1
  rw [h.ends k (by omega) _ (by omega)]
  constructor
  · rintro (h | h)
    · exact .inl (by omega)
    · exact .inr (by show j = gI (pass1 P L n n).1 _; omega)
  · rintro (h | h)
    · exact .inl (by omega)
    · exact .inr (by have h' : j = gI (pass1 P L n n).1 (k : Int) := h; omega)

/-- The links among the first n, the two ends of each chain joined. -/
def inL (P L : List Int) (n : Nat) : List Int := (List.range n).map fun x : Nat => if gI L x < n then gI L x else gI L ((n : Int) + gI (pass P L n).1 (gI L x - n))
omit hP hL in
theorem inL_get {x : Int} (x0 : 0 ≤ x) (x1 : x < n) : gI (inL P L n) x = if gI L x < n then gI L x else gI L ((n : Int) + gI (pass P L n).1 (gI L x - n)) := by
  obtain ⟨k, rfl⟩ := Int.eq_ofNat_of_zero_le x0
  have hk : k < n := by omega
  unfold inL
  show List.getD _ _ _ = _
  rw [Int.toNat_natCast, List.getD_eq_getElem?_getD, List.getElem?_map, List.getElem?_range hk]
  rfl

theorem inL_big {x : Int} (x0 : 0 ≤ x) (x1 : x < n) (h : ¬ gI L x < n) :
    (0 ≤ gI (pass P L n).1 (gI L x - n) ∧ gI (pass P L n).1 (gI L x - n) < n) ∧ gI (pass P L n).1 (gI L x - n) ≠ gI L x - n ∧ 0 ≤ gI L ((n : Int) + gI (pass P L n).1 (gI L x - n)) ∧ gI L ((n : Int) + gI (pass P L n).1 (gI L x - n)) < n := by
  have hq := pass_pair hP hL
  have l0 := hL.lo x x0 (by omega)
  have l1 := hL.hi x x0 (by omega)
  have li := hL.inv x x0 (by omega)
  obtain ⟨i, hi⟩ : ∃ i, i = gI L x - n := ⟨_, rfl⟩
  rw [← hi]
  have hLx : gI L x = (n : Int) + i := by omega
  rw [hLx] at li
  have q0 := hq.lo i (by omega) (by omega)
  have q1 := hq.hi i (by omega) (by omega)
  have q2 := hq.ne i (by omega) (by omega)
  have qi := hq.inv i (by omega) (by omega)
  generalize hqq : gI (pass P L n).1 i = q at *
  have m0 := hL.lo ((n : Int) + q) (by omega) (by omega)
  have m1 := hL.hi ((n : Int) + q) (by omega) (by omega)
  have m2 := hL.ne ((n : Int) + q) (by omega) (by omega)
  have m3 := hL.inv ((n : Int) + q) (by omega) (by omega)
  refine ⟨⟨q0, q1⟩, q2, m0, ?_⟩
  apply Classical.byContradiction
  intro hge
  have hk : Lk P L n ((n : Int) + q) (gI L ((n : Int) + q)) := (Lk.refl (by omega) (by omega)).l
  rw [show gI L ((n : Int) + q) = (n : Int) + (gI L ((n : Int) + q) - n) by omega] at hk
  rcases (pass_ends hP hL ⟨q0, q1⟩ ⟨by omega, by omega⟩).1 hk with h1 | h1
  · omega
  · rw [qi] at h1
    have h2 : gI L ((n : Int) + q) = (n : Int) + i := by omega
    rw [h2, li] at m3
    omega

theorem inL_pair : Pairing n (inL P L n) := by
  have hq := pass_pair hP hL
  refine ⟨by simp [inL], fun i h0 h1 => ?_, fun i h0 h1 => ?_, fun i h0 h1 => ?_, fun i h0 h1 => ?_⟩
  · rw [inL_get h0 h1]
    split
    · exact hL.lo _ h0 (by omega)
    · exact (inL_big hP hL h0 h1 (by assumption)).2.2.1
  · rw [inL_get h0 h1]
    split
    · assumption
    · exact (inL_big hP hL h0 h1 (by assumption)).2.2.2
  · rw [inL_get h0 h1]
    split
    · exact hL.ne _ h0 (by omega)
    · rename_i h
      obtain ⟨⟨q0, q1⟩, q2, m0, m1⟩ := inL_big hP hL h0 h1 h
      intro e
      have l0 := hL.lo i h0 (by omega)
      have l1 := hL.hi i h0 (by omega)
      have m3 := hL.inv ((n : Int) + gI (pass P L n).1 (gI L i - n)) (by omega) (by omega)
      rw [e] at m3
      omega
  · rw [inL_get h0 h1]
    split
    · rename_i h
      have l0 := hL.lo i h0 (by omega)
      have li := hL.inv i h0 (by omega)
      rw [inL_get l0 h, li, if_pos h1]
    · rename_i h
      obtain ⟨⟨q0, q1⟩, q2, m0, m1⟩ := inL_big hP hL h0 h1 h
      have l0 := hL.lo i h0 (by omega)
      have l1 := hL.hi i h0 (by omega)
      have li := hL.inv i h0 (by omega)
      have qi := hq.inv (gI L i - n) (by omega) (by omega)
      have m3 := hL.inv ((n : Int) + gI (pass P L n).1 (gI L i - n)) (by omega) (by omega)
      rw [inL_get m0 m1, m3, if_neg (by omega), show (n : Int) + gI (pass P L n).1 (gI L i - n) - n = gI (pass P L n).1 (gI L i - n) by omega, qi, show (n : Int) + (gI L i - n) = gI L i by omega, li]

omit hL in
theorem cyc_mono {L' : List Int} (hL' : Pairing n L') {x : Int} (x0 : 0 ≤ x) : ∀ (f : Nat) (a : Int) (s : List Bool), s.length = n → 0 ≤ a → a < n → gB s x = true → gB (cyc P L' f a s) x = true
  | 0, _, _, _, _, _, h => h
  | f + 1, a, s, hs, a0, a1, h => by
    unfold cyc
    split
    · exact h
    · have p0 := hP.lo a a0 a1
      have p1 := hP.hi a a0 a1
      exact cyc_mono hL' x0 f _ _ (by rw [sB_length, sB_length, hs]) (hL'.lo _ p0 p1) (hL'.hi _ p0 p1) ((gB_sB x0 p0 (by rw [sB_length, hs]; exact p1)).2 (.inr ((gB_sB x0 a0 (by rw [hs]; exact a1)).2 (.inr h))))
omit hL in
theorem cycTo_mono {L' : List Int} (hL' : Pairing n L') {x : Int} (x0 : 0 ≤ x) {s : List Bool} (hs : s.length = n) (h : gB s x = true) : ∀ k, k ≤ n → gB (cycTo P L' n s k).2 x = true
  | 0, _ => h
  | k + 1, hk => by
    unfold cycTo
    split
    · exact cycTo_mono hL' x0 hs h k (by omega)
    · exact cyc_mono hP hL' x0 _ _ _ (by rw [cycTo_length, hs]) (by omega) (by omega) (cycTo_mono hL' x0 hs h k (by omega))
omit hL in
theorem cyc_congr {L' : List Int} (hL' : Pairing n L') : ∀ (f : Nat) (a : Int) (s : List Bool), s.length = n → 0 ≤ a → a < n → (∀ x : Int, 0 ≤ x → x < n → gB s x = false → gI L (gI P x) = gI L' (gI P x)) →
    cyc P L f a s = cyc P L' f a s
  | 0, _, _, _, _, _, _ => rfl
  | f + 1, a, s, hs, a0, a1, hc => by
    unfold cyc
    by_cases h : gB s a = true
    · rw [if_pos h, if_pos h]
    · rw [if_neg h, if_neg h, hc a a0 a1 (by simpa using h)]
      have p0 := hP.lo a a0 a1
      have p1 := hP.hi a a0 a1
      refine cyc_congr hL' f _ _ (by rw [sB_length, sB_length, hs]) (hL'.lo _ p0 p1) (hL'.hi _ p0 p1) fun x x0 x1 hx => hc x x0 x1 ?_
      cases hb : gB s x
      · rfl
      · rw [(gB_sB x0 p0 (by rw [sB_length, hs]; exact p1)).2 (.inr ((gB_sB x0 a0 (by rw [hs]; exact a1)).2 (.inr hb)))] at hx
        cases hx
omit hL in
theorem cycTo_congr {L' : List Int} (hL' : Pairing n L') {s : List Bool} (hs : s.length = n) (hc : ∀ x : Int, 0 ≤ x → x < n → gB s x = false → gI L (gI P x) = gI L' (gI P x)) : ∀ k, k ≤ n → cycTo P L n s k = cycTo P L' n s k
  | 0, _ => rfl
  | k + 1, hk => by
    have ih := cycTo_congr hL' hs hc k (by omega)
    unfold cycTo
    rw [ih]
    split
    · rfl
    · rw [cyc_congr hP hL' (n + 1) k _ (by rw [cycTo_length, hs]) (by omega) (by omega) fun x x0 x1 hx => hc x x0 x1 ?_]
      cases hb : gB s x
      · rfl
      · rw [cycTo_mono hP hL' x0 hs hb k (by omega)] at hx
        cases hx

theorem unseen_iff {x : Int} (x0 : 0 ≤ x) (x1 : x < n) : gB (pass1 P L n n).2 x = false ↔ ∀ i : Nat, i < n → ¬ Lk P L n x ((n : Int) + i) := by
  have h := (passed hP hL n (Nat.le_refl _)).seen x x0 x1
  cases hb : gB (pass1 P L n n).2 x
  · simp only [true_iff]
    intro i hi hk
    rw [hb] at h
    exact absurd (h.2 ⟨i, hi, hk.symm hP hL⟩) (by simp)
  · simp only [Bool.true_eq_false, false_iff]
    intro hall
    obtain ⟨i, hi, hk⟩ := h.1 hb
    exact hall i hi (hk.symm hP hL)

theorem unseen_small {x y : Int} (hu : ∀ i : Nat, i < n → ¬ Lk P L n x ((n : Int) + i)) (h : Lk P L n x y) : 0 ≤ y ∧ y < n := by
  obtain ⟨_, y0, y1⟩ := h.dom hP hL
  refine ⟨y0, ?_⟩
  apply Classical.byContradiction
  intro hge
  refine hu (y - n).toNat (by omega) ?_
  rw [show (n : Int) + ((y - n).toNat : Nat) = y by omega]
  exact h

theorem unseen_jn {a : Int} (ha : 0 ≤ a ∧ a < n) (hu : ∀ i : Nat, i < n → ¬ Lk P L n a ((n : Int) + i)) (b : Int) : Jn P (inL P L n) n a b ↔ Lk P L n a b := by
  have small := fun y (h : Lk P L n a y) => unseen_small hP hL hu h
  have hin : ∀ b, Lk P L n a b → gI (inL P L n) b = gI L b := fun b hb => by
    have h1 := small b hb
    have h2 := small _ hb.l
    rw [inL_get h1.1 h1.2, if_pos h2.2]
  constructor
  · intro h
    induction h with
    | refl h0 h1 => exact .refl h0 (by omega)
    | p h ih => exact ih.p (small _ ih).2
    | l h ih =>
      rw [hin _ ih]
      exact ih.l
  · intro h
    induction h with
    | refl h0 h1 => exact .refl ha.1 ha.2
    | p h hb ih => exact ih.p
    | l h ih =>
      rw [← hin _ h]
      exact ih.l

/-- What is closed. -/
theorem pass_closed : ∃ reps : List Int, (pass P L n).2 = reps.length ∧ Reps (Lk P L n) (fun a => (0 ≤ a ∧ a < (n : Int)) ∧ ∀ i : Nat, i < n → ¬ Lk P L n a ((n : Int) + i)) reps := by
  have hp := passed hP hL n (Nat.le_refl _)
  have hI := inL_pair hP hL
  have hshut : Shut P (inL P L n) n (pass1 P L n n).2 := by
    intro a b hab ha
    obtain ⟨⟨a0, a1⟩, b0, b1⟩ := hab.dom hP hI
    cases hb : gB (pass1 P L n n).2 b
    · have hu := (unseen_iff hP hL b0 b1).1 hb
      have h1 := (unseen_jn hP hL ⟨b0, b1⟩ hu a).1 (hab.symm hP hI)
      have h2 : gB (pass1 P L n n).2 a = false := (unseen_iff hP hL a0 a1).2 fun i hi hk => hu i hi (h1.trans hk)
      rw [h2] at ha
      cases ha
    · rfl
  have hcg : ∀ x : Int, 0 ≤ x → x < n → gB (pass1 P L n n).2 x = false → gI L (gI P x) = gI (inL P L n) (gI P x) := by
    intro x x0 x1 hx
    have hu := (unseen_iff hP hL x0 x1).1 hx
    have h1 : Lk P L n x (gI P x) := (Lk.refl x0 (by omega)).p x1
    have h2 := unseen_small hP hL hu h1
    have h3 := unseen_small hP hL hu h1.l
    rw [inL_get h2.1 h2.2, if_pos h3.2]
  obtain ⟨reps, hr⟩ := looped hP hI hp.slen hshut n (Nat.le_refl _)
  have hrr := looped_reps hP hI hr
  refine ⟨reps, ?_, ?_, ?_, ?_⟩
  · show (cycTo P L n (pass1 P L n n).2 n).1 = _
    rw [cycTo_congr hP hI hp.slen hcg n (Nat.le_refl _)]
    exact hr.count
  · intro a ha
    obtain ⟨h1, h2⟩ := hrr.mem a ha
    exact ⟨h1, (unseen_iff hP hL h1.1 h1.2).1 h2⟩
  · refine hrr.apart.imp_of_mem ?_
    intro a b ha hb h hk
    obtain ⟨h1, h2⟩ := hrr.mem a ha
    exact h ((unseen_jn hP hL h1 ((unseen_iff hP hL h1.1 h1.2).1 h2) b).2 hk)
  · intro a ⟨h1, h2⟩
    obtain ⟨b, hb, hj⟩ := hrr.all a ⟨h1, (unseen_iff hP hL h1.1 h1.2).2 h2⟩
    exact ⟨b, hb, (unseen_jn hP hL h1 h2 b).1 hj⟩
end
end Knot

namespace Knot

/-! ### One side of a column: what is joined there, and how many classes are closed -/

/-- R joins the places of S; of the column's places (col) those that P pairs are joined and no others; c classes do not meet the column. -/
structure Side (S : Nat → Prop) (R : Nat → Nat → Prop) (col : Nat → Nat) (n : Nat) (P : List Int) (c : Int) : Prop where
  pair : Pairing n P
  refl : ∀ a, S a → R a a
  symm : ∀ a b, R a b → R b a
  trans : ∀ a b d, R a b → R b d → R a d
  dom : ∀ a b, R a b → S a ∧ S b
  col_in : ∀ i, i < n → S (col i)
  col_inj : ∀ i j, i < n → j < n → col i = col j → i = j
  ends : ∀ i j : Nat, i < n → j < n → (R (col i) (col j) ↔ (j : Int) = i ∨ (j : Int) = gI P i)
  closed : ∃ reps : List Nat, c = reps.length ∧ Reps R (fun a => S a ∧ ∀ i, i < n → ¬ R a (col i)) reps

/-- The places of the column and of the next one. -/
def node (col col' : Nat → Nat) (n : Nat) (x : Int) : Nat := if x < n then col x.toNat else col' (x - n).toNat
theorem node_lo {col col' : Nat → Nat} {n : Nat} {x : Int} (h : x < n) : node col col' n x = col x.toNat := by simp [node, h]
theorem node_hi {col col' : Nat → Nat} {n : Nat} {x : Int} (h : ¬ x < n) : node col col' n x = col' (x - n).toNat := by simp [node, h]

theorem Side.step {S S' : Nat → Prop} {R R' : Nat → Nat → Prop} {col col' : Nat → Nat} {n : Nat} {P L : List Int} {c : Int} (h : Side S R col n P c) (hL : Pairing (2 * n) L)
    (hS' : ∀ a, S' a ↔ S a ∨ ∃ i, i < n ∧ a = col' i) (hout : ∀ i, i < n → ¬ S (col' i)) (hinj : ∀ i j, i < n → j < n → col' i = col' j → i = j)
    (refl' : ∀ a, S' a → R' a a) (symm' : ∀ a b, R' a b → R' b a) (trans' : ∀ a b d, R' a b → R' b d → R' a d) (dom' : ∀ a b, R' a b → S' a ∧ S' b)
    (hsub : ∀ a b, R a b → R' a b) (hlink : ∀ x : Int, 0 ≤ x → x < ((2 * n : Nat) : Int) → R' (node col col' n x) (node col col' n (gI L x)))
    (hmin : ∀ Q : Nat → Prop, (∀ a b, R a b → Q a → Q b) → (∀ x : Int, 0 ≤ x → x < ((2 * n : Nat) : Int) → Q (node col col' n x) → Q (node col col' n (gI L x))) → ∀ a b, R' a b → Q a → Q b) :
    Side S' R' col' n (pass P L n).1 (c + (pass P L n).2) := by
  have hP := h.pair
  have ndS : ∀ x : Int, 0 ≤ x → x < ((2 * n : Nat) : Int) → (S (node col col' n x) ↔ x < n) := by
    intro x x0 x1
    by_cases hx : x < n
    · rw [node_lo hx]
      exact ⟨fun _ => hx, fun _ => h.col_in _ (by omega)⟩
    · rw [node_hi hx]
      exact ⟨fun hs => absurd hs (hout _ (by omega)), fun h => absurd h hx⟩
  have ndinj : ∀ x y : Int, 0 ≤ x → x < ((2 * n : Nat) : Int) → 0 ≤ y → y < ((2 * n : Nat) : Int) → node col col' n x = node col col' n y → x = y := by
    intro x y x0 x1 y0 y1 e
    have h1 := ndS x x0 x1
    have h2 := ndS y y0 y1
    rw [e] at h1
    by_cases hx : x < n
    · have hy : y < n := h2.1 (h1.2 hx)
      rw [node_lo hx, node_lo hy] at e
      have := h.col_inj _ _ (by omega) (by omega) e
      omega
    · have hy : ¬ y < n := fun hy => hx (h1.1 (h2.2 hy))
      rw [node_hi hx, node_hi hy] at e
      have := hinj _ _ (by omega) (by omega) e
      omega
  -- two joined nodes on this side
  have two : ∀ x y : Int, 0 ≤ x → x < ((2 * n : Nat) : Int) → 0 ≤ y → y < ((2 * n : Nat) : Int) → R (node col col' n x) (node col col' n y) → (x < n ∧ y < n) ∧ (y = x ∨ y = gI P x) := by
    intro x y x0 x1 y0 y1 hr
    obtain ⟨s1, s2⟩ := h.dom _ _ hr
    have hx := (ndS x x0 x1).1 s1
    have hy := (ndS y y0 y1).1 s2
    rw [node_lo hx, node_lo hy] at hr
    have := (h.ends _ _ (by omega) (by omega)).1 hr
    rw [show ((x.toNat : Nat) : Int) = x by omega, show ((y.toNat : Nat) : Int) = y by omega] at this
    exact ⟨⟨hx, hy⟩, this⟩
  -- the nodes: joined just as the links and the pairing say
  have nodes : ∀ u v : Int, 0 ≤ u → u < ((2 * n : Nat) : Int) → 0 ≤ v → v < ((2 * n : Nat) : Int) → (R' (node col col' n u) (node col col' n v) ↔ Lk P L n u v) := by
    intro u v u0 u1 v0 v1
    constructor
    · intro hr
      have hq := hmin (fun b => ∃ w, Lk P L n u w ∧ (R (node col col' n w) b ∨ b = node col col' n w)) ?_ ?_ _ _ hr ⟨u, .refl u0 u1, .inr rfl⟩
      · obtain ⟨w, hw, hb⟩ := hq
        obtain ⟨_, w0, w1⟩ := hw.dom hP hL
        rcases hb with hb | hb
        · obtain ⟨⟨hwn, _⟩, rfl | rfl⟩ := two w v w0 w1 v0 v1 hb
          · exact hw
          · exact hw.p hwn
        · have := ndinj _ _ v0 v1 w0 w1 hb
          subst this
          exact hw
      · rintro a b hab ⟨w, hw, hb | rfl⟩
        · exact ⟨w, hw, .inl (h.trans _ _ _ hb hab)⟩
        · exact ⟨w, hw, .inl hab⟩
      · rintro x x0 x1 ⟨w, hw, hb⟩
        obtain ⟨_, w0, w1⟩ := hw.dom hP hL
        rcases hb with hb | hb
        · obtain ⟨⟨hwn, _⟩, rfl | rfl⟩ := two w x w0 w1 x0 x1 hb
          · exact ⟨_, hw.l, .inr rfl⟩
          · exact ⟨_, (hw.p hwn).l, .inr rfl⟩
        · have := ndinj _ _ x0 x1 w0 w1 hb
          subst this
          exact ⟨_, hw.l, .inr rfl⟩
    · intro hk
      clear v0 v1
      induction hk with
      | refl h0 h1 =>
        refine refl' _ ((hS' _).2 ?_)
        by_cases hx : u < n
        · exact .inl ((ndS u u0 u1).2 hx)
        · exact .inr ⟨(u - n).toNat, by omega, node_hi hx⟩
      | @p b hk hb ih =>
        obtain ⟨_, b0, b1⟩ := hk.dom hP hL
        have p0 := hP.lo b b0 hb
        have p1 := hP.hi b b0 hb
        refine trans' _ _ _ ih (hsub _ _ ?_)
        rw [node_lo hb, node_lo p1]
        refine (h.ends _ _ (by omega) (by omega)).2 (.inr ?_)
        rw [show ((b.toNat : Nat) : Int) = b by omega]
        omega
      | @l b hk ih =>
        obtain ⟨_, b0, b1⟩ := hk.dom hP hL
        exact trans' _ _ _ ih (hlink b b0 b1)
  -- a class that does not meet the column stays as it is
  have far : ∀ a, S a → (∀ i, i < n → ¬ R a (col i)) → ∀ b, R' a b → R a b := by
    intro a ha hn b hr
    refine hmin (fun b => R a b) (fun x y hxy hx => h.trans _ _ _ hx hxy) ?_ _ _ hr (h.refl a ha)
    intro x x0 x1 hx
    have hxn := (ndS x x0 x1).1 (h.dom _ _ hx).2
    rw [node_lo hxn] at hx
    exact absurd hx (hn _ (by omega))
  refine ⟨pass_pair hP hL, refl', symm', trans', dom', fun i hi => (hS' _).2 (.inr ⟨i, hi, rfl⟩), hinj, fun i j hi hj => ?_, ?_⟩
  · have := nodes ((n : Int) + i) ((n : Int) + j) (by omega) (by omega) (by omega) (by omega)
    rw [node_hi (by omega), node_hi (by omega), show ((n : Int) + i - n).toNat = i by omega, show ((n : Int) + j - n).toNat = j by omega, pass_ends hP hL ⟨by omega, by omega⟩ ⟨by omega, by omega⟩] at this
    exact this
  · obtain ⟨L1, hc, r1⟩ := h.closed
    obtain ⟨L2, hd, r2⟩ := pass_closed hP hL
    have cl : ∀ k : Int, 0 ≤ k → k < n → ∀ i, i < n → (R' (col k.toNat) (col' i) ↔ Lk P L n k ((n : Int) + i)) := by
      intro k k0 k1 i hi
      have := nodes k ((n : Int) + i) k0 (by omega) (by omega) (by omega)
      rw [node_lo k1, node_hi (by omega), show ((n : Int) + i - n).toNat = i by omega] at this
      exact this
    have cc : ∀ k m : Int, 0 ≤ k → k < n → 0 ≤ m → m < n → (R' (col k.toNat) (col m.toNat) ↔ Lk P L n k m) := by
      intro k m k0 k1 m0 m1
      have := nodes k m k0 (by omega) m0 (by omega)
      rw [node_lo k1, node_lo m1] at this
      exact this
    refine ⟨L1 ++ L2.map fun k => col k.toNat, ?_, ?_, ?_, ?_⟩
    · rw [hc, hd]; simp
    · intro a ha
      rcases List.mem_append.1 ha with h1 | h1
      · obtain ⟨s, hn⟩ := r1.mem a h1
        exact ⟨(hS' _).2 (.inl s), fun i hi hr => hout i hi (h.dom _ _ (far a s hn _ hr)).2⟩
      · obtain ⟨k, hk, rfl⟩ := List.mem_map.1 h1
        obtain ⟨⟨k0, k1⟩, hn⟩ := r2.mem k hk
        exact ⟨(hS' _).2 (.inl (h.col_in _ (by omega))), fun i hi hr => hn i hi ((cl k k0 k1 i hi).1 hr)⟩
    · rw [List.pairwise_append]
      refine ⟨r1.apart.imp_of_mem fun ha hb hn hr => ?_, ?_, ?_⟩
      · obtain ⟨s, hs⟩ := r1.mem _ ha
        exact hn (far _ s hs _ hr)
      · rw [List.pairwise_map]
        refine r2.apart.imp_of_mem fun ha hb hn hr => ?_
        obtain ⟨⟨a0, a1⟩, _⟩ := r2.mem _ ha
        obtain ⟨⟨b0, b1⟩, _⟩ := r2.mem _ hb
        exact hn ((cc _ _ a0 a1 b0 b1).1 hr)
      · intro a ha b hb hr
        obtain ⟨k, hk, rfl⟩ := List.mem_map.1 hb
        obtain ⟨⟨k0, k1⟩, _⟩ := r2.mem k hk
        obtain ⟨s, hs⟩ := r1.mem _ ha
        exact hs k.toNat (by omega) (far _ s hs _ hr)
    · rintro a ⟨ha, hn⟩
      rcases (hS' a).1 ha with s | ⟨i, hi, rfl⟩
      · by_cases hm : ∃ i, i < n ∧ R a (col i)
        · obtain ⟨i, hi, hr⟩ := hm
          obtain ⟨k, hk, hlk⟩ := r2.all (i : Int) ⟨⟨by omega, by omega⟩, fun j hj hl => hn j hj (trans' _ _ _ (hsub _ _ hr) (by
            have := (cl (i : Int) (by omega) (by omega) j hj).2 hl
            rwa [show ((i : Int)).toNat = i by omega] at this))⟩
          obtain ⟨⟨k0, k1⟩, _⟩ := r2.mem k hk
          refine ⟨col k.toNat, List.mem_append.2 (.inr (List.mem_map.2 ⟨k, hk, rfl⟩)), trans' _ _ _ (hsub _ _ hr) ?_⟩
          have := (cc (i : Int) k (by omega) (by omega) k0 k1).2 hlk
          rwa [show ((i : Int)).toNat = i by omega] at this
        · obtain ⟨b, hb, hr⟩ := r1.all a ⟨s, fun i hi hr => hm ⟨i, hi, hr⟩⟩
          exact ⟨b, List.mem_append.2 (.inl hb), hsub _ _ hr⟩
      · exact absurd (refl' _ ha) (hn i hi)

/-- Both sides of a column together. -/
theorem Side.meet {S T U : Nat → Prop} {R R2 Rt : Nat → Nat → Prop} {col : Nat → Nat} {n : Nat} {P Q : List Int} {c d : Int} (h : Side S R col n P c) (k : Side T R2 col n Q d)
    (hboth : ∀ a, S a → T a → ∃ i, i < n ∧ a = col i) (hU : ∀ a, U a ↔ S a ∨ T a)
    (reflt : ∀ a, U a → Rt a a) (symmt : ∀ a b, Rt a b → Rt b a) (transt : ∀ a b e, Rt a b → Rt b e → Rt a e)
    (hsub : ∀ a b, R a b → Rt a b) (hsub2 : ∀ a b, R2 a b → Rt a b)
    (hmin : ∀ Q : Nat → Prop, (∀ a b, R a b → Q a → Q b) → (∀ a b, R2 a b → Q a → Q b) → ∀ a b, Rt a b → Q a → Q b) :
    ∃ reps : List Nat, c + d + loopsOf P Q n = reps.length ∧ Reps Rt U reps := by
  have hP := h.pair
  have hQ := k.pair
  have onP : ∀ i j : Nat, i < n → j < n → R (col i) (col j) → Jn P Q n i j := by
    intro i j hi hj hr
    rcases (h.ends i j hi hj).1 hr with e | e
    · have : i = j := by omega
      subst this
      exact .refl (by omega) (by omega)
    · rw [e]
      exact (Jn.refl (by omega) (by omega)).p
  have onQ : ∀ i j : Nat, i < n → j < n → R2 (col i) (col j) → Jn P Q n i j := by
    intro i j hi hj hr
    rcases (k.ends i j hi hj).1 hr with e | e
    · have : i = j := by omega
      subst this
      exact .refl (by omega) (by omega)
    · rw [e]
      exact (Jn.refl (by omega) (by omega)).l
  have cc : ∀ i j : Nat, i < n → j < n → (Rt (col i) (col j) ↔ Jn P Q n i j) := by
    intro i j hi hj
    constructor
    · intro hr
      have hq := hmin (fun b => ∃ w : Nat, w < n ∧ Jn P Q n i w ∧ (R (col w) b ∨ R2 (col w) b)) ?_ ?_ _ _ hr ⟨i, hi, .refl (by omega) (by omega), .inl (h.refl _ (h.col_in i hi))⟩
      · obtain ⟨w, hw, hj1, hb | hb⟩ := hq
        · exact hj1.trans (onP w j hw hj hb)
        · exact hj1.trans (onQ w j hw hj hb)
      · rintro a b hab ⟨w, hw, hj1, hb | hb⟩
        · exact ⟨w, hw, hj1, .inl (h.trans _ _ _ hb hab)⟩
        · obtain ⟨v, hv, rfl⟩ := hboth a (h.dom _ _ hab).1 (k.dom _ _ hb).2
          exact ⟨v, hv, hj1.trans (onQ w v hw hv hb), .inl hab⟩
      · rintro a b hab ⟨w, hw, hj1, hb | hb⟩
        · obtain ⟨v, hv, rfl⟩ := hboth a (h.dom _ _ hb).2 (k.dom _ _ hab).1
          exact ⟨v, hv, hj1.trans (onP w v hw hv hb), .inr hab⟩
        · exact ⟨w, hw, hj1, .inr (k.trans _ _ _ hb hab)⟩
    · intro hj1
      have key : ∀ b : Int, Jn P Q n i b → Rt (col i) (col b.toNat) := by
        intro b hb
        induction hb with
        | refl h0 h1 =>
          rw [show ((i : Int)).toNat = i by omega]
          exact reflt _ ((hU _).2 (.inl (h.col_in i hi)))
        | @p b hb ih =>
          obtain ⟨_, b0, b1⟩ := hb.dom hP hQ
          have p0 := hP.lo b b0 b1
          have p1 := hP.hi b b0 b1
          refine transt _ _ _ ih (hsub _ _ ((h.ends _ _ (by omega) (by omega)).2 (.inr ?_)))
          rw [show ((b.toNat : Nat) : Int) = b by omega]
          omega
        | @l b hb ih =>
          obtain ⟨_, b0, b1⟩ := hb.dom hP hQ
          have p0 := hQ.lo b b0 b1
          have p1 := hQ.hi b b0 b1
          refine transt _ _ _ ih (hsub2 _ _ ((k.ends _ _ (by omega) (by omega)).2 (.inr ?_)))
          rw [show ((b.toNat : Nat) : Int) = b by omega]
          omega
      have := key j hj1
      rwa [show ((j : Int)).toNat = j by omega] at this
  have farS : ∀ a, S a → (∀ i, i < n → ¬ R a (col i)) → ∀ b, Rt a b → R a b := by
    intro a ha hn b hr
    refine hmin (fun b => R a b) (fun x y hxy hx => h.trans _ _ _ hx hxy) ?_ _ _ hr (h.refl a ha)
    intro x y hxy hx
    obtain ⟨v, hv, rfl⟩ := hboth x (h.dom _ _ hx).2 (k.dom _ _ hxy).1
    exact absurd hx (hn v hv)
  have farT : ∀ a, T a → (∀ i, i < n → ¬ R2 a (col i)) → ∀ b, Rt a b → R2 a b := by
    intro a ha hn b hr
    refine hmin (fun b => R2 a b) ?_ (fun x y hxy hx => k.trans _ _ _ hx hxy) _ _ hr (k.refl a ha)
    intro x y hxy hx
    obtain ⟨v, hv, rfl⟩ := hboth x (h.dom _ _ hxy).1 (k.dom _ _ hx).2
    exact absurd hx (hn v hv)
  obtain ⟨L1, hc, r1⟩ := h.closed
  obtain ⟨L2, hd, r2⟩ := k.closed
  obtain ⟨L3, he, r3⟩ := loopsOf_reps hP hQ
  have colj : ∀ i : Nat, i < n → ∃ m ∈ L3, Rt (col i) (col m.toNat) := by
    intro i hi
    obtain ⟨m, hm, hj⟩ := r3.all (i : Int) ⟨by omega, by omega⟩
    obtain ⟨m0, m1⟩ := r3.mem m hm
    refine ⟨m, hm, (cc i m.toNat hi (by omega)).2 ?_⟩
    rwa [show ((m.toNat : Nat) : Int) = m by omega]
  refine ⟨L1 ++ (L2 ++ L3.map fun m => col m.toNat), by rw [hc, hd, he]; simp; omega, ?_, ?_, ?_⟩
  · intro a ha
    rcases List.mem_append.1 ha with h1 | h1
    · exact (hU a).2 (.inl (r1.mem a h1).1)
    · rcases List.mem_append.1 h1 with h1 | h1
      · exact (hU a).2 (.inr (r2.mem a h1).1)
      · obtain ⟨m, hm, rfl⟩ := List.mem_map.1 h1
        obtain ⟨m0, m1⟩ := r3.mem m hm
        exact (hU _).2 (.inl (h.col_in _ (by omega)))
  · rw [List.pairwise_append, List.pairwise_append]
    refine ⟨r1.apart.imp_of_mem fun ha hb hn hr => ?_, ⟨r2.apart.imp_of_mem fun ha hb hn hr => ?_, ?_, ?_⟩, ?_⟩
    · obtain ⟨s, hs⟩ := r1.mem _ ha
      exact hn (farS _ s hs _ hr)
    · obtain ⟨s, hs⟩ := r2.mem _ ha
      exact hn (farT _ s hs _ hr)
    · rw [List.pairwise_map]
      refine r3.apart.imp_of_mem fun ha hb hn hr => ?_
      obtain ⟨a0, a1⟩ := r3.mem _ ha
      obtain ⟨b0, b1⟩ := r3.mem _ hb
      have := (cc _ _ (by omega) (by omega)).1 hr
      rw [Int.toNat_of_nonneg a0, Int.toNat_of_nonneg b0] at this
      exact hn this
    · intro a ha b hb hr
      obtain ⟨m, hm, rfl⟩ := List.mem_map.1 hb
      obtain ⟨m0, m1⟩ := r3.mem m hm
      obtain ⟨s, hs⟩ := r2.mem _ ha
      exact hs m.toNat (by omega) (farT _ s hs _ hr)
    · intro a ha b hb hr
      obtain ⟨s, hs⟩ := r1.mem _ ha
      have hab := farS _ s hs _ hr
      rcases List.mem_append.1 hb with h1 | h1
      · obtain ⟨v, hv, rfl⟩ := hboth b (h.dom _ _ hab).2 (r2.mem b h1).1
        exact hs v hv hab
      · obtain ⟨m, hm, rfl⟩ := List.mem_map.1 h1
        obtain ⟨m0, m1⟩ := r3.mem m hm
        exact hs m.toNat (by omega) hab
  · intro a ha
    rcases (hU a).1 ha with s | s
    · by_cases hm : ∃ i, i < n ∧ R a (col i)
      · obtain ⟨i, hi, hr⟩ := hm
        obtain ⟨m, hm, hj⟩ := colj i hi
        exact ⟨_, List.mem_append.2 (.inr (List.mem_append.2 (.inr (List.mem_map.2 ⟨m, hm, rfl⟩)))), transt _ _ _ (hsub _ _ hr) hj⟩
      · obtain ⟨b, hb, hr⟩ := r1.all a ⟨s, fun i hi hr => hm ⟨i, hi, hr⟩⟩
        exact ⟨b, List.mem_append.2 (.inl hb), hsub _ _ hr⟩
    · by_cases hm : ∃ i, i < n ∧ R2 a (col i)
      · obtain ⟨i, hi, hr⟩ := hm
        obtain ⟨m, hm, hj⟩ := colj i hi
        exact ⟨_, List.mem_append.2 (.inr (List.mem_append.2 (.inr (List.mem_map.2 ⟨m, hm, rfl⟩)))), transt _ _ _ (hsub2 _ _ hr) hj⟩
      · obtain ⟨b, hb, hr⟩ := r2.all a ⟨s, fun i hi hr => hm ⟨i, hi, hr⟩⟩
        exact ⟨b, List.mem_append.2 (.inr (List.mem_append.2 (.inl hb))), hsub2 _ _ hr⟩
end Knot

namespace Knot

/-! ### The pairs of segments at a point; the links between two columns -/

/-- The segment at a point in a direction. -/
def sg (p : Pan) (x y dx dy : Int) : Int := segI p ⟨x, y, dx, dy⟩
/-- The pairs of segments that are joined at a point. -/
def pairsP (p : Pan) (x y : Int) : List (Int × Int) :=
  if x = 0 then [(sg p x y 1 (-1), sg p x y 1 1)]
  else if x = 2 * p.W then [(sg p x y (-1) (-1), sg p x y (-1) 1)]
  else if y = 0 then [(sg p x y (-1) 1, sg p x y 1 1)]
  else if y = 2 * p.H then [(sg p x y (-1) (-1), sg p x y 1 (-1))]
  else if brk p x y = 1 then [(sg p x y (-1) (-1), sg p x y (-1) 1), (sg p x y 1 (-1), sg p x y 1 1)]
  else if brk p x y = 2 then [(sg p x y (-1) (-1), sg p x y 1 (-1)), (sg p x y (-1) 1, sg p x y 1 1)]
  else [(sg p x y (-1) (-1), sg p x y 1 1), (sg p x y 1 (-1), sg p x y (-1) 1)]

/-- The row of a segment of the column left (below 2H) or right of the points with an X. -/
def rowL (p : Pan) (i : Int) : Int := if i < 2 * p.H then i else i - 2 * p.H
/-- The Y of its point. -/
def ptL (p : Pan) (X i : Int) : Int := if (X + rowL p i) % 2 = 1 then rowL p i else rowL p i + 1
/-- The other row at that point. -/
def othL (p : Pan) (X i : Int) : Int := if (X + rowL p i) % 2 = 1 then rowL p i - 1 else rowL p i + 1
/-- To which segment it is joined there. -/
def linkA (p : Pan) (X i : Int) : Int :=
  if ptL p X i = 0 ∨ ptL p X i = 2 * p.H ∨ brk p X (ptL p X i) = 2 then (if i < 2 * p.H then 2 * p.H + rowL p i else rowL p i)
  else if brk p X (ptL p X i) = 1 then (if i < 2 * p.H then othL p X i else 2 * p.H + othL p X i)
  else (if i < 2 * p.H then 2 * p.H + othL p X i else othL p X i)

section
variable {p : Pan} (hp : Ok p) {X : Int} (hX : 0 < X ∧ X < 2 * p.W)

theorem linkA_rng {i : Int} (h0 : 0 ≤ i) (h1 : i < 4 * p.H) : 0 ≤ linkA p X i ∧ linkA p X i < 4 * p.H ∧ linkA p X i ≠ i := by
  unfold linkA othL ptL rowL
  generalize brk p X _ = k
  split <;> split <;> (try split) <;> (try split) <;> (try split) <;> omega

theorem linkA_pt {i : Int} (h0 : 0 ≤ i) (h1 : i < 4 * p.H) : ptL p X (linkA p X i) = ptL p X i := by
  have e : ∀ k, linkA p X i = (if ptL p X i = 0 ∨ ptL p X i = 2 * p.H ∨ brk p X (ptL p X i) = 2 then (if i < 2 * p.H then 2 * p.H + rowL p i else rowL p i)
    else if brk p X (ptL p X i) = 1 then (if i < 2 * p.H then othL p X i else 2 * p.H + othL p X i)
    else (if i < 2 * p.H then 2 * p.H + othL p X i else othL p X i)) → k = brk p X (ptL p X i) → ptL p X (linkA p X i) = ptL p X i := by
    intro k hk _
    rw [hk]
    generalize brk p X (ptL p X i) = b
    unfold othL ptL rowL
    by_cases hi : i < 2 * p.H
    · simp only [if_pos hi]
      split <;> (try split) <;> (try split) <;> (try split) <;> (try split) <;> omega
    · simp only [if_neg hi]
      split <;> (try split) <;> (try split) <;> (try split) <;> (try split) <;> omega
  exact e _ rfl rfl

theorem linkA_inv {i : Int} (h0 : 0 ≤ i) (h1 : i < 4 * p.H) : linkA p X (linkA p X i) = i := by
  have hpt := linkA_pt (p := p) (X := X) h0 h1
  have hr := linkA_rng (p := p) (X := X) h0 h1
  generalize hj : linkA p X i = j at *
  unfold linkA at hj ⊢
  rw [hpt]
  have hpi : ptL p X i = (if (X + rowL p i) % 2 = 1 then rowL p i else rowL p i + 1) := rfl
  have hpj : ptL p X j = (if (X + rowL p j) % 2 = 1 then rowL p j else rowL p j + 1) := rfl
  rw [hpt] at hpj
  generalize brk p X (ptL p X i) = b at *
  generalize ptL p X i = y at *
  unfold othL rowL at *
  by_cases hi : i < 2 * p.H
  · simp only [if_pos hi] at *
    split at hj
    · rename_i hc
      rw [if_pos hc]
      subst hj
      rw [if_neg (by omega), if_neg (by omega)]
      omega
    · rename_i hc
      rw [if_neg hc]
      split at hj
      · rename_i hc2
        rw [if_pos hc2]
        have hj2 : j < 2 * p.H := by split at hj <;> split at hpi <;> omega
        simp only [if_pos hj2] at *
        split at hj <;> split <;> split at hpi <;> split at hpj <;> omega
      · rename_i hc2
        rw [if_neg hc2]
        have hj2 : ¬ j < 2 * p.H := by split at hj <;> split at hpi <;> omega
        simp only [if_neg hj2] at *
        split at hj <;> split <;> split at hpi <;> split at hpj <;> omega
  · simp only [if_neg hi] at *
    split at hj
    · rename_i hc
      rw [if_pos hc]
      subst hj
      rw [if_pos (by omega), if_pos (by omega)]
      omega
    · rename_i hc
      rw [if_neg hc]
      split at hj
      · rename_i hc2
        rw [if_pos hc2]
        have hj2 : ¬ j < 2 * p.H := by split at hj <;> split at hpi <;> omega
        simp only [if_neg hj2] at *
        split at hj <;> split <;> split at hpi <;> split at hpj <;> omega
      · rename_i hc2
        rw [if_neg hc2]
        have hj2 : j < 2 * p.H := by split at hj <;> split at hpi <;> omega
        simp only [if_pos hj2] at *
        split at hj <;> split <;> split at hpi <;> split at hpj <;> omega
end

/-- The links as a list: first the left column, then the right one. -/
def links (p : Pan) (X : Int) : List Int := (List.range (2 * (2 * p.H).toNat)).map fun i : Nat => linkA p X i
/-- The same, first the right column. -/
def linksR (p : Pan) (X : Int) : List Int := (List.range (2 * (2 * p.H).toNat)).map fun i : Nat => if linkA p X (if (i : Int) < 2 * p.H then (i : Int) + 2 * p.H else (i : Int) - 2 * p.H) < 2 * p.H
  then linkA p X (if (i : Int) < 2 * p.H then (i : Int) + 2 * p.H else (i : Int) - 2 * p.H) + 2 * p.H else linkA p X (if (i : Int) < 2 * p.H then (i : Int) + 2 * p.H else (i : Int) - 2 * p.H) - 2 * p.H
def swp (p : Pan) (i : Int) : Int := if i < 2 * p.H then i + 2 * p.H else i - 2 * p.H
theorem links_get {p : Pan} {X i : Int} (h0 : 0 ≤ i) (h1 : i < 4 * p.H) : gI (links p X) i = linkA p X i := by
  obtain ⟨k, rfl⟩ := Int.eq_ofNat_of_zero_le h0
  have hk : k < 2 * (2 * p.H).toNat := by omega
  unfold links gI
  simp [List.getD, hk]
theorem linksR_get {p : Pan} {X i : Int} (h0 : 0 ≤ i) (h1 : i < 4 * p.H) : gI (linksR p X) i = swp p (linkA p X (swp p i)) := by
  obtain ⟨k, rfl⟩ := Int.eq_ofNat_of_zero_le h0
  have hk : k < 2 * (2 * p.H).toNat := by omega
  unfold linksR gI swp
  simp [List.getD, hk]
theorem swp_swp {p : Pan} {i : Int} (h0 : 0 ≤ i) (h1 : i < 4 * p.H) : swp p (swp p i) = i ∧ 0 ≤ swp p i ∧ swp p i < 4 * p.H := by
  unfold swp
  split <;> split <;> omega
theorem links_pair {p : Pan} (hH : 1 ≤ p.H) (X : Int) : Pairing (2 * (2 * p.H).toNat) (links p X) := by
  refine ⟨by simp [links], fun i h0 h1 => ?_, fun i h0 h1 => ?_, fun i h0 h1 => ?_, fun i h0 h1 => ?_⟩ <;>
    have hr := linkA_rng (p := p) (X := X) h0 (show i < 4 * p.H by omega) <;> rw [links_get h0 (by omega)]
  · exact hr.1
  · omega
  · exact hr.2.2
  · rw [links_get hr.1 hr.2.1]
    exact linkA_inv h0 (by omega)
theorem linksR_pair {p : Pan} (hH : 1 ≤ p.H) (X : Int) : Pairing (2 * (2 * p.H).toNat) (linksR p X) := by
  refine ⟨by simp [linksR], fun i h0 h1 => ?_, fun i h0 h1 => ?_, fun i h0 h1 => ?_, fun i h0 h1 => ?_⟩ <;>
    obtain ⟨s1, s2, s3⟩ := swp_swp (p := p) h0 (show i < 4 * p.H by omega) <;>
    have hr := linkA_rng (p := p) (X := X) s2 s3 <;> obtain ⟨t1, t2, t3⟩ := swp_swp (p := p) hr.1 hr.2.1 <;> rw [linksR_get h0 (by omega)]
  · exact t2
  · omega
  · intro e
    rw [e] at t1
    exact hr.2.2 t1.symm
  · rw [linksR_get t2 t3, t1, linkA_inv s2 s3, s1]

section
variable {p : Pan} (hp : Ok p) {X : Int} (hX : 0 < X ∧ X < 2 * p.W)
include hp hX

omit hp in
theorem step_over {s dy y : Int} (hs : s = 1 ∨ s = -1) (hdy : dy = 1 ∨ dy = -1) :
    segI p ⟨X - s, y - dy, s, dy⟩ = (if s = 1 then X - 1 else X) * (2 * p.H) + min (y - dy) y ∧
    segI p (stepW p ⟨X - s, y - dy, s, dy⟩) = (if brk p X y = 1 then (if s = 1 then X - 1 else X) else (if s = 1 then X else X - 1)) * (2 * p.H) + min y (y + if y = 0 ∨ y = 2 * p.H ∨ brk p X y = 2 then -dy else dy) := by
  have e1 : X - s + s = X := by omega
  have e2 : y - dy + dy = y := by omega
  constructor
  · unfold segI
    simp only [e1, e2]
    congr 2
    split <;> omega
  · unfold segI stepW
    simp only [e1, e2]
    have e3 : (X = 0 ∨ X = 2 * p.W ∨ brk p X y = 1) ↔ brk p X y = 1 := by omega
    simp only [e3]
    congr 2
    split <;> split <;> omega

/-- A step over a point between two columns. -/
theorem link_step {i : Int} (h0 : 0 ≤ i) (h1 : i < 4 * p.H) :
    ∃ w, OkW p w ∧ segI p w = (X - 1) * (2 * p.H) + i ∧ segI p (stepW p w) = (X - 1) * (2 * p.H) + linkA p X i ∧ w.X + w.dx = X := by
  have hH := hp.h1
  have hXX : X * (2 * p.H) = (X - 1) * (2 * p.H) + 2 * p.H := by rw [Int.sub_mul]; omega
  obtain ⟨r, hr⟩ : ∃ r, r = rowL p i := ⟨_, rfl⟩
  obtain ⟨y, hy⟩ : ∃ y, y = ptL p X i := ⟨_, rfl⟩
  obtain ⟨o, ho⟩ : ∃ o, o = othL p X i := ⟨_, rfl⟩
  obtain ⟨dy, hdy⟩ : ∃ dy : Int, dy = if (X + r) % 2 = 1 then -1 else 1 := ⟨_, rfl⟩
  obtain ⟨s, hs⟩ : ∃ s : Int, s = if i < 2 * p.H then 1 else -1 := ⟨_, rfl⟩
  have hlk : linkA p X i = (if y = 0 ∨ y = 2 * p.H ∨ brk p X y = 2 then (if i < 2 * p.H then 2 * p.H + r else r)
    else if brk p X y = 1 then (if i < 2 * p.H then o else 2 * p.H + o) else (if i < 2 * p.H then 2 * p.H + o else o)) := by
    rw [hr, hy, ho]; rfl
  have hr' : r = if i < 2 * p.H then i else i - 2 * p.H := hr
  have hy' : y = if (X + r) % 2 = 1 then r else r + 1 := by rw [hy, hr]; rfl
  have ho' : o = if (X + r) % 2 = 1 then r - 1 else r + 1 := by rw [ho, hr]; rfl
  have hdy2 : dy = 1 ∨ dy = -1 := by split at hdy <;> omega
  have hs2 : s = 1 ∨ s = -1 := by split at hs <;> omega
  have hrb : 0 ≤ r ∧ r < 2 * p.H := by split at hr' <;> omega
  have hedge : y = 0 ∨ y = 2 * p.H → brk p X y = 0 := by
    intro h
    unfold brk
    rw [if_pos]
    unfold Edge
    omega
  obtain ⟨e1, e2⟩ := step_over (p := p) hX (y := y) hs2 hdy2
  refine ⟨⟨X - s, y - dy, s, dy⟩, okW_mk hs2 hdy2 ⟨by omega, by omega, ?_, ?_, ?_⟩ ⟨?_, ?_, ?_, ?_, ?_⟩, ?_, ?_, by show X - s + s = X; omega⟩
  · split at hy' <;> split at hdy <;> omega
  · split at hy' <;> split at hdy <;> omega
  · split at hy' <;> split at hdy <;> omega
  · omega
  · omega
  · split at hy' <;> split at hdy <;> omega
  · split at hy' <;> split at hdy <;> omega
  · split at hy' <;> split at hdy <;> omega
  · rw [e1]
    have hm : min (y - dy) y = r := by split at hy' <;> split at hdy <;> omega
    rw [hm]
    by_cases hi : i < 2 * p.H
    · rw [if_pos hi] at hs hr'
      rw [if_pos hs, hr']
    · rw [if_neg hi] at hs hr'
      rw [if_neg (by omega), hXX, hr']
      omega
  · rw [e2, hlk]
    generalize hb : brk p X y = b at *
    have m1 : min y (y + -dy) = r := by split at hy' <;> split at hdy <;> omega
    have m2 : min y (y + dy) = o := by split at hy' <;> split at hdy <;> split at ho' <;> omega
    by_cases hi : i < 2 * p.H
    · rw [if_pos hi] at hs
      simp only [if_pos hi, if_pos hs]
      by_cases hc : y = 0 ∨ y = 2 * p.H ∨ b = 2
      · rw [if_pos hc, if_pos hc, m1, if_neg (by omega), hXX]; omega
      · rw [if_neg hc, if_neg hc, m2]
        split
        · rfl
        · rw [hXX]; omega
    · rw [if_neg hi] at hs
      simp only [if_neg hi, if_neg (show ¬ s = 1 by omega)]
      by_cases hc : y = 0 ∨ y = 2 * p.H ∨ b = 2
      · rw [if_pos hc, if_pos hc, m1, if_neg (by omega)]
      · rw [if_neg hc, if_neg hc, m2]
        split
        · rw [hXX]; omega
        · rfl

/-- Every step over a point between two columns is a link. -/
theorem step_link {w : Wk} (h : OkW p w) (hw : w.X + w.dx = X) :
    ∃ i, 0 ≤ i ∧ i < 4 * p.H ∧ segI p w = (X - 1) * (2 * p.H) + i ∧ segI p (stepW p w) = (X - 1) * (2 * p.H) + linkA p X i := by
  have hH := hp.h1
  have hXX : X * (2 * p.H) = (X - 1) * (2 * p.H) + 2 * p.H := by rw [Int.sub_mul]; omega
  obtain ⟨i, h0, h1, hi⟩ : ∃ i, 0 ≤ i ∧ i < 4 * p.H ∧ segI p w = (X - 1) * (2 * p.H) + i := by
    obtain ⟨x, y, dx, dy⟩ := w
    obtain ⟨d1, d2, ⟨a1, a2, a3, a4, a5⟩, ⟨b1, b2, b3, b4, b5⟩⟩ := h
    simp only [] at *
    unfold segI
    simp only []
    rcases d1 with rfl | rfl
    · refine ⟨min y (y + dy), by omega, by omega, ?_⟩
      rw [show min x (x + 1) = X - 1 by omega]
    · refine ⟨2 * p.H + min y (y + dy), by omega, by omega, ?_⟩
      rw [show min x (x + -1) = X by omega, hXX]
      omega
  refine ⟨i, h0, h1, hi, ?_⟩
  obtain ⟨v, hv, hvi, hvs, hvX⟩ := link_step hp hX h0 h1
  rcases seg_same h hv (by rw [hi, hvi]) with e | e
  · rw [e]; exact hvs
  · -- the other walker on this segment does not come to X
    exfalso
    rw [e] at hw
    have hd := hv.dx
    unfold backW at hw
    simp only [] at hw
    omega
end
end Knot

namespace Knot

/-! ### Columns: what is known from the left and from the right; together they tell the number of curves -/

def nbrK (k : Nat) : Int := if k % 2 = 0 then (k : Int) + 1 else (k : Int) - 1
def nbrsK (n : Nat) : List Int := (List.range n).map nbrK
theorem nbrsK_get {n : Nat} {i : Int} (h0 : 0 ≤ i) (h1 : i < n) : gI (nbrsK n) i = if i % 2 = 0 then i + 1 else i - 1 := by
  obtain ⟨k, rfl⟩ := Int.eq_ofNat_of_zero_le h0
  have hk : k < n := by omega
  unfold nbrsK gI
  simp [List.getD, hk]
  unfold nbrK
  split <;> split <;> omega
theorem nbrsK_pair {n : Nat} (hn : n % 2 = 0) : Pairing n (nbrsK n) := by
  refine ⟨by simp [nbrsK], fun i h0 h1 => ?_, fun i h0 h1 => ?_, fun i h0 h1 => ?_, fun i h0 h1 => ?_⟩ <;> rw [nbrsK_get h0 h1]
  · split <;> omega
  · split <;> omega
  · split <;> omega
  · split
    · rw [nbrsK_get (by omega) (by omega), if_neg (by omega)]; omega
    · rw [nbrsK_get (by omega) (by omega), if_pos (by omega)]; omega

def colN (p : Pan) : Nat := (2 * p.H).toNat
/-- What is known at a column from the left. -/
def colL (p : Pan) : Nat → List Int × Int
  | 0 => (nbrsK (colN p), 0)
  | x + 1 => ((pass (colL p x).1 (links p ((x : Int) + 1)) (colN p)).1, (colL p x).2 + (pass (colL p x).1 (links p ((x : Int) + 1)) (colN p)).2)
/-- What is known from the right, k columns from the last. -/
def colR (p : Pan) : Nat → List Int × Int
  | 0 => (nbrsK (colN p), 0)
  | k + 1 => ((pass (colR p k).1 (linksR p (2 * p.W - 1 - k)) (colN p)).1, (colR p k).2 + (pass (colR p k).1 (linksR p (2 * p.W - 1 - k)) (colN p)).2)

/-- Joined by steps over points with certain X. -/
inductive Jt (p : Pan) (T : Int → Prop) : Nat → Nat → Prop
  | refl {a : Nat} (h : a < segN p) : Jt p T a a
  | step {a : Nat} {w : Wk} (h : Jt p T a (segI p w).toNat) (hw : OkW p w) (ht : T (w.X + w.dx)) : Jt p T a (segI p (stepW p w)).toNat

section
variable {p : Pan} (hp : Ok p)

theorem seg_nat {w : Wk} (h : OkW p w) : ((segI p w).toNat : Int) = segI p w := by
  have := seg_bounds h
  omega
include hp
theorem Jt.lt {T : Int → Prop} {a b : Nat} (h : Jt p T a b) : a < segN p ∧ b < segN p := by
  induction h with
  | refl h => exact ⟨h, h⟩
  | step h hw ht ih => exact ⟨ih.1, seg_lt hp (hw.step hp)⟩
omit hp in
theorem Jt.trans {T : Int → Prop} {a b c : Nat} (h : Jt p T a b) (k : Jt p T b c) : Jt p T a c := by
  induction k with
  | refl _ => exact h
  | step k hw ht ih => exact .step ih hw ht
theorem Jt.one {T : Int → Prop} {w : Wk} (hw : OkW p w) (ht : T (w.X + w.dx)) : Jt p T (segI p w).toNat (segI p (stepW p w)).toNat := .step (.refl (seg_lt hp hw)) hw ht
theorem Jt.symm {T : Int → Prop} {a b : Nat} (h : Jt p T a b) : Jt p T b a := by
  induction h with
  | refl h => exact .refl h
  | @step w h hw ht ih =>
    have hs := hw.step hp
    have h1 := Jt.one hp (T := T) hs.back (by
      show T ((stepW p w).X + (stepW p w).dx + -(stepW p w).dx)
      rw [show (stepW p w).X + (stepW p w).dx + -(stepW p w).dx = w.X + w.dx by
        show w.X + w.dx + _ + -_ = _
        omega]
      exact ht)
    rw [step_back_step, seg_back, seg_back] at h1
    exact h1.trans ih
omit hp in
theorem Jt.min {T : Int → Prop} {Q : Nat → Prop} (hQ : ∀ w, OkW p w → T (w.X + w.dx) → Q (segI p w).toNat → Q (segI p (stepW p w)).toNat) {a b : Nat} (h : Jt p T a b) (ha : Q a) : Q b := by
  induction h with
  | refl _ => exact ha
  | step h hw ht ih => exact hQ _ hw ht ih
theorem Jt.on {T : Int → Prop} {a b : Nat} (h : Jt p T a b) : On p hp a b := by
  induction h with
  | refl h => exact On.refl hp h
  | step h hw ht ih => exact ih.trans hp (On.step hp hw)

omit hp in
/-- The column of a segment beside a point. -/
theorem seg_col {w : Wk} (h : OkW p w) : ∃ c r, (c = w.X + w.dx - 1 ∨ c = w.X + w.dx) ∧ 0 ≤ c ∧ c < 2 * p.W ∧ 0 ≤ r ∧ r < 2 * p.H ∧ segI p w = c * (2 * p.H) + r := by
  obtain ⟨d1, d2, ⟨a1, a2, a3, a4, a5⟩, ⟨b1, b2, b3, b4, b5⟩⟩ := h
  exact ⟨min w.X (w.X + w.dx), min w.Y (w.Y + w.dy), by omega, by omega, by omega, by omega, by omega, rfl⟩
theorem seg_col' {w : Wk} (h : OkW p w) : ∃ c r, (c = w.X + w.dx - 1 ∨ c = w.X + w.dx) ∧ 0 ≤ c ∧ c < 2 * p.W ∧ 0 ≤ r ∧ r < 2 * p.H ∧ segI p (stepW p w) = c * (2 * p.H) + r := by
  obtain ⟨d1, d2, ⟨a1, a2, a3, a4, a5⟩, ⟨b1, b2, b3, b4, b5⟩⟩ := h.step hp
  have hX : (stepW p w).X = w.X + w.dx := rfl
  exact ⟨min (stepW p w).X ((stepW p w).X + (stepW p w).dx), min (stepW p w).Y ((stepW p w).Y + (stepW p w).dy), by omega, by omega, by omega, by omega, by omega, rfl⟩

omit hp in
theorem col_lt {c r X n : Int} (hn : 0 < n) (hr : 0 ≤ r) (hr2 : r < n) : c * n + r < X * n ↔ c < X := by
  constructor
  · intro h
    apply Classical.byContradiction
    intro hc
    have := Int.mul_le_mul_of_nonneg_right (show X ≤ c by omega) (show 0 ≤ n by omega)
    omega
  · intro h
    exact lin_lt h hr2 hn

theorem segN_int : (segN p : Int) = 2 * p.W * (2 * p.H) := by
  have h1 := hp.w1
  have h2 := hp.h1
  have h : 0 ≤ 2 * p.W * (2 * p.H) := Int.mul_nonneg (by omega) (by omega)
  have e : 4 * p.W * p.H = 2 * p.W * (2 * p.H) := by rw [Int.mul_assoc 2, Int.mul_left_comm p.W, ← Int.mul_assoc 2 2, Int.mul_assoc 4]; rfl
  show ((4 * p.W * p.H).toNat : Int) = _
  rw [e]
  omega

/-- The pairs at the left and right border. -/
theorem border_step {w : Wk} (h : OkW p w) (hw : w.X + w.dx = 0 ∨ w.X + w.dx = 2 * p.W) :
    ∃ c r : Int, 0 ≤ r ∧ r < 2 * p.H ∧ (c = 0 ∧ w.X + w.dx = 0 ∨ c = 2 * p.W - 1 ∧ w.X + w.dx = 2 * p.W) ∧ segI p w = c * (2 * p.H) + r ∧ segI p (stepW p w) = c * (2 * p.H) + (if r % 2 = 0 then r + 1 else r - 1) := by
  have w1 := hp.w1
  obtain ⟨x, y, dx, dy⟩ := w
  obtain ⟨d1, d2, ⟨a1, a2, a3, a4, a5⟩, ⟨b1, b2, b3, b4, b5⟩⟩ := h
  simp only [] at *
  have hk : brk p (x + dx) (y + dy) = 0 := by
    unfold brk
    rw [if_pos]
    unfold Edge
    omega
  unfold segI stepW
  simp only []
  rw [hk, if_pos (by omega), if_neg (by omega)]
  refine ⟨min x (x + dx), min y (y + dy), by omega, by omega, by omega, rfl, ?_⟩
  congr 1
  · congr 1; omega
  · split <;> omega
theorem border_on {x : Int} (hx : x = 0 ∨ x = 2 * p.W) {r : Int} (r0 : 0 ≤ r) (r1 : r < 2 * p.H) :
    ∃ w, OkW p w ∧ w.X + w.dx = x ∧ segI p w = (if x = 0 then 0 else 2 * p.W - 1) * (2 * p.H) + r ∧ segI p (stepW p w) = (if x = 0 then 0 else 2 * p.W - 1) * (2 * p.H) + (if r % 2 = 0 then r + 1 else r - 1) := by
  have w1 := hp.w1
  obtain ⟨s, hs⟩ : ∃ s : Int, s = if x = 0 then -1 else 1 := ⟨_, rfl⟩
  obtain ⟨dy, hdy⟩ : ∃ dy : Int, dy = if r % 2 = 0 then 1 else -1 := ⟨_, rfl⟩
  have hs2 : s = 1 ∨ s = -1 := by split at hs <;> omega
  have hdy2 : dy = 1 ∨ dy = -1 := by split at hdy <;> omega
  obtain ⟨y, hy⟩ : ∃ y : Int, y = if r % 2 = 0 then r else r + 1 := ⟨_, rfl⟩
  have hk : OkW p ⟨x - s, y, s, dy⟩ := okW_mk hs2 hdy2 ⟨by split at hs <;> omega, by split at hs <;> omega, by split at hy <;> omega, by split at hy <;> omega, by split at hs <;> split at hy <;> omega⟩
    ⟨by omega, by omega, by split at hy <;> split at hdy <;> omega, by split at hy <;> split at hdy <;> omega, by split at hy <;> split at hdy <;> omega⟩
  obtain ⟨c, q, q0, q1, hc, h1, h2⟩ := border_step hp hk (by show x - s + s = 0 ∨ x - s + s = _; omega)
  have hq : q = r ∧ c = (if x = 0 then 0 else 2 * p.W - 1) := by
    have hcc : c = (if x = 0 then 0 else 2 * p.W - 1) := by
      have : (c = 0 ∧ x - s + s = 0 ∨ c = 2 * p.W - 1 ∧ x - s + s = 2 * p.W) := hc
      split <;> omega
    have h3 : segI p ⟨x - s, y, s, dy⟩ = (if x = 0 then 0 else 2 * p.W - 1) * (2 * p.H) + r := by
      unfold segI
      simp only []
      congr 1
      · congr 1
        split at hs <;> split <;> omega
      · split at hy <;> split at hdy <;> omega
    rw [h1, hcc] at h3
    exact ⟨by omega, hcc⟩
  rw [hq.1, hq.2] at h1 h2
  exact ⟨_, hk, by show x - s + s = x; omega, h1, h2⟩

theorem sideL : ∀ x : Nat, (x : Int) < 2 * p.W → Side (fun a => (a : Int) < ((x : Int) + 1) * (2 * p.H)) (fun a b => (a : Int) < ((x : Int) + 1) * (2 * p.H) ∧ Jt p (fun q => q < (x : Int) + 1) a b)
    (fun i => ((x : Int) * (2 * p.H)).toNat + i) (colN p) (colL p x).1 (colL p x).2 := by
  have w1 := hp.w1
  have h1 := hp.h1
  have hn : (colN p : Int) = 2 * p.H := by unfold colN; omega
  have hN := segN_int hp
  -- domains
  have dom : ∀ (x : Nat) (a b : Nat), (a : Int) < ((x : Int) + 1) * (2 * p.H) → Jt p (fun q => q < (x : Int) + 1) a b → (b : Int) < ((x : Int) + 1) * (2 * p.H) := by
    intro x a b ha h
    refine h.min (Q := fun b => (b : Int) < ((x : Int) + 1) * (2 * p.H)) (fun w hw ht _ => ?_) ha
    obtain ⟨c, r, hc, c0, c1, r0, r1, e⟩ := seg_col' hp hw
    rw [seg_nat (hw.step hp), e, col_lt (by omega) r0 r1]
    omega
  have lt : ∀ (x : Nat) (a : Nat), (x : Int) < 2 * p.W → (a : Int) < ((x : Int) + 1) * (2 * p.H) → a < segN p := by
    intro x a hx ha
    have : ((x : Int) + 1) * (2 * p.H) ≤ 2 * p.W * (2 * p.H) := Int.mul_le_mul_of_nonneg_right (by omega) (by omega)
    omega
  have colv : ∀ (x i : Nat), i < colN p → ((((x : Int) * (2 * p.H)).toNat + i : Nat) : Int) = (x : Int) * (2 * p.H) + i := by
    intro x i hi
    have : 0 ≤ (x : Int) * (2 * p.H) := Int.mul_nonneg (by omega) (by omega)
    omega
  have mul1 : ∀ x : Nat, ((x : Int) + 1) * (2 * p.H) = (x : Int) * (2 * p.H) + 2 * p.H := fun x => by rw [Int.add_mul]; omega
  intro x
  induction x with
  | zero =>
    intro hx
    refine ⟨nbrsK_pair (by unfold colN; omega), fun a ha => ⟨ha, .refl (lt 0 a hx ha)⟩, fun a b h => ⟨dom 0 a b h.1 h.2, h.2.symm hp⟩, fun a b d h k => ⟨h.1, h.2.trans k.2⟩, fun a b h => ⟨h.1, dom 0 a b h.1 h.2⟩, fun i hi => ?_, fun i j hi hj e => by omega, fun i j hi hj => ?_, ⟨[], rfl, by simp, by simp, ?_⟩⟩
    · rw [colv 0 i hi, mul1]; omega
    · have hcol : ∀ i : Nat, i < colN p → (((((0 : Nat) : Int) * (2 * p.H)).toNat + i : Nat)) = i := fun i hi => by
        have : ((0 : Nat) : Int) * (2 * p.H) = 0 := by simp
        rw [this]; omega
      show (_ ∧ Jt p _ _ _) ↔ _
      rw [hcol i hi, hcol j hj]
      have hgi := nbrsK_get (n := colN p) (i := (i : Int)) (by omega) (by omega)
      show _ ↔ (j : Int) = i ∨ (j : Int) = gI (nbrsK (colN p)) i
      rw [hgi]
      constructor
      · rintro ⟨_, h⟩
        refine h.min (Q := fun b => (b : Int) = i ∨ (b : Int) = if (i : Int) % 2 = 0 then (i : Int) + 1 else (i : Int) - 1) (fun w hw ht hq => ?_) (.inl rfl)
        have hX : w.X + w.dx = 0 := by
          have h3 := hw.there.1
          have ht' : w.X + w.dx < ((0 : Nat) : Int) + 1 := ht
          omega
        obtain ⟨c, r, r0, r1, hc, e1, e2⟩ := border_step hp hw (.inl hX)
        obtain rfl : c = 0 := by omega
        rw [Int.zero_mul, Int.zero_add] at e1 e2
        rw [seg_nat hw, e1] at hq
        rw [seg_nat (hw.step hp), e2]
        split at hq <;> split <;> (try split) <;> omega
      · intro h
        refine ⟨by rw [mul1]; omega, ?_⟩
        rcases h with h | h
        · obtain rfl : j = i := by omega
          exact .refl (lt 0 _ hx (by rw [mul1]; omega))
        · obtain ⟨w, hw, hX, e1, e2⟩ := border_on hp (.inl rfl) (r := (i : Int)) (by omega) (by omega)
          rw [if_pos rfl, Int.zero_mul, Int.zero_add] at e1 e2
          have := Jt.one hp (T := fun q => q < ((0 : Nat) : Int) + 1) hw (by omega)
          rw [e1, e2, ← h] at this
          exact this
    · rintro a ⟨ha, hn'⟩
      exfalso
      have ha' : (a : Int) < (((0 : Nat) : Int) + 1) * (2 * p.H) := ha
      rw [mul1] at ha'
      have e : ((((0 : Nat) : Int) * (2 * p.H)).toNat + a) = a := by
        have : ((0 : Nat) : Int) * (2 * p.H) = 0 := by simp
        rw [this]; omega
      refine hn' a (by have : ((0 : Nat) : Int) * (2 * p.H) = 0 := by simp
                       omega) ⟨ha, ?_⟩
      rw [e]
      exact .refl (lt 0 a hx ha)
  | succ x ih =>
    intro hx
    have hxx : (x : Int) < 2 * p.W := by omega
    have hX : 0 < (x : Int) + 1 ∧ (x : Int) + 1 < 2 * p.W := by omega
    have hs := ih hxx
    have nodev : ∀ q : Int, 0 ≤ q → q < ((2 * colN p : Nat) : Int) → ((node (fun i => ((x : Int) * (2 * p.H)).toNat + i) (fun i => (((x + 1 : Nat) : Int) * (2 * p.H)).toNat + i) (colN p) q : Nat) : Int) = (x : Int) * (2 * p.H) + q := by
      intro q q0 q1
      by_cases hq : q < (colN p : Int)
      · rw [node_lo hq, colv x _ (by omega)]
        omega
      · rw [node_hi hq, colv (x + 1) _ (by omega)]
        have := mul1 x
        rw [show (((x + 1 : Nat) : Int)) = (x : Int) + 1 by omega]
        omega
    refine hs.step (links_pair h1 ((x : Int) + 1)) (fun a => ?_) (fun i hi hh => ?_) (fun i j hi hj e => by omega) (fun a ha => ⟨ha, .refl (lt (x + 1) a hx ha)⟩) (fun a b h => ⟨dom (x + 1) a b h.1 h.2, h.2.symm hp⟩) (fun a b d h k => ⟨h.1, h.2.trans k.2⟩) (fun a b h => ⟨h.1, dom (x + 1) a b h.1 h.2⟩) ?_ ?_ ?_
    · constructor
      · intro ha
        by_cases hc : (a : Int) < ((x : Int) + 1) * (2 * p.H)
        · exact .inl hc
        · right
          have h2 : (a : Int) < (((x + 1 : Nat) : Int) + 1) * (2 * p.H) := ha
          rw [mul1 (x + 1)] at h2
          have e : ((x + 1 : Nat) : Int) = (x : Int) + 1 := by omega
          rw [e] at h2
          refine ⟨a - ((((x + 1 : Nat) : Int)) * (2 * p.H)).toNat, ?_, ?_⟩
          · rw [e]
            have := mul1 x
            have h0 : 0 ≤ (x : Int) * (2 * p.H) := Int.mul_nonneg (by omega) (by omega)
            omega
          · rw [e]
            have h0 : 0 ≤ (x : Int) * (2 * p.H) := Int.mul_nonneg (by omega) (by omega)
            have := mul1 x
            omega
      · rintro (h | ⟨i, hi, rfl⟩)
        · show (a : Int) < (((x + 1 : Nat) : Int) + 1) * (2 * p.H)
          rw [mul1 (x + 1), show ((x + 1 : Nat) : Int) = (x : Int) + 1 by omega]
          omega
        · show (((((x + 1 : Nat) : Int) * (2 * p.H)).toNat + i : Nat) : Int) < (((x + 1 : Nat) : Int) + 1) * (2 * p.H)
          rw [colv (x + 1) i hi, mul1 (x + 1)]
          omega
    · have hh' : (((((x + 1 : Nat) : Int) * (2 * p.H)).toNat + i : Nat) : Int) < ((x : Int) + 1) * (2 * p.H) := hh
      rw [colv (x + 1) i hi, show ((x + 1 : Nat) : Int) = (x : Int) + 1 by omega] at hh'
      omega
    · rintro a b ⟨ha, h⟩
      refine ⟨?_, ?_⟩
      · rw [mul1 (x + 1), show ((x + 1 : Nat) : Int) = (x : Int) + 1 by omega]
        omega
      · refine h.min (Q := fun b => Jt p (fun q => q < ((x + 1 : Nat) : Int) + 1) a b) (fun w hw ht hq => .step hq hw (by
          have ht' : w.X + w.dx < (x : Int) + 1 := ht
          show w.X + w.dx < ((x + 1 : Nat) : Int) + 1
          omega)) (.refl (lt x a hxx ha))
    · intro q q0 q1
      obtain ⟨w, hw, e1, e2, hwX⟩ := link_step hp hX q0 (show q < 4 * p.H by omega)
      rw [show (x : Int) + 1 - 1 = x by omega] at e1 e2
      have hr := linkA_rng (p := p) (X := (x : Int) + 1) q0 (show q < 4 * p.H by omega)
      have hv1 := nodev q q0 q1
      have hv2 := nodev (gI (links p ((x : Int) + 1)) q) (by rw [links_get q0 (by omega)]; exact hr.1) (by rw [links_get q0 (by omega)]; omega)
      rw [links_get q0 (by omega)] at hv2
      have hj := Jt.one hp (T := fun q => q < ((x + 1 : Nat) : Int) + 1) hw (by omega)
      have f1 := seg_nat hw
      have f2 := seg_nat (hw.step hp)
      rw [e1] at f1
      rw [e2] at f2
      have g1 : (segI p w).toNat = node (fun i => ((x : Int) * (2 * p.H)).toNat + i) (fun i => (((x + 1 : Nat) : Int) * (2 * p.H)).toNat + i) (colN p) q := by omega
      have g2 : (segI p (stepW p w)).toNat = node (fun i => ((x : Int) * (2 * p.H)).toNat + i) (fun i => (((x + 1 : Nat) : Int) * (2 * p.H)).toNat + i) (colN p) (gI (links p ((x : Int) + 1)) q) := by
        rw [links_get q0 (by omega)]; omega
      rw [g1, g2] at hj
      refine ⟨?_, hj⟩
      rw [hv1, mul1 (x + 1), show ((x + 1 : Nat) : Int) = (x : Int) + 1 by omega, mul1 x]
      omega
    · intro Q hQR hQL a b hab hQa
      refine hab.2.min (Q := Q) (fun w hw ht hq => ?_) hQa
      have ht' : w.X + w.dx < ((x + 1 : Nat) : Int) + 1 := ht
      by_cases hc : w.X + w.dx < (x : Int) + 1
      · refine hQR _ _ ⟨?_, Jt.one hp (T := fun q => q < (x : Int) + 1) hw hc⟩ hq
        obtain ⟨c, r, hcc, c0, c1, r0, r1, e⟩ := seg_col hw
        rw [seg_nat hw, e, col_lt (by omega) r0 r1]
        omega
      · obtain ⟨i, i0, i1, e1, e2⟩ := step_link hp hX hw (by omega)
        rw [show (x : Int) + 1 - 1 = x by omega] at e1 e2
        have hv1 := nodev i i0 (by omega)
        have hr := linkA_rng (p := p) (X := (x : Int) + 1) i0 i1
        have hv2 := nodev (gI (links p ((x : Int) + 1)) i) (by rw [links_get i0 i1]; exact hr.1) (by rw [links_get i0 i1]; omega)
        have f1 := seg_nat hw
        have f2 := seg_nat (hw.step hp)
        rw [e1] at f1
        rw [e2] at f2
        rw [links_get i0 i1] at hv2
        have := hQL i i0 (by omega) (by
          rw [show node (fun i => ((x : Int) * (2 * p.H)).toNat + i) (fun i => (((x + 1 : Nat) : Int) * (2 * p.H)).toNat + i) (colN p) i = (segI p w).toNat by omega]
          exact hq)
        rw [links_get i0 i1] at this
        rw [show (segI p (stepW p w)).toNat = node (fun i => ((x : Int) * (2 * p.H)).toNat + i) (fun i => (((x + 1 : Nat) : Int) * (2 * p.H)).toNat + i) (colN p) (linkA p ((x : Int) + 1) i) by omega]
        exact this

/-- The column of which much is known from the right, k columns from the last. -/
def colX (p : Pan) (k : Nat) : Int := 2 * p.W - 1 - k

theorem sideR : ∀ k : Nat, 0 ≤ colX p k → Side (fun a => a < segN p ∧ colX p k * (2 * p.H) ≤ (a : Int)) (fun a b => colX p k * (2 * p.H) ≤ (a : Int) ∧ Jt p (fun q => colX p k < q) a b)
    (fun i => (colX p k * (2 * p.H)).toNat + i) (colN p) (colR p k).1 (colR p k).2 := by
  have w1 := hp.w1
  have h1 := hp.h1
  have hn : (colN p : Int) = 2 * p.H := by unfold colN; omega
  have hN := segN_int hp
  have dom : ∀ (x : Int) (a b : Nat), 0 ≤ x → x * (2 * p.H) ≤ (a : Int) → Jt p (fun q => x < q) a b → x * (2 * p.H) ≤ (b : Int) := by
    intro x a b hx ha h
    refine h.min (Q := fun b => x * (2 * p.H) ≤ (b : Int)) (fun w hw ht _ => ?_) ha
    obtain ⟨c, r, hc, c0, c1, r0, r1, e⟩ := seg_col' hp hw
    rw [seg_nat (hw.step hp), e]
    have ht' : x < w.X + w.dx := ht
    have := Int.mul_le_mul_of_nonneg_right (show x ≤ c by omega) (show 0 ≤ 2 * p.H by omega)
    omega
  have colv : ∀ (x : Int) (i : Nat), 0 ≤ x → (((x * (2 * p.H)).toNat + i : Nat) : Int) = x * (2 * p.H) + i := by
    intro x i hx
    have : 0 ≤ x * (2 * p.H) := Int.mul_nonneg hx (by omega)
    omega
  have mul1 : ∀ x : Int, (x + 1) * (2 * p.H) = x * (2 * p.H) + 2 * p.H := fun x => by rw [Int.add_mul]; omega
  have colt : ∀ (x : Int) (i : Nat), 0 ≤ x → x < 2 * p.W → i < colN p → x * (2 * p.H) + i < segN p := by
    intro x i hx hx2 hi
    rw [hN]
    exact lin_lt hx2 (by omega) (by omega)
  intro k
  induction k with
  | zero =>
    intro hx
    have hX : colX p 0 = 2 * p.W - 1 := by unfold colX; omega
    rw [hX] at hx ⊢
    have m2 := mul1 (2 * p.W - 1)
    rw [show 2 * p.W - 1 + 1 = 2 * p.W by omega, ← hN] at m2
    have m0 : 0 ≤ (2 * p.W - 1) * (2 * p.H) := Int.mul_nonneg hx (by omega)
    refine ⟨nbrsK_pair (by unfold colN; omega), fun a ha => ⟨ha.2, .refl ha.1⟩, fun a b h => ⟨dom _ a b hx h.1 h.2, h.2.symm hp⟩, fun a b d h k => ⟨h.1, h.2.trans k.2⟩, fun a b h => ⟨⟨(h.2.lt hp).1, h.1⟩, (h.2.lt hp).2, dom _ a b hx h.1 h.2⟩, fun i hi => ?_, fun i j hi hj e => by omega, fun i j hi hj => ?_, ⟨[], rfl, by simp, by simp, ?_⟩⟩
    · have := colv (2 * p.W - 1) i hx
      constructor <;> omega
    · have hgi := nbrsK_get (n := colN p) (i := (i : Int)) (by omega) (by omega)
      show _ ↔ (j : Int) = i ∨ (j : Int) = gI (nbrsK (colN p)) i
      rw [hgi]
      have ci := colv (2 * p.W - 1) i hx
      have cj := colv (2 * p.W - 1) j hx
      constructor
      · rintro ⟨_, h⟩
        have := h.min (Q := fun b => (b : Int) = (2 * p.W - 1) * (2 * p.H) + i ∨ (b : Int) = (2 * p.W - 1) * (2 * p.H) + if (i : Int) % 2 = 0 then (i : Int) + 1 else (i : Int) - 1) (fun w hw ht hq => ?_) (.inl ci)
        · rw [cj] at this
          split <;> split at this <;> omega
        · have hX' : w.X + w.dx = 2 * p.W := by
            have h3 := hw.there.2.1
            have ht' : 2 * p.W - 1 < w.X + w.dx := ht
            omega
          obtain ⟨c, r, r0, r1, hc, e1, e2⟩ := border_step hp hw (.inr hX')
          obtain rfl : c = 2 * p.W - 1 := by omega
          rw [seg_nat hw, e1] at hq
          rw [seg_nat (hw.step hp), e2]
          split at hq <;> split <;> (try split) <;> omega
      · intro h
        refine ⟨by omega, ?_⟩
        rcases h with h | h
        · obtain rfl : j = i := by omega
          exact .refl (by have := colt (2 * p.W - 1) j hx (by omega) hj; omega)
        · obtain ⟨w, hw, hwX, e1, e2⟩ := border_on hp (.inr rfl) (r := (i : Int)) (by omega) (by omega)
          rw [if_neg (by omega)] at e1 e2
          have hj2 := Jt.one hp (T := fun q => 2 * p.W - 1 < q) hw (by omega)
          have f1 := seg_nat hw
          have f2 := seg_nat (hw.step hp)
          rw [e1] at f1
          rw [e2] at f2
          rw [show (segI p w).toNat = ((2 * p.W - 1) * (2 * p.H)).toNat + i by omega, show (segI p (stepW p w)).toNat = ((2 * p.W - 1) * (2 * p.H)).toNat + j by split at f2 <;> split at h <;> omega] at hj2
          exact hj2
    · rintro a ⟨⟨ha, ha2⟩, hn'⟩
      exfalso
      refine hn' (a - ((2 * p.W - 1) * (2 * p.H)).toNat) (by omega) ⟨ha2, ?_⟩
      rw [show ((2 * p.W - 1) * (2 * p.H)).toNat + (a - ((2 * p.W - 1) * (2 * p.H)).toNat) = a by omega]
      exact .refl ha
  | succ k ih =>
    intro hx
    obtain ⟨x, hxe⟩ : ∃ x, x = colX p (k + 1) := ⟨_, rfl⟩
    have hk : colX p k = x + 1 := by rw [hxe]; unfold colX; omega
    have hkX : 2 * p.W - 1 - (k : Int) = x + 1 := hk
    have hs := ih (by omega)
    rw [hk] at hs
    rw [← hxe] at hx ⊢
    have hX : 0 < x + 1 ∧ x + 1 < 2 * p.W := by unfold colX at hk; omega
    have m0 : 0 ≤ x * (2 * p.H) := Int.mul_nonneg hx (by omega)
    have m1 := mul1 x
    have nodev : ∀ q : Int, 0 ≤ q → q < ((2 * colN p : Nat) : Int) → ((node (fun i => ((x + 1) * (2 * p.H)).toNat + i) (fun i => (x * (2 * p.H)).toNat + i) (colN p) q : Nat) : Int) = x * (2 * p.H) + swp p q := by
      intro q q0 q1
      unfold swp
      by_cases hq : q < (colN p : Int)
      · rw [node_lo hq, colv (x + 1) _ (by omega), if_pos (by omega)]
        omega
      · rw [node_hi hq, colv x _ hx, if_neg (by omega)]
        omega
    show Side _ _ _ _ (pass (colR p k).1 (linksR p (2 * p.W - 1 - k)) (colN p)).1 ((colR p k).2 + (pass (colR p k).1 (linksR p (2 * p.W - 1 - k)) (colN p)).2)
    rw [hkX]
    refine hs.step (linksR_pair h1 (x + 1)) (fun a => ?_) (fun i hi hh => ?_) (fun i j hi hj e => by omega) (fun a ha => ⟨ha.2, .refl ha.1⟩) (fun a b h => ⟨dom _ a b hx h.1 h.2, h.2.symm hp⟩) (fun a b d h k => ⟨h.1, h.2.trans k.2⟩) (fun a b h => ⟨⟨(h.2.lt hp).1, h.1⟩, (h.2.lt hp).2, dom _ a b hx h.1 h.2⟩) ?_ ?_ ?_
    · constructor
      · rintro ⟨ha, ha2⟩
        by_cases hc : (x + 1) * (2 * p.H) ≤ (a : Int)
        · exact .inl ⟨ha, hc⟩
        · exact .inr ⟨a - (x * (2 * p.H)).toNat, by omega, by omega⟩
      · rintro (⟨ha, ha2⟩ | ⟨i, hi, rfl⟩)
        · exact ⟨ha, by omega⟩
        · have := colt x i hx (by omega) hi
          have := colv x i hx
          exact ⟨by omega, by omega⟩
    · have := colv x i hx
      have h2 : (x + 1) * (2 * p.H) ≤ (((x * (2 * p.H)).toNat + i : Nat) : Int) := hh.2
      omega
    · rintro a b ⟨ha, h⟩
      refine ⟨by omega, ?_⟩
      refine h.min (Q := fun b => Jt p (fun q => x < q) a b) (fun w hw ht hq => .step hq hw (by
        have ht' : x + 1 < w.X + w.dx := ht
        show x < w.X + w.dx
        omega)) (.refl (h.lt hp).1)
    · intro q q0 q1
      obtain ⟨s1, s2, s3⟩ := swp_swp (p := p) q0 (show q < 4 * p.H by omega)
      obtain ⟨w, hw, e1, e2, hwX⟩ := link_step hp hX s2 s3
      rw [show x + 1 - 1 = x by omega] at e1 e2
      have hr := linkA_rng (p := p) (X := x + 1) s2 s3
      obtain ⟨t1, t2, t3⟩ := swp_swp (p := p) hr.1 hr.2.1
      have hv1 := nodev q q0 q1
      have hv2 := nodev (gI (linksR p (x + 1)) q) (by rw [linksR_get q0 (by omega)]; exact t2) (by rw [linksR_get q0 (by omega)]; omega)
      rw [linksR_get q0 (by omega)] at hv2
      rw [t1] at hv2
      have hj := Jt.one hp (T := fun q => x < q) hw (by omega)
      have f1 := seg_nat hw
      have f2 := seg_nat (hw.step hp)
      rw [e1] at f1
      rw [e2] at f2
      have g1 : (segI p w).toNat = node (fun i => ((x + 1) * (2 * p.H)).toNat + i) (fun i => (x * (2 * p.H)).toNat + i) (colN p) q := by omega
      have g2 : (segI p (stepW p w)).toNat = node (fun i => ((x + 1) * (2 * p.H)).toNat + i) (fun i => (x * (2 * p.H)).toNat + i) (colN p) (gI (linksR p (x + 1)) q) := by
        rw [linksR_get q0 (by omega)]; omega
      rw [g1, g2] at hj
      exact ⟨by omega, hj⟩
    · intro Q hQR hQL a b hab hQa
      refine hab.2.min (Q := Q) (fun w hw ht hq => ?_) hQa
      have ht' : x < w.X + w.dx := ht
      by_cases hc : x + 1 < w.X + w.dx
      · refine hQR _ _ ⟨?_, Jt.one hp (T := fun q => x + 1 < q) hw hc⟩ hq
        obtain ⟨c, r, hcc, c0, c1, r0, r1, e⟩ := seg_col hw
        rw [seg_nat hw, e]
        have := Int.mul_le_mul_of_nonneg_right (show x + 1 ≤ c by omega) (show 0 ≤ 2 * p.H by omega)
        omega
      · obtain ⟨i, i0, i1, e1, e2⟩ := step_link hp hX hw (by omega)
        rw [show x + 1 - 1 = x by omega] at e1 e2
        obtain ⟨s1, s2, s3⟩ := swp_swp (p := p) i0 i1
        have hr := linkA_rng (p := p) (X := x + 1) i0 i1
        obtain ⟨t1, t2, t3⟩ := swp_swp (p := p) hr.1 hr.2.1
        have hg := linksR_get (p := p) (X := x + 1) s2 s3
        rw [s1] at hg
        have hv1 := nodev (swp p i) s2 (by omega)
        have hv2 := nodev (gI (linksR p (x + 1)) (swp p i)) (by rw [hg]; exact t2) (by rw [hg]; omega)
        rw [s1] at hv1
        rw [hg] at hv2
        rw [t1] at hv2
        have f1 := seg_nat hw
        have f2 := seg_nat (hw.step hp)
        rw [e1] at f1
        rw [e2] at f2
        have := hQL (swp p i) s2 (by omega) (by
          rw [show node (fun i => ((x + 1) * (2 * p.H)).toNat + i) (fun i => (x * (2 * p.H)).toNat + i) (colN p) (swp p i) = (segI p w).toNat by omega]
          exact hq)
        rw [hg] at this
        rw [show (segI p (stepW p w)).toNat = node (fun i => ((x + 1) * (2 * p.H)).toNat + i) (fun i => (x * (2 * p.H)).toNat + i) (colN p) (swp p (linkA p (x + 1) i)) by omega]
        exact this

/-- At each column the curves closed on both sides and the loops between are all curves. -/
theorem columns_count {x k : Nat} (h : (x : Int) + k = 2 * p.W - 1) : (colL p x).2 + (colR p k).2 + loopsOf (colL p x).1 (colR p k).1 (colN p) = cntP p := by
  have w1 := hp.w1
  have h1 := hp.h1
  have hn : (colN p : Int) = 2 * p.H := by unfold colN; omega
  have hk : colX p k = x := by unfold colX; omega
  have hL := sideL hp x (by omega)
  have hR := sideR hp k (by omega)
  rw [hk] at hR
  have m0 : 0 ≤ (x : Int) * (2 * p.H) := Int.mul_nonneg (by omega) (by omega)
  have m1 : ((x : Int) + 1) * (2 * p.H) = (x : Int) * (2 * p.H) + 2 * p.H := by rw [Int.add_mul]; omega
  have hN := segN_int hp
  have hle : ((x : Int) + 1) * (2 * p.H) ≤ 2 * p.W * (2 * p.H) := Int.mul_le_mul_of_nonneg_right (by omega) (by omega)
  have key : ∃ reps : List Nat, (colL p x).2 + (colR p k).2 + loopsOf (colL p x).1 (colR p k).1 (colN p) = reps.length ∧ Reps (On p hp) (· < segN p) reps := by
    refine hL.meet hR (U := (· < segN p)) (Rt := On p hp) ?_ ?_ (fun a ha => On.refl hp ha) (fun a b h => h.symm hp) (fun a b d h k => h.trans hp k) (fun a b h => h.2.on hp) (fun a b h => h.2.on hp) ?_
    · intro a ha hb
      have ha' : (a : Int) < ((x : Int) + 1) * (2 * p.H) := ha
      have hb' := hb.2
      exact ⟨a - ((x : Int) * (2 * p.H)).toNat, by omega, by omega⟩
    · intro a
      constructor
      · intro ha
        by_cases hc : (a : Int) < ((x : Int) + 1) * (2 * p.H)
        · exact .inl hc
        · exact .inr ⟨ha, by omega⟩
      · rintro (h | h)
        · have h' : (a : Int) < ((x : Int) + 1) * (2 * p.H) := h
          show a < segN p
          omega
        · exact h.1
    · intro Q hQ1 hQ2 a b hab hQa
      refine hab.min hp (Q := Q) (fun w hw hq => ?_) hQa
      obtain ⟨c, r, hcc, c0, c1, r0, r1, e⟩ := seg_col hw
      by_cases hc : w.X + w.dx < (x : Int) + 1
      · refine hQ1 _ _ ⟨?_, Jt.one hp (T := fun q => q < (x : Int) + 1) hw hc⟩ hq
        rw [seg_nat hw, e, col_lt (by omega) r0 r1]
        omega
      · refine hQ2 _ _ ⟨?_, Jt.one hp (T := fun q => (x : Int) < q) hw (by omega)⟩ hq
        rw [seg_nat hw, e]
        have := Int.mul_le_mul_of_nonneg_right (show (x : Int) ≤ c by omega) (show 0 ≤ 2 * p.H by omega)
        omega
  obtain ⟨reps, e, hr⟩ := key
  rw [e, cnt_reps hp hr]
end
end Knot

namespace Knot

/-! ### The pairs at the points between two columns are the links -/

section
variable {p : Pan} (hp : Ok p) {X : Int} (hX : 0 < X ∧ X < 2 * p.W)
include hp hX

omit hp hX in
theorem sg_is (X y dy : Int) : sg p X y 1 dy = (X - 1) * (2 * p.H) + (2 * p.H + min y (y + dy)) ∧ sg p X y (-1) dy = (X - 1) * (2 * p.H) + min y (y + dy) := by
  have hXX : X * (2 * p.H) = (X - 1) * (2 * p.H) + 2 * p.H := by rw [Int.sub_mul]; omega
  constructor
  · show min X (X + 1) * (2 * p.H) + min y (y + dy) = _
    rw [show min X (X + 1) = X by omega, hXX]; omega
  · show min X (X + -1) * (2 * p.H) + min y (y + dy) = _
    rw [show min X (X + -1) = X - 1 by omega]
omit hp hX in
theorem row_pt {X i y : Int} (hy : (X + y) % 2 = 1) (h : (i < 2 * p.H ∧ (i = y ∨ i = y - 1)) ∨ (2 * p.H ≤ i ∧ (i = 2 * p.H + y ∨ i = 2 * p.H + y - 1))) :
    ptL p X i = y ∧ rowL p i = (if i < 2 * p.H then i else i - 2 * p.H) ∧ othL p X i = (if rowL p i = y then y - 1 else y) := by
  unfold ptL othL rowL
  split <;> (refine ⟨?_, rfl, ?_⟩ <;> (split <;> (try split) <;> omega))
set_option maxHeartbeats 1600000 in
/-- A pair at a point between two columns is a link. -/
theorem pairs_link {y : Int} (hh : Has p X y) {a b : Int} (hm : (a, b) ∈ pairsP p X y) :
    ∃ i, 0 ≤ i ∧ i < 4 * p.H ∧ a = (X - 1) * (2 * p.H) + i ∧ b = (X - 1) * (2 * p.H) + linkA p X i ∧ ptL p X i = y := by
  obtain ⟨_, _, y0, y1, hpar⟩ := hh
  have H1 := hp.h1
  clear hp
  unfold pairsP at hm
  rw [if_neg (by omega), if_neg (by omega)] at hm
  have key : ∀ i : Int, ((i < 2 * p.H ∧ (i = y ∨ i = y - 1)) ∨ (2 * p.H ≤ i ∧ (i = 2 * p.H + y ∨ i = 2 * p.H + y - 1))) → ptL p X i = y ∧
      linkA p X i = (if y = 0 ∨ y = 2 * p.H ∨ brk p X y = 2 then (if i < 2 * p.H then 2 * p.H + i else i - 2 * p.H)
        else if brk p X y = 1 then (if i < 2 * p.H then (if i = y then y - 1 else y) else 2 * p.H + (if i - 2 * p.H = y then y - 1 else y))
        else (if i < 2 * p.H then 2 * p.H + (if i = y then y - 1 else y) else (if i - 2 * p.H = y then y - 1 else y))) := by
    intro i hi
    obtain ⟨e1, e2, e3⟩ := row_pt hpar hi
    refine ⟨e1, ?_⟩
    unfold linkA
    rw [e1, e3, e2]
    split
    · split
      · rfl
      · rfl
    · split
      · split <;> simp_all
      · split <;> simp_all
  have ed : y = 0 ∨ y = 2 * p.H → brk p X y = 0 := by
    intro h
    unfold brk
    rw [if_pos]
    unfold Edge
    omega
  have s1 := sg_is (p := p) X y 1
  have s2 := sg_is (p := p) X y (-1)
  rw [show min y (y + 1) = y by omega] at s1
  rw [show min y (y + -1) = y - 1 by omega] at s2
  rw [s1.1, s1.2, s2.1, s2.2] at hm
  generalize brk p X y = k at *
  split at hm
  · simp only [List.mem_singleton, Prod.mk.injEq] at hm
    refine ⟨y, by omega, by omega, hm.1, ?_, (key y (by omega)).1⟩
    rw [(key y (by omega)).2, if_pos (by omega), if_pos (by omega), hm.2]
  · split at hm
    · simp only [List.mem_singleton, Prod.mk.injEq] at hm
      refine ⟨y - 1, by omega, by omega, hm.1, ?_, (key (y - 1) (by omega)).1⟩
      rw [(key (y - 1) (by omega)).2, if_pos (by omega), if_pos (by omega), hm.2]
    · split at hm
      · simp only [List.mem_cons, Prod.mk.injEq, List.not_mem_nil, or_false] at hm
        rcases hm with hm | hm
        · refine ⟨y - 1, by omega, by omega, hm.1, ?_, (key (y - 1) (by omega)).1⟩
          rw [(key (y - 1) (by omega)).2, if_neg (by omega), if_pos (by omega), if_pos (by omega), if_neg (by omega), hm.2]
        · refine ⟨2 * p.H + (y - 1), by omega, by omega, hm.1, ?_, (key (2 * p.H + (y - 1)) (by omega)).1⟩
          rw [(key (2 * p.H + (y - 1)) (by omega)).2, if_neg (by omega), if_pos (by omega), if_neg (by omega), if_neg (by omega), hm.2]
      · split at hm
        · simp only [List.mem_cons, Prod.mk.injEq, List.not_mem_nil, or_false] at hm
          rcases hm with hm | hm
          · refine ⟨y - 1, by omega, by omega, hm.1, ?_, (key (y - 1) (by omega)).1⟩
            rw [(key (y - 1) (by omega)).2, if_pos (by omega), if_pos (by omega), hm.2]
          · refine ⟨y, by omega, by omega, hm.1, ?_, (key y (by omega)).1⟩
            rw [(key y (by omega)).2, if_pos (by omega), if_pos (by omega), hm.2]
        · simp only [List.mem_cons, Prod.mk.injEq, List.not_mem_nil, or_false] at hm
          rcases hm with hm | hm
          · refine ⟨y - 1, by omega, by omega, hm.1, ?_, (key (y - 1) (by omega)).1⟩
            rw [(key (y - 1) (by omega)).2, if_neg (by omega), if_neg (by omega), if_pos (by omega), if_neg (by omega), hm.2]
          · refine ⟨2 * p.H + (y - 1), by omega, by omega, hm.1, ?_, (key (2 * p.H + (y - 1)) (by omega)).1⟩
            rw [(key (2 * p.H + (y - 1)) (by omega)).2, if_neg (by omega), if_neg (by omega), if_neg (by omega), if_neg (by omega), hm.2]
omit hp in
theorem pt_has {i : Int} (h0 : 0 ≤ i) (h1 : i < 4 * p.H) : Has p X (ptL p X i) := by
  unfold ptL rowL Has
  refine ⟨by omega, by omega, ?_, ?_, ?_⟩ <;> split <;> split <;> omega
/-- The pairs at a point hold all segments that meet there. -/
theorem pairs_all {i : Int} (h0 : 0 ≤ i) (h1 : i < 4 * p.H) : ∃ a b, (a, b) ∈ pairsP p X (ptL p X i) ∧ (a = (X - 1) * (2 * p.H) + i ∨ b = (X - 1) * (2 * p.H) + i) := by
  have hh := pt_has hX h0 h1
  have H1 := hp.h1
  obtain ⟨y, hy⟩ : ∃ y, ptL p X i = y := ⟨_, rfl⟩
  have hi : (i < 2 * p.H ∧ (i = y ∨ i = y - 1)) ∨ (2 * p.H ≤ i ∧ (i = 2 * p.H + y ∨ i = 2 * p.H + y - 1)) := by
    unfold ptL rowL at hy
    split at hy <;> split at hy <;> omega
  rw [hy] at hh ⊢
  obtain ⟨_, _, y0, y1, hpar⟩ := hh
  have s1 := sg_is (p := p) X y 1
  have s2 := sg_is (p := p) X y (-1)
  rw [show min y (y + 1) = y by omega] at s1
  rw [show min y (y + -1) = y - 1 by omega] at s2
  unfold pairsP
  rw [if_neg (by omega), if_neg (by omega), s1.1, s1.2, s2.1, s2.2]
  generalize (X - 1) * (2 * p.H) = Z
  split
  · exact ⟨_, _, List.mem_singleton.2 rfl, by omega⟩
  · split
    · exact ⟨_, _, List.mem_singleton.2 rfl, by omega⟩
    · split
      · by_cases e : i < 2 * p.H
        · exact ⟨_, _, List.mem_cons_self, by omega⟩
        · exact ⟨_, _, List.mem_cons_of_mem _ List.mem_cons_self, by omega⟩
      · split
        · by_cases e : i = y - 1 ∨ i = 2 * p.H + (y - 1)
          · exact ⟨_, _, List.mem_cons_self, by omega⟩
          · exact ⟨_, _, List.mem_cons_of_mem _ List.mem_cons_self, by omega⟩
        · by_cases e : i = y - 1 ∨ i = 2 * p.H + y
          · exact ⟨_, _, List.mem_cons_self, by omega⟩
          · exact ⟨_, _, List.mem_cons_of_mem _ List.mem_cons_self, by omega⟩
end
end Knot

namespace Knot

/-! ### A pairing passed on, step by step -/

/-- A row being filled: what is known, then zeros. -/
def oZ (l : List Int) (n : Nat) : List Int := l ++ List.replicate (n - l.length) 0
theorem oZ_len {l : List Int} {n : Nat} (h : l.length ≤ n) : (oZ l n).length = n := by unfold oZ; simp; omega
theorem oZ_nil (n : Nat) : oZ [] n = List.replicate n 0 := by simp [oZ]
theorem oZ_full {l : List Int} {n : Nat} (h : l.length = n) : oZ l n = l := by unfold oZ; simp [h]
theorem oZ_set {l : List Int} {n k : Nat} (hk : l.length = k) (hn : k < n) (x : Int) : (oZ l n).set k x = oZ (l ++ [x]) n := by
  unfold oZ
  rw [List.set_append_right _ _ (by omega), hk, Nat.sub_self]
  have h1 : n - k = (n - (l ++ [x]).length) + 1 := by simp; omega
  rw [h1, List.replicate_succ, List.set_cons_zero]
  simp

/-- A chain with some steps left: where it ends, and what will have been seen. -/
structure Ch (P L : List Int) (n : Nat) (a : Int) (s : List Bool) (j : Nat) (e : Int) (sf : List Bool) : Prop where
  low : ∀ i, i < j → 0 ≤ it (nxt P L) i a ∧ it (nxt P L) i a < n
  last : it (nxt P L) j a = e
  mark : marks P L a s j = sf
theorem Ch.zero {P L : List Int} {n : Nat} {a e : Int} {s sf : List Bool} (h : Ch P L n a s 0 e sf) : a = e ∧ s = sf := ⟨h.last, h.mark⟩
theorem Ch.head {P L : List Int} {n j : Nat} {a e : Int} {s sf : List Bool} (h : Ch P L n a s (j + 1) e sf) : 0 ≤ a ∧ a < n := h.low 0 (by omega)
theorem Ch.next {P L : List Int} {n j : Nat} {a e : Int} {s sf : List Bool} (h : Ch P L n a s (j + 1) e sf) : Ch P L n (gI L (gI P a)) (sB (sB s a) (gI P a)) j e sf := by
  refine ⟨fun i hi => ?_, ?_, ?_⟩
  · have := h.low (i + 1) (by omega)
    rw [it_succ'] at this
    exact this
  · have := h.last
    rw [it_succ'] at this
    exact this
  · have := h.mark
    rw [marks_front] at this
    exact this
section
variable {P L : List Int} {n : Nat} (hP : Pairing n P) (hL : Pairing (2 * n) L)
include hP hL
theorem pass1_chain {k : Nat} (hk : k < n) : ∃ (j : Nat) (e : Int) (sf : List Bool), j ≤ n ∧ (n : Int) ≤ e ∧ e < ((2 * n : Nat) : Int) ∧ Ch P L n (gI L ((n : Int) + k)) (pass1 P L n k).2 j e sf ∧ pass1 P L n (k + 1) = ((pass1 P L n k).1 ++ [e - n], sf) := by
  obtain ⟨j, hj, he, hlt⟩ := chain_leaves hP hL k hk
  have hc := chain_eq P L n j n (gI L ((n : Int) + k)) (pass1 P L n k).2 hj hlt he
  have hrng : ∀ i, i ≤ j → 0 ≤ it (nxt P L) i (gI L ((n : Int) + k)) ∧ it (nxt P L) i (gI L ((n : Int) + k)) < ((2 * n : Nat) : Int) := by
    intro i
    induction i with
    | zero => intro _; exact ⟨hL.lo _ (by omega) (by omega), hL.hi _ (by omega) (by omega)⟩
    | succ i ih =>
      intro hi
      have h1 := ih (by omega)
      have h2 := hlt i (by omega)
      have p0 := hP.lo _ h1.1 h2
      have p1 := hP.hi _ h1.1 h2
      exact ⟨hL.lo _ p0 (by omega), hL.hi _ p0 (by omega)⟩
  refine ⟨j, it (nxt P L) j (gI L ((n : Int) + k)), marks P L (gI L ((n : Int) + k)) (pass1 P L n k).2 j, hj, he, (hrng j (Nat.le_refl _)).2, ⟨fun i hi => ⟨(hrng i (by omega)).1, hlt i hi⟩, rfl, rfl⟩, ?_⟩
  conv => lhs; unfold pass1
  rw [hc]
theorem pass1_len : ∀ k, k ≤ n → (pass1 P L n k).1.length = k ∧ (pass1 P L n k).2.length = n := fun k hk => ⟨(passed hP hL k hk).len, (passed hP hL k hk).slen⟩
theorem pass_agree {x : Int} (x0 : 0 ≤ x) (x1 : x < n) (hx : gB (pass1 P L n n).2 x = false) : gI L (gI P x) = gI (inL P L n) (gI P x) := by
  have hu := (unseen_iff hP hL x0 x1).1 hx
  have h1 : Lk P L n x (gI P x) := (Lk.refl x0 (by omega)).p x1
  have h2 := unseen_small hP hL hu h1
  have h3 := unseen_small hP hL hu h1.l
  rw [inL_get h2.1 h2.2, if_pos h3.2]
theorem pass_as : pass P L n = ((pass1 P L n n).1, (cycTo P (inL P L n) n (pass1 P L n n).2 n).1) := by
  unfold pass
  rw [cycTo_congr hP (inL_pair hP hL) (pass1_len hP hL n (Nat.le_refl _)).2 (fun x x0 x1 hx => pass_agree hP hL x0 x1 hx) n (Nat.le_refl _)]
end
/-- What has been seen stays seen. -/
def Wide (s0 s : List Bool) : Prop := ∀ x : Int, 0 ≤ x → gB s x = false → gB s0 x = false
theorem wide_put {n : Nat} {s0 s : List Bool} (hs : s.length = n) (h : Wide s0 s) {a : Int} (a0 : 0 ≤ a) (a1 : a < n) : Wide s0 (sB s a) := by
  intro x x0 hx
  refine h x x0 ?_
  cases hb : gB s x
  · rfl
  · rw [(gB_sB x0 a0 (by rw [hs]; exact a1)).2 (.inr hb)] at hx
    cases hx
theorem cyc_wide {P L' : List Int} {n : Nat} (hP : Pairing n P) (hL' : Pairing n L') {s : List Bool} (hs : s.length = n) {k : Nat} (hk : k ≤ n) : Wide s (cycTo P L' n s k).2 := by
  intro x x0 hx
  cases hb : gB s x
  · rfl
  · rw [cycTo_mono hP hL' x0 hs hb k hk] at hx
    cases hx
/-- Links being filled: those at points above Y are laid. -/
def Laid (p : Pan) (X : Int) (tw : Bool) (L : List Int) (y : Int) : Prop := ∀ i, 0 ≤ i → i < 4 * p.H → ptL p X i < y → gI L (if tw then i else swp p i) = (if tw then linkA p X i else swp p (linkA p X i))
def lkOf (p : Pan) (X : Int) (tw : Bool) : List Int := if tw then links p X else linksR p X
theorem lkOf_len (p : Pan) (X : Int) (tw : Bool) : (lkOf p X tw).length = 2 * colN p := by
  unfold lkOf links linksR colN
  split <;> simp
theorem ptL_le {p : Pan} {X i : Int} (h0 : 0 ≤ i) (h1 : i < 4 * p.H) : 0 ≤ ptL p X i ∧ ptL p X i ≤ 2 * p.H := by
  unfold ptL rowL
  split <;> split <;> omega
theorem laid_all {p : Pan} {X : Int} {tw : Bool} {L : List Int} (hH : 1 ≤ p.H) (hl : L.length = 2 * colN p) {y : Int} (hy : 2 * p.H < y) (h : Laid p X tw L y) : L = lkOf p X tw := by
  refine List.ext_getElem (by rw [hl, lkOf_len]) fun i h1 h2 => ?_
  have hc : (colN p : Int) = 2 * p.H := by unfold colN; omega
  have e1 : gI L (i : Int) = L[i] := by simp [gI, List.getD, h1]
  have e2 : gI (lkOf p X tw) (i : Int) = (lkOf p X tw)[i] := by simp [gI, List.getD, h2]
  rw [← e1, ← e2]
  have i1 : (i : Int) < 4 * p.H := by omega
  cases tw
  · obtain ⟨s1, s2, s3⟩ := swp_swp (p := p) (i := (i : Int)) (by omega) i1
    have := h (swp p i) s2 s3 (by have := ptL_le (p := p) (X := X) s2 s3; omega)
    simp only [Bool.false_eq_true, if_false] at this
    rw [s1] at this
    rw [this]
    show _ = gI (linksR p X) i
    rw [linksR_get (by omega) i1]
  · have := h i (by omega) i1 (by have := ptL_le (p := p) (X := X) (i := (i : Int)) (by omega) i1; omega)
    simp only [if_true] at this
    rw [this]
    show _ = gI (links p X) i
    rw [links_get (by omega) i1]
/-- Links being filled at a point: those of the first pairs there are laid too. -/
def LaidAt (p : Pan) (X : Int) (tw : Bool) (L : List Int) (y : Int) (m : Nat) : Prop := ∀ i, 0 ≤ i → i < 4 * p.H → (ptL p X i < y ∨ (ptL p X i = y ∧ ∃ a b, (a, b) ∈ (pairsP p X y).take m ∧ (a = (X - 1) * (2 * p.H) + i ∨ b = (X - 1) * (2 * p.H) + i))) →
  gI L (if tw then i else swp p i) = (if tw then linkA p X i else swp p (linkA p X i))
theorem laidAt_zero {p : Pan} {X : Int} {tw : Bool} {L : List Int} {y : Int} (h : Laid p X tw L y) : LaidAt p X tw L y 0 := fun i h0 h1 hh => h i h0 h1 (by
  rcases hh with h | ⟨_, a, b, hm, _⟩
  · exact h
  · simp at hm)
theorem laidAt_full {p : Pan} (hp : Ok p) {X : Int} (hX : 0 < X ∧ X < 2 * p.W) {tw : Bool} {L : List Int} {y : Int} (hy : (X + y) % 2 = 1) {m : Nat} (hm : (pairsP p X y).length ≤ m) (h : LaidAt p X tw L y m) : Laid p X tw L (y + 2) := by
  intro i h0 h1 hlt
  refine h i h0 h1 ?_
  have hpt := pt_has hX h0 h1
  have hpar := hpt.2.2.2.2
  by_cases e : ptL p X i = y
  · obtain ⟨a, b, hab, hor⟩ := pairs_all hp hX h0 h1
    rw [e] at hab
    exact .inr ⟨e, a, b, by rw [List.take_of_length_le hm]; exact hab, hor⟩
  · exact .inl (by omega)
theorem laidAt_step {p : Pan} (hp : Ok p) {X : Int} (hX : 0 < X ∧ X < 2 * p.W) {tw : Bool} {L : List Int} (hl : L.length = 2 * colN p) {y : Int} (hh : Has p X y) {m : Nat} {a b : Int} (hm : m < (pairsP p X y).length) (hab : (pairsP p X y)[m] = (a, b)) {i j : Int}
    (hi : a = (X - 1) * (2 * p.H) + i) (hj : b = (X - 1) * (2 * p.H) + j) (i0 : 0 ≤ i) (i1 : i < 4 * p.H) (h : LaidAt p X tw L y m) :
    j = linkA p X i ∧ LaidAt p X tw (((L.set (if tw then i else swp p i).toNat (if tw then j else swp p j))).set (if tw then j else swp p j).toNat (if tw then i else swp p i)) y (m + 1) := by
  have hmem : (a, b) ∈ pairsP p X y := by rw [← hab]; exact List.getElem_mem hm
  obtain ⟨i', i0', i1', ea, eb, ept⟩ := pairs_link hp hX hh hmem
  obtain rfl : i' = i := by omega
  obtain rfl : j = linkA p X i' := by omega
  refine ⟨rfl, ?_⟩
  obtain ⟨j0, j1, jn⟩ := linkA_rng (p := p) (X := X) i0 i1
  have jpt := linkA_pt (p := p) (X := X) i0 i1
  have jinv := linkA_inv (p := p) (X := X) i0 i1
  have hc : (colN p : Int) = 2 * p.H := by have := hp.h1; unfold colN; omega
  obtain ⟨si1, si2, si3⟩ := swp_swp (p := p) i0 i1
  obtain ⟨sj1, sj2, sj3⟩ := swp_swp (p := p) j0 j1
  have cast : ∀ q : Int, 0 ≤ q → q < 4 * p.H → 0 ≤ (if tw then q else swp p q) ∧ (if tw then q else swp p q) < 4 * p.H := fun q q0 q1 => by
    split
    · exact ⟨q0, q1⟩
    · exact (swp_swp q0 q1).2
  have cinj : ∀ q r : Int, 0 ≤ q → q < 4 * p.H → 0 ≤ r → r < 4 * p.H → (if tw then q else swp p q) = (if tw then r else swp p r) → q = r := fun q r q0 q1 r0 r1 e => by
    split at e
    · exact e
    · rw [← (swp_swp (p := p) q0 q1).1, e, (swp_swp (p := p) r0 r1).1]
  intro q q0 q1 hq
  have cq := cast q q0 q1
  have ci := cast i' i0 i1
  have cj := cast (linkA p X i') j0 j1
  by_cases e1 : q = linkA p X i'
  · rw [e1, jinv]
    have : gI (((L.set (if tw then i' else swp p i').toNat (if tw then linkA p X i' else swp p (linkA p X i')))).set (if tw then linkA p X i' else swp p (linkA p X i')).toNat (if tw then i' else swp p i')) (if tw then linkA p X i' else swp p (linkA p X i')) = (if tw then i' else swp p i') := by
      unfold gI
      rw [List.getD, List.getElem?_set_self (by rw [List.length_set]; omega)]
      rfl
    exact this
  · have n1 : (if tw then linkA p X i' else swp p (linkA p X i')).toNat ≠ (if tw then q else swp p q).toNat := fun e => e1 (cinj _ _ q0 q1 j0 j1 (by omega))
    by_cases e2 : q = i'
    · subst e2
      unfold gI
      rw [List.getD, List.getElem?_set_ne n1, List.getElem?_set_self (by omega)]
      rfl
    · have n2 : (if tw then i' else swp p i').toNat ≠ (if tw then q else swp p q).toNat := fun e => e2 (cinj _ _ q0 q1 i0 i1 (by omega))
      have e3 : gI (((L.set (if tw then i' else swp p i').toNat (if tw then linkA p X i' else swp p (linkA p X i')))).set (if tw then linkA p X i' else swp p (linkA p X i')).toNat (if tw then i' else swp p i')) (if tw then q else swp p q) = gI L (if tw then q else swp p q) := by
        unfold gI
        rw [List.getD, List.getElem?_set_ne n1, List.getElem?_set_ne n2]
        rfl
      rw [e3]
      refine h q q0 q1 ?_
      rcases hq with hq | ⟨hq1, a', b', hq2, hq3⟩
      · exact .inl hq
      · refine .inr ⟨hq1, a', b', ?_, hq3⟩
        rw [List.take_succ_eq_append_getElem hm, List.mem_append, List.mem_singleton, hab] at hq2
        rcases hq2 with hq2 | hq2
        · exact hq2
        · exfalso
          injection hq2 with h1 h2
          rcases hq3 with hq3 | hq3 <;> omega
end Knot

namespace Knot

/-! ### Pairs put into their places -/

def gtQ (y x : Int × Int) : Bool := decide (x.1 < y.1) || (decide (y.1 = x.1) && decide (x.2 < y.2))
theorem gtQ_iff (y x : Int × Int) : gtQ y x = true ↔ x.1 < y.1 ∨ (y.1 = x.1 ∧ x.2 < y.2) := by simp [gtQ]
theorem gtQ_no (y x : Int × Int) : gtQ y x = false ↔ ¬ (x.1 < y.1 ∨ (y.1 = x.1 ∧ x.2 < y.2)) := by
  rw [← gtQ_iff]
  cases gtQ y x <;> simp
/-- From place k on downwards: the place behind the first that is not greater. -/
def posK {α : Type} (gt : α → α → Bool) (l : List α) (x : α) : Nat → Nat
  | 0 => 0
  | k + 1 => if (l[k]?.map fun y => gt y x) = some true then posK gt l x k else k + 1
def putK {α : Type} (gt : α → α → Bool) (l : List α) (x : α) : List α := l.take (posK gt l x l.length) ++ x :: l.drop (posK gt l x l.length)
theorem posK_le {α : Type} (gt : α → α → Bool) (l : List α) (x : α) : ∀ k, posK gt l x k ≤ k
  | 0 => Nat.le_refl _
  | k + 1 => by
    have := posK_le gt l x k
    unfold posK
    split <;> omega
theorem posK_yes {α : Type} {gt : α → α → Bool} {l : List α} {x : α} {k : Nat} (hk : k < l.length) (h : gt l[k] x = true) : posK gt l x (k + 1) = posK gt l x k := by
  unfold posK
  rw [if_pos (by rw [List.getElem?_eq_getElem hk]; simp [h])]
  cases k <;> rfl
theorem posK_no {α : Type} {gt : α → α → Bool} {l : List α} {x : α} {k : Nat} (hk : k < l.length) (h : gt l[k] x = false) : posK gt l x (k + 1) = k + 1 := by
  conv => lhs; unfold posK
  rw [if_neg (by rw [List.getElem?_eq_getElem hk]; simp [h])]
theorem putK_len {α : Type} (gt : α → α → Bool) (l : List α) (x : α) : (putK gt l x).length = l.length + 1 := by
  have := posK_le gt l x l.length
  unfold putK
  simp
  omega
theorem putK_perm {α : Type} (gt : α → α → Bool) (l : List α) (x : α) : (putK gt l x).Perm (x :: l) := by
  unfold putK
  refine List.perm_middle.trans ?_
  rw [List.take_append_drop]
theorem posK_map {α β : Type} (gt : α → α → Bool) (gt' : β → β → Bool) (f : α → β) (hf : ∀ y x, gt y x = gt' (f y) (f x)) (l : List α) (x : α) : ∀ k, posK gt l x k = posK gt' (l.map f) (f x) k
  | 0 => rfl
  | k + 1 => by
    unfold posK
    rw [posK_map gt gt' f hf l x k, List.getElem?_map, Option.map_map]
    have e : (fun y => gt y x) = (fun y => gt' y (f x)) ∘ f := funext fun y => hf y x
    rw [e]
theorem putK_map {α β : Type} (gt : α → α → Bool) (gt' : β → β → Bool) (f : α → β) (hf : ∀ y x, gt y x = gt' (f y) (f x)) (l : List α) (x : α) : (putK gt l x).map f = putK gt' (l.map f) (f x) := by
  unfold putK
  rw [List.map_append, List.map_cons, List.map_take, List.map_drop, posK_map gt gt' f hf, List.length_map]
/-- In order. -/
abbrev Srq (l : List (Int × Int)) : Prop := l.Pairwise fun a b => gtQ a b = false
theorem gtQ_chain {a b c : Int × Int} (h : gtQ a b = false) (k : gtQ b c = false) : gtQ a c = false := by
  rw [gtQ_no] at *
  omega
theorem gtQ_asym {a b : Int × Int} (h : gtQ a b = true) : gtQ b a = false := by
  rw [gtQ_iff] at h
  rw [gtQ_no]
  omega
theorem gtQ_eq {a b : Int × Int} (h : gtQ a b = false) (k : gtQ b a = false) : a = b := by
  rw [gtQ_no] at *
  exact Prod.ext (by omega) (by omega)
theorem posK_spec {l : List (Int × Int)} {x : Int × Int} (hl : Srq l) : ∀ k, k ≤ l.length → (∀ j (hj : j < l.length), k ≤ j → gtQ l[j] x = true) →
    (∀ j (hj : j < l.length), posK gtQ l x k ≤ j → gtQ l[j] x = true) ∧ ∀ j (hj : j < l.length), j < posK gtQ l x k → gtQ l[j] x = false
  | 0, _, h => ⟨fun j hj _ => h j hj (by omega), fun j _ hj => by simp [posK] at hj⟩
  | k + 1, hk, h => by
    cases hc : gtQ (l[k]'(by omega)) x
    · rw [posK_no (by omega) hc]
      refine ⟨h, fun j hj hjk => ?_⟩
      rcases Nat.lt_or_ge j k with h2 | h2
      · exact gtQ_chain (List.pairwise_iff_getElem.1 hl j k hj (by omega) h2) hc
      · obtain rfl : j = k := by omega
        exact hc
    · rw [posK_yes (by omega) hc]
      refine posK_spec hl k (by omega) fun j hj hkj => ?_
      rcases Nat.lt_or_ge k j with h2 | h2
      · exact h j hj (by omega)
      · obtain rfl : j = k := by omega
        exact hc
theorem srq_put {l : List (Int × Int)} (x : Int × Int) (hl : Srq l) : Srq (putK gtQ l x) := by
  obtain ⟨h1, h2⟩ := posK_spec (x := x) hl l.length (Nat.le_refl _) (fun j hj hk => by omega)
  have hle := posK_le gtQ l x l.length
  unfold putK
  generalize posK gtQ l x l.length = k at *
  refine List.pairwise_append.2 ⟨hl.sublist (List.take_sublist _ _), List.pairwise_cons.2 ⟨fun b hb => ?_, hl.sublist (List.drop_sublist _ _)⟩, fun a ha b hb => ?_⟩
  · obtain ⟨i, hi, rfl⟩ := List.getElem_of_mem hb
    rw [List.length_drop] at hi
    rw [List.getElem_drop]
    exact gtQ_asym (h1 _ (by omega) (by omega))
  · obtain ⟨i, hi, rfl⟩ := List.getElem_of_mem ha
    rw [List.length_take] at hi
    rw [List.getElem_take]
    have hax := h2 i (by omega) (by omega)
    rcases List.mem_cons.1 hb with e | e
    · subst e; exact hax
    · obtain ⟨j, hj, rfl⟩ := List.getElem_of_mem e
      rw [List.length_drop] at hj
      rw [List.getElem_drop]
      exact List.pairwise_iff_getElem.1 hl _ _ (by omega) (by omega) (by omega)
theorem srq_unique : ∀ {l m : List (Int × Int)}, Srq l → Srq m → l.Perm m → l = m
  | [], m, _, _, h => (List.nil_perm.1 h).symm ▸ rfl
  | a :: l, [], _, _, h => absurd (List.perm_nil.1 h) (by simp)
  | a :: l, b :: m, hl, hm, h => by
    have hl' := List.pairwise_cons.1 hl
    have hm' := List.pairwise_cons.1 hm
    have e : a = b := by
      have h1 : a ∈ b :: m := h.mem_iff.1 (by simp)
      have h2 : b ∈ a :: l := h.mem_iff.2 (by simp)
      rcases List.mem_cons.1 h1 with h1 | h1
      · exact h1
      · rcases List.mem_cons.1 h2 with h2 | h2
        · exact h2.symm
        · exact gtQ_eq (hl'.1 b h2) (hm'.1 a h1)
    subst e
    rw [srq_unique hl'.2 hm'.2 (List.Perm.cons_inv h)]

/-- A pair, the lesser number first. -/
def nrm (q : Int × Int) : Int × Int := (min q.1 q.2, max q.1 q.2)
/-- Pairs put into a row, one after the other. -/
def putAll (l : List (Int × Int)) : List (Int × Int) → List (Int × Int)
  | [] => l
  | q :: t => putAll (putK gtQ l (nrm q)) t
theorem putAll_append (l : List (Int × Int)) : ∀ s t, putAll l (s ++ t) = putAll (putAll l s) t
  | [], t => rfl
  | q :: s, t => by
    show putAll _ (s ++ t) = _
    rw [putAll_append]
    rfl
theorem putAll_srq : ∀ {l : List (Int × Int)} (s : List (Int × Int)), Srq l → Srq (putAll l s)
  | _, [], h => h
  | _, q :: s, h => putAll_srq s (srq_put _ h)
theorem putAll_perm : ∀ (l s : List (Int × Int)), (putAll l s).Perm (s.map nrm ++ l)
  | l, [] => List.Perm.refl _
  | l, q :: s => by
    refine (putAll_perm (putK gtQ l (nrm q)) s).trans ?_
    refine ((putK_perm gtQ l (nrm q)).append_left (s.map nrm)).trans ?_
    exact List.perm_middle
theorem putAll_len (l s : List (Int × Int)) : (putAll l s).length = s.length + l.length := by
  have := (putAll_perm l s).length_eq
  simpa using this
/-- The pairs at the points with an X, up to a Y. -/
def btwA (p : Pan) (X : Int) : Nat → List (Int × Int)
  | 0 => []
  | k + 1 => if (X + k) % 2 = 1 then btwA p X k ++ pairsP p X k else btwA p X k
def btwL (p : Pan) (X : Int) (k : Nat) : List (Int × Int) := putAll [] (btwA p X k)
theorem btwL_yes {p : Pan} {X : Int} {k : Nat} (h : (X + k) % 2 = 1) : btwL p X (k + 1) = putAll (btwL p X k) (pairsP p X k) := by
  unfold btwL
  conv => lhs; unfold btwA
  rw [if_pos h, putAll_append]
theorem btwL_no {p : Pan} {X : Int} {k : Nat} (h : ¬ (X + k) % 2 = 1) : btwL p X (k + 1) = btwL p X k := by
  unfold btwL
  conv => lhs; unfold btwA
  rw [if_neg h]
theorem btwL_mem {p : Pan} {X : Int} {q : Int × Int} (k : Nat) : q ∈ btwL p X k ↔ ∃ (y : Nat) (r : Int × Int), y < k ∧ (X + y) % 2 = 1 ∧ r ∈ pairsP p X y ∧ q = nrm r := by
  have hA : ∀ (k : Nat) (r : Int × Int), r ∈ btwA p X k ↔ ∃ y : Nat, y < k ∧ (X + y) % 2 = 1 ∧ r ∈ pairsP p X y := by
    intro k
    induction k with
    | zero => intro r; simp [btwA]
    | succ k ih =>
      intro r
      unfold btwA
      by_cases h : (X + k) % 2 = 1
      · rw [if_pos h, List.mem_append, ih]
        constructor
        · rintro (⟨y, a, b, c⟩ | c)
          · exact ⟨y, by omega, b, c⟩
          · exact ⟨k, by omega, h, c⟩
        · rintro ⟨y, a, b, c⟩
          by_cases e : y = k
          · subst e; exact .inr c
          · exact .inl ⟨y, by omega, b, c⟩
      · rw [if_neg h, ih]
        constructor
        · rintro ⟨y, a, b, c⟩; exact ⟨y, by omega, b, c⟩
        · rintro ⟨y, a, b, c⟩
          by_cases e : y = k
          · subst e; exact absurd b h
          · exact ⟨y, by omega, b, c⟩
  unfold btwL
  rw [(putAll_perm [] (btwA p X k)).mem_iff, List.append_nil, List.mem_map]
  constructor
  · rintro ⟨r, hr, rfl⟩
    obtain ⟨y, a, b, c⟩ := (hA k r).1 hr
    exact ⟨y, r, a, b, c, rfl⟩
  · rintro ⟨y, r, a, b, c, rfl⟩
    exact ⟨r, (hA k r).2 ⟨y, a, b, c⟩, rfl⟩
theorem pairsP_len (p : Pan) (x y : Int) : (pairsP p x y).length ≤ 2 := by
  unfold pairsP
  repeat' (first | split | exact Nat.le_refl _ | exact Nat.le_succ _)
theorem btwL_len (p : Pan) (X : Int) : ∀ k : Nat, (btwL p X k).length ≤ 2 * k
  | 0 => by simp [btwL, btwA, putAll]
  | k + 1 => by
    have ih := btwL_len p X k
    by_cases h : (X + k) % 2 = 1
    · rw [btwL_yes h, putAll_len]
      have := pairsP_len p X k
      omega
    · rw [btwL_no h]
      omega
end Knot

namespace Knot

/-! ### Links laid by the sorted pairs -/

/-- The elements that the pairs name are joined as f tells. -/
def LaidF (f : Int → Int) (Z n : Int) (L : List Int) (l : List (Int × Int)) : Prop := ∀ i, 0 ≤ i → i < n → (∃ r ∈ l, r.1 = Z + i ∨ r.2 = Z + i) → gI L i = f i
theorem laidF_nil (f : Int → Int) (Z n : Int) (L : List Int) : LaidF f Z n L [] := fun i _ _ ⟨r, hr, _⟩ => by simp at hr
theorem laidF_step {f : Int → Int} {Z n : Int} {L : List Int} {l : List (Int × Int)} (hn : (L.length : Int) = n) {i j : Int} (i0 : 0 ≤ i) (i1 : i < n) (j0 : 0 ≤ j) (j1 : j < n) (hij : f i = j) (hji : f j = i) (h : LaidF f Z n L l) :
    LaidF f Z n ((L.set i.toNat j).set j.toNat i) (l ++ [(Z + i, Z + j)]) := by
  intro q q0 q1 hq
  by_cases e1 : q = j
  · subst e1
    unfold gI
    rw [List.getD, List.getElem?_set_self (by rw [List.length_set]; omega)]
    exact hji.symm
  · by_cases e2 : q = i
    · subst e2
      unfold gI
      rw [List.getD, List.getElem?_set_ne (by omega), List.getElem?_set_self (by omega)]
      exact hij.symm
    · have e3 : gI ((L.set i.toNat j).set j.toNat i) q = gI L q := by
        unfold gI
        rw [List.getD, List.getElem?_set_ne (by omega), List.getElem?_set_ne (by omega)]
        rfl
      rw [e3]
      refine h q q0 q1 ?_
      obtain ⟨r, hr, hrq⟩ := hq
      rw [List.mem_append, List.mem_singleton] at hr
      rcases hr with hr | hr
      · exact ⟨r, hr, hrq⟩
      · subst hr
        exfalso
        simp only [] at hrq
        omega
section
variable {p : Pan} (hp : Ok p) {X : Int}
include hp
/-- A sorted pair between two columns is a link. -/
theorem btw_link (hX : 0 < X ∧ X < 2 * p.W) {k : Nat} (hk : k ≤ colN p + 1) {r : Int × Int} (hr : r ∈ btwL p X k) : ∃ i, 0 ≤ i ∧ i < 4 * p.H ∧ r.1 = (X - 1) * (2 * p.H) + i ∧ r.2 = (X - 1) * (2 * p.H) + linkA p X i := by
  obtain ⟨y, q, h1, h2, h3, rfl⟩ := (btwL_mem k).1 hr
  have hH := hp.h1
  have hc : (colN p : Int) = 2 * p.H := by unfold colN; omega
  have hh : Has p X y := ⟨by omega, by omega, by omega, by omega, h2⟩
  obtain ⟨i, i0, i1, e1, e2, _⟩ := pairs_link hp hX hh (a := q.1) (b := q.2) h3
  have hinv := linkA_inv (p := p) (X := X) i0 i1
  obtain ⟨j0, j1, _⟩ := linkA_rng (p := p) (X := X) i0 i1
  unfold nrm
  rw [e1, e2]
  by_cases h : i ≤ linkA p X i
  · exact ⟨i, i0, i1, by simp only []; omega, by simp only []; omega⟩
  · exact ⟨linkA p X i, j0, j1, by simp only []; omega, by rw [hinv]; simp only []; omega⟩
theorem btw_all (hX : 0 < X ∧ X < 2 * p.W) {L : List Int} (hl : L.length = 2 * colN p) (h : LaidF (linkA p X) ((X - 1) * (2 * p.H)) (4 * p.H) L (btwL p X (colN p + 1))) : L = links p X := by
  have hH := hp.h1
  have hc : (colN p : Int) = 2 * p.H := by unfold colN; omega
  have hll : (links p X).length = 2 * colN p := by unfold links colN; simp
  refine List.ext_getElem (by rw [hl, hll]) fun i h1 h2 => ?_
  have i1 : (i : Int) < 4 * p.H := by omega
  have e1 : gI L (i : Int) = L[i] := by simp [gI, List.getD, h1]
  have e2 : gI (links p X) (i : Int) = (links p X)[i] := by simp [gI, List.getD, h2]
  rw [← e1, ← e2, links_get (by omega) i1]
  refine h i (by omega) i1 ?_
  obtain ⟨a, b, hab, hor⟩ := pairs_all hp hX (i := (i : Int)) (by omega) i1
  have hpt := pt_has hX (i := (i : Int)) (by omega) i1
  obtain ⟨y, hy⟩ := Int.eq_ofNat_of_zero_le hpt.2.2.1
  refine ⟨nrm (a, b), (btwL_mem _).2 ⟨y, (a, b), ?_, ?_, ?_, rfl⟩, ?_⟩
  · have := hpt.2.2.2.1; omega
  · have := hpt.2.2.2.2; rw [hy] at this; exact this
  · rw [← hy]; exact hab
  · unfold nrm
    simp only []
    omega
/-- The other one of two neighbours. -/
def nbrF (i : Int) : Int := if i % 2 = 0 then i + 1 else i - 1
theorem btw_right {k : Nat} (hk : k ≤ colN p + 1) {r : Int × Int} (hr : r ∈ btwL p (2 * p.W) k) : ∃ i, 0 ≤ i ∧ i < 2 * p.H ∧ r.1 = (2 * p.W - 1) * (2 * p.H) + i ∧ r.2 = (2 * p.W - 1) * (2 * p.H) + nbrF i := by
  obtain ⟨y, q, h1, h2, h3, rfl⟩ := (btwL_mem k).1 hr
  have hH := hp.h1
  have hW := hp.w1
  have hc : (colN p : Int) = 2 * p.H := by unfold colN; omega
  unfold pairsP at h3
  rw [if_neg (by omega), if_pos rfl, List.mem_singleton] at h3
  have s1 := (sg_is (p := p) (2 * p.W) y (-1)).2
  have s2 := (sg_is (p := p) (2 * p.W) y 1).2
  rw [s1, s2] at h3
  rw [h3]
  unfold nrm
  simp only []
  generalize (2 * p.W - 1) * (2 * p.H) = Z
  refine ⟨(y : Int) - 1, by omega, by omega, by omega, ?_⟩
  unfold nbrF
  rw [if_pos (by omega)]
  omega
theorem right_all {L : List Int} (hl : L.length = colN p) (h : LaidF nbrF ((2 * p.W - 1) * (2 * p.H)) (2 * p.H) L (btwL p (2 * p.W) (colN p + 1))) : L = nbrsK (colN p) := by
  have hH := hp.h1
  have hW := hp.w1
  have hc : (colN p : Int) = 2 * p.H := by unfold colN; omega
  have hll : (nbrsK (colN p)).length = colN p := by simp [nbrsK]
  refine List.ext_getElem (by rw [hl, hll]) fun i h1 h2 => ?_
  have i1 : (i : Int) < 2 * p.H := by omega
  have e1 : gI L (i : Int) = L[i] := by simp [gI, List.getD, h1]
  have e2 : gI (nbrsK (colN p)) (i : Int) = (nbrsK (colN p))[i] := by simp [gI, List.getD, h2]
  rw [← e1, ← e2, nbrsK_get (by omega) (by omega)]
  refine h i (by omega) i1 ?_
  have s := fun y : Int => (sg_is (p := p) (2 * p.W) y (-1)).2
  have s' := fun y : Int => (sg_is (p := p) (2 * p.W) y 1).2
  obtain ⟨y, hy⟩ : ∃ y : Nat, y = if i % 2 = 0 then i + 1 else i := ⟨_, rfl⟩
  refine ⟨nrm (sg p (2 * p.W) y (-1) (-1), sg p (2 * p.W) y (-1) 1), (btwL_mem _).2 ⟨y, _, ?_, ?_, ?_, rfl⟩, ?_⟩
  · split at hy <;> omega
  · split at hy <;> omega
  · unfold pairsP
    rw [if_neg (by omega), if_pos rfl]
    simp
  · rw [s, s']
    unfold nrm
    simp only []
    generalize (2 * p.W - 1) * (2 * p.H) = Z
    split at hy <;> omega
end
theorem nbrF_inv {n : Nat} (hn : n % 2 = 0) {i : Int} (i0 : 0 ≤ i) (i1 : i < n) : 0 ≤ nbrF i ∧ nbrF i < n ∧ nbrF (nbrF i) = i := by
  unfold nbrF
  split <;> (refine ⟨by omega, by omega, ?_⟩; split <;> omega)
end Knot

namespace Knot

/-! ### Columns from the left and from the right are pairings; turned links -/

section
variable {p : Pan} (hp : Ok p)
include hp
theorem colN_int : (colN p : Int) = 2 * p.H := by have := hp.h1; unfold colN; omega
theorem colN_even : colN p % 2 = 0 := by have := hp.h1; unfold colN; omega
theorem colL_pair : ∀ k : Nat, Pairing (colN p) (colL p k).1
  | 0 => nbrsK_pair (colN_even hp)
  | k + 1 => pass_pair (colL_pair k) (links_pair hp.h1 _)
theorem colR_pair : ∀ k : Nat, Pairing (colN p) (colR p k).1
  | 0 => nbrsK_pair (colN_even hp)
  | k + 1 => pass_pair (colR_pair k) (linksR_pair hp.h1 _)
theorem colL_bd : ∀ k : Nat, 0 ≤ (colL p k).2 ∧ (colL p k).2 ≤ 16 * k
  | 0 => ⟨Int.le_refl _, Int.le_refl _⟩
  | k + 1 => by
    have h1 := colL_bd k
    have h2 : 0 ≤ (pass (colL p k).1 (links p ((k : Int) + 1)) (colN p)).2 ∧ (pass (colL p k).1 (links p ((k : Int) + 1)) (colN p)).2 ≤ colN p := cycTo_bd _ _ _ _ _
    have h3 := colN_int hp
    have h4 := hp.h8
    show 0 ≤ (colL p k).2 + _ ∧ (colL p k).2 + _ ≤ 16 * ((k + 1 : Nat) : Int)
    omega
theorem colR_bd : ∀ k : Nat, 0 ≤ (colR p k).2 ∧ (colR p k).2 ≤ 16 * k
  | 0 => ⟨Int.le_refl _, Int.le_refl _⟩
  | k + 1 => by
    have h1 := colR_bd k
    have h2 : 0 ≤ (pass (colR p k).1 (linksR p (2 * p.W - 1 - k)) (colN p)).2 ∧ (pass (colR p k).1 (linksR p (2 * p.W - 1 - k)) (colN p)).2 ≤ colN p := cycTo_bd _ _ _ _ _
    have h3 := colN_int hp
    have h4 := hp.h8
    show 0 ≤ (colR p k).2 + _ ∧ (colR p k).2 + _ ≤ 16 * ((k + 1 : Nat) : Int)
    omega
end
/-- Links turned, when the first k have been laid. -/
def Turned (p : Pan) (X : Int) (T : List Int) (k : Nat) : Prop := ∀ i : Nat, i < k → gI T (swp p i) = swp p (linkA p X i)
theorem turned_step {p : Pan} (hH : 1 ≤ p.H) {X : Int} {T : List Int} (hl : T.length = 2 * colN p) {k : Nat} (hk : k < 2 * colN p) (h : Turned p X T k) : Turned p X (T.set (swp p k).toNat (swp p (linkA p X k))) (k + 1) := by
  have hc : (colN p : Int) = 2 * p.H := by unfold colN; omega
  intro i hi
  obtain ⟨_, s1, s2⟩ := swp_swp (p := p) (i := (k : Int)) (by omega) (by omega)
  by_cases e : i = k
  · subst e
    unfold gI
    rw [List.getD, List.getElem?_set_self (by omega)]
    rfl
  · obtain ⟨t0, t1, t2⟩ := swp_swp (p := p) (i := (i : Int)) (by omega) (by omega)
    have hne : (swp p k).toNat ≠ (swp p i).toNat := by
      intro e2
      have e3 : swp p k = swp p i := by omega
      have := (swp_swp (p := p) (i := (k : Int)) (by omega) (by omega)).1
      rw [e3, t0] at this
      omega
    unfold gI
    rw [List.getD, List.getElem?_set_ne hne]
    exact h i (by omega)
theorem turned_all {p : Pan} (hH : 1 ≤ p.H) {X : Int} {T : List Int} (hl : T.length = 2 * colN p) (h : Turned p X T (2 * colN p)) : T = linksR p X := by
  have hc : (colN p : Int) = 2 * p.H := by unfold colN; omega
  have hll : (linksR p X).length = 2 * colN p := by unfold linksR colN; simp
  refine List.ext_getElem (by rw [hl, hll]) fun i h1 h2 => ?_
  have i1 : (i : Int) < 4 * p.H := by omega
  have e1 : gI T (i : Int) = T[i] := by simp [gI, List.getD, h1]
  have e2 : gI (linksR p X) (i : Int) = (linksR p X)[i] := by simp [gI, List.getD, h2]
  rw [← e1, ← e2, linksR_get (by omega) i1]
  obtain ⟨s1, s2, s3⟩ := swp_swp (p := p) (i := (i : Int)) (by omega) i1
  obtain ⟨q, hq⟩ := Int.eq_ofNat_of_zero_le s2
  have := h q (by omega)
  rw [← hq, s1] at this
  exact this
theorem swp_mod {p : Pan} (hH : 1 ≤ p.H) {i : Int} (h0 : 0 ≤ i) (h1 : i < 4 * p.H) : (i + 2 * p.H) % (2 * (2 * p.H)) = swp p i := by
  unfold swp
  by_cases h : i < 2 * p.H
  · rw [if_pos h, Int.emod_eq_of_lt (by omega) (by omega)]
  · rw [if_neg h, show i + 2 * p.H = (i - 2 * p.H) + 2 * (2 * p.H) by omega, Int.add_emod_right, Int.emod_eq_of_lt (by omega) (by omega)]
end Knot

namespace Knot

/-! ### Without crossings the pairings are nested -/

/-- Q pairs the first n, and no two pairs lie across each other. -/
structure Nc (Q : Int → Int) (n : Nat) : Prop where
  rng : ∀ i : Int, 0 ≤ i → i < n → 0 ≤ Q i ∧ Q i < n ∧ Q i ≠ i ∧ Q (Q i) = i
  nc : ∀ i j : Int, 0 ≤ i → i < n → 0 ≤ j → j < n → j ≠ i → j ≠ Q i → ((i < j ∧ j < Q i) ↔ (i < Q j ∧ Q j < Q i))

/-- Links that lead straight over or turn to the row beside. -/
def Flat (L : List Int) (n : Nat) : Prop := ∀ r : Int, 0 ≤ r → r < n → (gI L r = (n : Int) + r ∧ gI L ((n : Int) + r) = r) ∨
  ∃ q, (q = r + 1 ∨ q = r - 1) ∧ 0 ≤ q ∧ q < n ∧ gI L r = q ∧ gI L ((n : Int) + r) = (n : Int) + q ∧ gI L q = r

/-- r is one of a pair of rows k, k + 1 below n that turn, k below m. -/
def Tn (L : List Int) (n m : Nat) (r : Int) : Prop := ∃ k : Nat, k < m ∧ ((k : Int) + 1 < n ∧ gI L k = (k : Int) + 1) ∧ (r = k ∨ r = (k : Int) + 1)

section
variable {P L : List Int} {n : Nat} (hP : Pairing n P) (hL : Pairing (2 * n) L)

/-- A pair of neighbours turned. -/
def turnQ (Q : Int → Int) (r : Int) (i : Int) : Int := if i = r then r + 1 else if i = r + 1 then r else if i = Q r then Q (r + 1) else if i = Q (r + 1) then Q r else Q i

set_option maxHeartbeats 2000000 in
theorem turn_nc {Q : Int → Int} (h : Nc Q n) {r : Int} (r0 : 0 ≤ r) (r1 : r + 1 < n) : Nc (turnQ Q r) n := by
  have rn : r < n := by omega
  have rn0 : 0 ≤ r + 1 := by omega
  obtain ⟨a0, a1, a2, a3⟩ := h.rng r r0 (by omega)
  obtain ⟨b0, b1, b2, b3⟩ := h.rng (r + 1) (by omega) (by omega)
  have hra : Q r = r + 1 ↔ Q (r + 1) = r := ⟨fun e => by rw [e] at a3; exact a3, fun e => by rw [e] at b3; exact b3⟩
  have hab : Q r ≠ Q (r + 1) := fun e => by rw [e, b3] at a3; omega
  generalize ha : Q r = a at *
  generalize hb : Q (r + 1) = b at *
  have val : ∀ i : Int, turnQ Q r i = if i = r then r + 1 else if i = r + 1 then r else if i = a then b else if i = b then a else Q i := by
    intro i; unfold turnQ; rw [ha, hb]
  have oth : ∀ i : Int, 0 ≤ i → i < n → i ≠ r → i ≠ r + 1 → i ≠ a → i ≠ b → Q i ≠ r ∧ Q i ≠ r + 1 ∧ Q i ≠ a ∧ Q i ≠ b := by
    intro i i0 i1 h1 h2 h3 h4
    have hi := (h.rng i i0 i1).2.2.2
    refine ⟨fun e => ?_, fun e => ?_, fun e => ?_, fun e => ?_⟩ <;> rw [e] at hi
    · rw [ha] at hi; exact h3 hi.symm
    · rw [hb] at hi; exact h4 hi.symm
    · rw [a3] at hi; exact h1 hi.symm
    · rw [b3] at hi; exact h2 hi.symm
  refine ⟨fun i i0 i1 => ?_, fun i j i0 i1 j0 j1 hij hji => ?_⟩
  · by_cases h1 : i = r
    · subst h1
      rw [val i, if_pos rfl, val (i + 1), if_neg (by omega), if_pos rfl]
      omega
    · by_cases h2 : i = r + 1
      · subst h2
        rw [val (r + 1), if_neg h1, if_pos rfl, val r, if_pos rfl]
        omega
      · by_cases h3 : i = a
        · have e : turnQ Q r i = b := by rw [val, if_neg h1, if_neg h2, if_pos h3]
          rw [e, val b, if_neg (by omega), if_neg (by omega), if_neg (by omega), if_pos rfl]
          omega
        · by_cases h4 : i = b
          · have e : turnQ Q r i = a := by rw [val, if_neg h1, if_neg h2, if_neg h3, if_pos h4]
            rw [e, val a, if_neg (by omega), if_neg (by omega), if_pos rfl]
            omega
          · have e : turnQ Q r i = Q i := by rw [val, if_neg h1, if_neg h2, if_neg h3, if_neg h4]
            obtain ⟨o1, o2, o3, o4⟩ := oth i i0 i1 h1 h2 h3 h4
            rw [e, val (Q i), if_neg o1, if_neg o2, if_neg o3, if_neg o4]
            exact h.rng i i0 i1
  · have ri := h.rng i i0 i1
    have rj := h.rng j j0 j1
    have n1 := h.nc i j i0 i1 j0 j1 hij
    have key : ∀ x : Int, 0 ≤ x → x < n → x ≠ r → x ≠ r + 1 → x ≠ a → x ≠ b → ((r < x ∧ x < a) ↔ (r < Q x ∧ Q x < a)) ∧ ((a < x ∧ x < r) ↔ (a < Q x ∧ Q x < r)) ∧ ((r + 1 < x ∧ x < b) ↔ (r + 1 < Q x ∧ Q x < b)) ∧ ((b < x ∧ x < r + 1) ↔ (b < Q x ∧ Q x < r + 1)) := by
      intro x x0 x1 h1 h2 h3 h4
      have k1 := h.nc r x r0 (by omega) x0 x1 h1 (by rw [ha]; exact h3)
      have k2 := h.nc a x a0 a1 x0 x1 h3 (by rw [a3]; exact h1)
      have k3 := h.nc (r + 1) x (by omega) r1 x0 x1 h2 (by rw [hb]; exact h4)
      have k4 := h.nc b x b0 b1 x0 x1 h4 (by rw [b3]; exact h2)
      rw [ha] at k1
      rw [a3] at k2
      rw [hb] at k3
      rw [b3] at k4
      exact ⟨k1, k2, k3, k4⟩
    have kab := h.nc r (r + 1) r0 (by omega) (by omega) r1 (by omega)
    rw [ha, hb] at kab
    have kba := h.nc a (r + 1) a0 a1 (by omega) r1
    rw [a3, hb] at kba
    by_cases i1' : i = r
    · subst i1'
      rw [val i, if_pos rfl] at hji ⊢
      have : turnQ Q i j ≠ i ∧ turnQ Q i j ≠ i + 1 := by
        rw [val j, if_neg hij, if_neg hji]
        split
        · omega
        · split
          · omega
          · obtain ⟨o1, o2, _⟩ := oth j j0 j1 hij hji (by assumption) (by assumption)
            exact ⟨o1, o2⟩
      omega
    · by_cases i2 : i = r + 1
      · subst i2
        rw [val (r + 1), if_neg i1', if_pos rfl] at hji ⊢
        have : turnQ Q r j ≠ r ∧ turnQ Q r j ≠ r + 1 := by
          rw [val j, if_neg hji, if_neg hij]
          split
          · omega
          · split
            · omega
            · obtain ⟨o1, o2, _⟩ := oth j j0 j1 hji hij (by assumption) (by assumption)
              exact ⟨o1, o2⟩
        omega
      · by_cases i3 : i = a
        · rw [val i, if_neg i1', if_neg i2, if_pos i3] at hji ⊢
          rw [val j]
          by_cases j1' : j = r
          · rw [if_pos j1']; omega
          · by_cases j2 : j = r + 1
            · rw [if_neg j1', if_pos j2]; omega
            · have h3 : j ≠ a := by omega
              rw [if_neg j1', if_neg j2, if_neg h3, if_neg hji]
              have kk := key j j0 j1 j1' j2 h3 hji
              have oo := oth j j0 j1 j1' j2 h3 hji
              omega
        · by_cases i4 : i = b
          · rw [val i, if_neg i1', if_neg i2, if_neg i3, if_pos i4] at hji ⊢
            rw [val j]
            by_cases j1' : j = r
            · rw [if_pos j1']; omega
            · by_cases j2 : j = r + 1
              · rw [if_neg j1', if_pos j2]; omega
              · have h3 : j ≠ b := by omega
                rw [if_neg j1', if_neg j2, if_neg hji, if_neg h3]
                have kk := key j j0 j1 j1' j2 hji h3
                have oo := oth j j0 j1 j1' j2 hji h3
                omega
          · obtain ⟨o1, o2, o3, o4⟩ := oth i i0 i1 i1' i2 i3 i4
            have hval := val j
            rw [val i, if_neg i1', if_neg i2, if_neg i3, if_neg i4] at hji ⊢
            have n1' := n1 hji
            have m1 := h.nc i r i0 i1 r0 rn (fun e => i1' e.symm) (fun e => o1 e.symm)
            have m2 := h.nc i (r + 1) i0 i1 rn0 r1 (fun e => i2 e.symm) (fun e => o2 e.symm)
            clear key oth val kab kba n1
            rw [ha] at m1
            rw [hb] at m2
            rw [hval]
            split
            · omega
            · split
              · omega
              · split
                · omega
                · split
                  · omega
                  · exact n1'

include hP hL in
/-- The first m pairs of rows turned. -/
theorem turned (hN : Nc (gI P) n) : ∀ m : Nat, m ≤ n → ∃ Q, Nc Q n ∧ (∀ i : Int, 0 ≤ i → i < n → Tn L n m i → gI L i = Q i) ∧ ∀ i : Int, 0 ≤ i → i < n → ¬ Tn L n m i → Lk P L n i (Q i) ∧ ¬ Tn L n m (Q i)
  | 0, _ => ⟨gI P, hN, fun i _ _ ⟨k, hk, _⟩ => absurd hk (by omega), fun i i0 i1 _ => ⟨(Lk.refl i0 (by omega)).p i1, fun ⟨k, hk, _⟩ => absurd hk (by omega)⟩⟩
  | m + 1, hm => by
    obtain ⟨Q, h1, h2, h3⟩ := turned hN m (by omega)
    have mono : ∀ i : Int, Tn L n m i → Tn L n (m + 1) i := fun i ⟨k, hk, h⟩ => ⟨k, by omega, h⟩
    by_cases htr : (m : Int) + 1 < n ∧ gI L m = (m : Int) + 1
    · obtain ⟨hr, ht⟩ := htr
      · have hinv := hL.inv (m : Int) (by omega) (by omega)
        rw [ht] at hinv
        have hnm : ¬ Tn L n m (m : Int) := by
          rintro ⟨k, hk, ⟨_, hk2⟩, hk3⟩
          rcases hk3 with hk3 | hk3
          · omega
          · have hki := hL.inv (k : Int) (by omega) (by omega)
            rw [hk2, ← hk3, ht] at hki
            omega
        have hnm1 : ¬ Tn L n m ((m : Int) + 1) := by
          rintro ⟨k, hk, _, hk3⟩
          omega
        obtain ⟨l1, t1⟩ := h3 m (by omega) (by omega) hnm
        obtain ⟨l2, t2⟩ := h3 ((m : Int) + 1) (by omega) hr hnm1
        obtain ⟨a0, a1, a2, a3⟩ := h1.rng (m : Int) (by omega) (by omega)
        obtain ⟨b0, b1, b2, b3⟩ := h1.rng ((m : Int) + 1) (by omega) hr
        have hsplit : ∀ i : Int, Tn L n (m + 1) i ↔ Tn L n m i ∨ i = m ∨ i = (m : Int) + 1 := by
          intro i
          constructor
          · rintro ⟨k, hk, hk2, hk3⟩
            by_cases e : k < m
            · exact .inl ⟨k, e, hk2, hk3⟩
            · obtain rfl : k = m := by omega
              exact .inr hk3
          · rintro (h | h)
            · exact mono i h
            · exact ⟨m, by omega, ⟨hr, ht⟩, h⟩
        refine ⟨turnQ Q m, turn_nc h1 (by omega) hr, fun i i0 i1 hi => ?_, fun i i0 i1 hi => ?_⟩
        · rcases (hsplit i).1 hi with h | rfl | rfl
          · have hne1 : i ≠ m := fun e => hnm (e ▸ h)
            have hne2 : i ≠ (m : Int) + 1 := fun e => hnm1 (e ▸ h)
            have hne3 : i ≠ Q m := fun e => t1 (e ▸ h)
            have hne4 : i ≠ Q ((m : Int) + 1) := fun e => t2 (e ▸ h)
            unfold turnQ
            rw [if_neg hne1, if_neg hne2, if_neg hne3, if_neg hne4]
            exact h2 i i0 i1 h
          · unfold turnQ
            rw [if_pos rfl]
            exact ht
          · unfold turnQ
            rw [if_neg (by omega), if_pos rfl]
            exact hinv
        · have hi' := fun h => hi ((hsplit i).2 h)
          have g1 : ¬ Tn L n m i := fun h => hi' (.inl h)
          have g2 : i ≠ m := fun h => hi' (.inr (.inl h))
          have g3 : i ≠ (m : Int) + 1 := fun h => hi' (.inr (.inr h))
          have hturn : Lk P L n (m : Int) ((m : Int) + 1) := by
            have := (Lk.refl (P := P) (L := L) (n := n) (a := (m : Int)) (by omega) (by omega)).l
            rwa [ht] at this
          unfold turnQ
          rw [if_neg g2, if_neg g3]
          by_cases e1 : i = Q m
          · rw [if_pos e1]
            have ne : Q ((m : Int) + 1) ≠ m := fun e => by
              have := b3
              rw [e] at this
              omega
            refine ⟨?_, fun h => ?_⟩
            · rw [e1]
              exact (l1.symm hP hL).trans (hturn.trans l2)
            · rcases (hsplit _).1 h with h | h | h
              · exact t2 h
              · exact ne h
              · exact b2 h
          · rw [if_neg e1]
            by_cases e2 : i = Q ((m : Int) + 1)
            · rw [if_pos e2]
              have ne : Q m ≠ (m : Int) + 1 := fun e => by
                have := a3
                rw [e] at this
                omega
              refine ⟨?_, fun h => ?_⟩
              · rw [e2]
                exact (l2.symm hP hL).trans ((hturn.symm hP hL).trans l1)
              · rcases (hsplit _).1 h with h | h | h
                · exact t1 h
                · exact a2 h
                · exact ne h
            · rw [if_neg e2]
              obtain ⟨c1, c2⟩ := h3 i i0 i1 g1
              obtain ⟨d0, d1, d2, d3⟩ := h1.rng i i0 i1
              refine ⟨c1, fun h => ?_⟩
              rcases (hsplit _).1 h with h | h | h
              · exact c2 h
              · rw [h] at d3; exact e1 d3.symm
              · rw [h] at d3; exact e2 d3.symm
    · have hsplit : ∀ i : Int, Tn L n (m + 1) i ↔ Tn L n m i := by
        intro i
        constructor
        · rintro ⟨k, hk, hk2, hk3⟩
          by_cases e : k < m
          · exact ⟨k, e, hk2, hk3⟩
          · obtain rfl : k = m := by omega
            exact absurd hk2 htr
        · exact mono i
      exact ⟨Q, h1, fun i i0 i1 hi => h2 i i0 i1 ((hsplit i).1 hi), fun i i0 i1 hi => by
        obtain ⟨c1, c2⟩ := h3 i i0 i1 (fun h => hi ((hsplit i).2 h))
        exact ⟨c1, fun h => c2 ((hsplit _).1 h)⟩⟩

theorem Nc.congr {Q Q' : Int → Int} (h : Nc Q n) (he : ∀ i : Int, 0 ≤ i → i < n → Q' i = Q i) : Nc Q' n := by
  refine ⟨fun i i0 i1 => ?_, fun i j i0 i1 j0 j1 hij hji => ?_⟩
  · obtain ⟨a, b, c, d⟩ := h.rng i i0 i1
    rw [he i i0 i1, he _ a b]
    exact ⟨a, b, c, d⟩
  · rw [he i i0 i1] at hji ⊢
    rw [he j j0 j1]
    exact h.nc i j i0 i1 j0 j1 hij hji

include hP hL in
theorem flat_nested (hN : Nc (gI P) n) (hF : Flat L n) : Nc (gI (pass P L n).1) n := by
  obtain ⟨Q, h1, h2, h3⟩ := turned hP hL hN n (Nat.le_refl _)
  have str : ∀ i : Int, 0 ≤ i → i < n → ¬ Tn L n n i → gI L i = (n : Int) + i ∧ gI L ((n : Int) + i) = i := by
    intro i i0 i1 hi
    rcases hF i i0 i1 with h | ⟨q, hq, q0, q1, e1, e2, e3⟩
    · exact h
    · exfalso
      refine hi ?_
      obtain ⟨k, rfl⟩ := Int.eq_ofNat_of_zero_le i0
      obtain ⟨m, rfl⟩ := Int.eq_ofNat_of_zero_le q0
      rcases hq with hq | hq
      · exact ⟨k, by omega, ⟨by omega, by omega⟩, .inl rfl⟩
      · exact ⟨m, by omega, ⟨by omega, by omega⟩, .inr (by omega)⟩
  refine h1.congr fun i i0 i1 => ?_
  obtain ⟨q0, q1, q2, q3⟩ := h1.rng i i0 i1
  have hlk : Lk P L n ((n : Int) + i) ((n : Int) + Q i) := by
    by_cases ht : Tn L n n i
    · have e := h2 i i0 i1 ht
      rcases hF i i0 i1 with ⟨e1, _⟩ | ⟨q, hq, r0, r1, e1, e2, e3⟩
      · omega
      · have := (Lk.refl (P := P) (L := L) (n := n) (a := (n : Int) + i) (by omega) (by omega)).l
        rw [e2, ← e1, e] at this
        exact this
    · obtain ⟨c1, c2⟩ := h3 i i0 i1 ht
      obtain ⟨s1, s2⟩ := str i i0 i1 ht
      obtain ⟨s3, s4⟩ := str (Q i) q0 q1 c2
      have f1 := (Lk.refl (P := P) (L := L) (n := n) (a := (n : Int) + i) (by omega) (by omega)).l
      rw [s2] at f1
      have f2 := (f1.trans c1).l
      rwa [s3] at f2
  rcases (pass_ends hP hL ⟨i0, i1⟩ ⟨q0, q1⟩).1 hlk with h | h
  · exact absurd h q2
  · exact h.symm
end

theorem nbrs_nc {n : Nat} (hn : n % 2 = 0) : Nc (gI (nbrsK n)) n := by
  refine ⟨fun i i0 i1 => ?_, fun i j i0 i1 j0 j1 hij hji => ?_⟩
  · have h := nbrsK_pair hn
    exact ⟨h.lo i i0 i1, h.hi i i0 i1, h.ne i i0 i1, h.inv i i0 i1⟩
  · rw [nbrsK_get i0 i1] at hji ⊢
    rw [nbrsK_get j0 j1]
    split at hji <;> split <;> omega

theorem links_flat {p : Pan} (hp : Ok p) (hB : ∀ k ∈ p.B, k ≠ 0) {X : Int} (hX : 0 < X ∧ X < 2 * p.W) : Flat (links p X) (colN p) := by
  have h1 := hp.h1
  have hn : (colN p : Int) = 2 * p.H := by unfold colN; omega
  intro r r0 r1
  rw [hn] at r1 ⊢
  have hrow : rowL p r = r := by unfold rowL; rw [if_pos r1]
  have hrow2 : rowL p (2 * p.H + r) = r := by unfold rowL; rw [if_neg (by omega)]; omega
  obtain ⟨y, hy⟩ : ∃ y, y = ptL p X r := ⟨_, rfl⟩
  obtain ⟨o, ho⟩ : ∃ o, o = othL p X r := ⟨_, rfl⟩
  have hy2 : ptL p X (2 * p.H + r) = y := by rw [hy]; unfold ptL; rw [hrow, hrow2]
  have ho2 : othL p X (2 * p.H + r) = o := by rw [ho]; unfold othL; rw [hrow, hrow2]
  have hyv : y = if (X + r) % 2 = 1 then r else r + 1 := by rw [hy]; unfold ptL; rw [hrow]
  have hov : o = if (X + r) % 2 = 1 then r - 1 else r + 1 := by rw [ho]; unfold othL; rw [hrow]
  rw [links_get r0 (by omega), links_get (by omega) (by omega)]
  have e1 : linkA p X r = (if y = 0 ∨ y = 2 * p.H ∨ brk p X y = 2 then 2 * p.H + r else if brk p X y = 1 then o else 2 * p.H + o) := by
    unfold linkA
    rw [hrow, ← hy, ← ho, if_pos r1, if_pos r1, if_pos r1]
  have e2 : linkA p X (2 * p.H + r) = (if y = 0 ∨ y = 2 * p.H ∨ brk p X y = 2 then r else if brk p X y = 1 then 2 * p.H + o else o) := by
    unfold linkA
    have hb : ¬ 2 * p.H + r < 2 * p.H := by omega
    rw [hrow2, hy2, ho2, if_neg hb, if_neg hb, if_neg hb]
  by_cases hc : y = 0 ∨ y = 2 * p.H ∨ brk p X y = 2
  · rw [if_pos hc] at e1 e2
    exact .inl ⟨e1, e2⟩
  · rw [if_neg hc] at e1 e2
    have hk : brk p X y = 1 := by
      have hXy : Has p X y := ⟨by omega, by omega, by split at hyv <;> omega, by split at hyv <;> omega, by split at hyv <;> omega⟩
      have hE : ¬ Edge p X y := by unfold Edge; omega
      obtain ⟨n0, n1, _⟩ := num_in hp hXy hE
      have hb : brk p X y = p.B.getD (num p X y).toNat 0 := by unfold brk; rw [if_neg hE]
      have hlt : (num p X y).toNat < p.B.length := by omega
      have hm : p.B.getD (num p X y).toNat 0 ∈ p.B := by
        simp only [List.getD, List.getElem?_eq_getElem hlt, Option.getD_some]
        exact List.getElem_mem hlt
      have k1 := hp.kind _ hm
      have k2 := hB _ hm
      rw [← hb] at k1 k2
      omega
    rw [if_pos hk] at e1 e2
    right
    refine ⟨o, by split at hov <;> omega, by split at hov <;> split at hyv <;> omega, by split at hov <;> split at hyv <;> omega, e1, e2, ?_⟩
    have hi := linkA_inv (p := p) (X := X) r0 (by omega)
    rw [e1] at hi
    rw [links_get (by split at hov <;> split at hyv <;> omega) (by split at hov <;> split at hyv <;> omega)]
    exact hi

/-- Without crossings the pairings from the left are nested. -/
theorem colL_nested {p : Pan} (hp : Ok p) (hB : ∀ k ∈ p.B, k ≠ 0) : ∀ x : Nat, (x : Int) < 2 * p.W → Nc (gI (colL p x).1) (colN p)
  | 0, _ => nbrs_nc (by unfold colN; omega)
  | x + 1, h => by
    have h1 := hp.h1
    exact flat_nested (sideL hp x (by omega)).pair (links_pair h1 _) (colL_nested hp hB x (by omega)) (links_flat hp hB ⟨by omega, by omega⟩)
end Knot
