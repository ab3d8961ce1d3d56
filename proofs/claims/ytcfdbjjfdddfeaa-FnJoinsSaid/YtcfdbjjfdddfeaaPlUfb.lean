/-
  Plain mathematics: Ufb. No program is in sight.
-/
import Derived.Test.YtcfdbjjfdddfeaaPlUf
namespace Knot

/-! ### A valid Joined, as it is tested step by step -/

theorem mem_take_gI {l : List Int} {i : Nat} (h : i < l.length) : l.take (i + 1) = l.take i ++ [gI l i] := by
  rw [List.take_add_one]
  simp [gI, List.getD, h]

theorem gI_get {l : List Int} {i : Nat} (h : i < l.length) : gI l i = l[i] := by simp [gI, List.getD, h]

theorem nodup_take {l : List Int} (h : ∀ j : Nat, j < l.length → gI l j ∉ l.take j) : l.Nodup := by
  have key : ∀ i, i ≤ l.length → (l.take i).Nodup := by
    intro i
    induction i with
    | zero => intro _; simp
    | succ i ih =>
      intro hi
      rw [mem_take_gI (by omega), List.nodup_append]
      refine ⟨ih (by omega), by simp, fun a ha b hb => ?_⟩
      simp at hb
      subst hb
      intro e
      subst e
      exact h i (by omega) ha
  have := key l.length (Nat.le_refl _)
  rwa [List.take_length] at this

theorem take_of_nodup {l : List Int} (h : l.Nodup) {j : Nat} (hj : j < l.length) : gI l j ∉ l.take j := by
  intro hm
  have h1 : (l.take (j + 1)).Nodup := h.sublist (List.take_sublist _ _)
  rw [mem_take_gI hj, List.nodup_append] at h1
  exact h1.2.2 _ hm _ (by simp) rfl

/-- The log's elements: in range, each once. -/
def LogIn (par log : List Int) (i : Nat) : Prop := ∀ j : Nat, j < i → (0 ≤ gI log j ∧ gI log j ≤ (par.length : Int) - 1) ∧ gI log j ∉ log.take j
/-- Parents in range, and logged just if they are others. -/
def ParIn (par log : List Int) (n : Nat) : Prop := ∀ k : Nat, k < n → (0 ≤ gI par k ∧ gI par k ≤ (par.length : Int) - 1) ∧ ((k : Int) ∈ log ↔ gI par k ≠ k)
def LogOrd (par log : List Int) (i : Nat) : Prop := ∀ j : Nat, j < i → gI par (gI log j) ∉ log.take j

theorem okJ_iff (par log : List Int) : OkJ par log ↔ (1 ≤ (par.length : Int) ∧ (par.length : Int) ≤ 256) ∧ LogIn par log log.length ∧ ParIn par log par.length ∧ LogOrd par log log.length := by
  constructor
  · intro h
    refine ⟨⟨by have := h.n1; omega, by have := h.n2; omega⟩, fun j hj => ?_, fun k hk => ?_, fun j hj => ?_⟩
    · have hm : gI log j ∈ log := by rw [gI_get hj]; exact List.getElem_mem _
      have := h.llo _ hm
      have := h.lhi _ hm
      exact ⟨⟨by omega, by omega⟩, take_of_nodup h.nd hj⟩
    · have := h.lo k (by omega) (by omega)
      have := h.hi k (by omega) (by omega)
      exact ⟨⟨by omega, by omega⟩, h.logged k (by omega) (by omega)⟩
    · have := h.order j hj
      rwa [← gI_get hj] at this
  · rintro ⟨⟨n1, n2⟩, hl, hp, ho⟩
    have hin : ∀ k ∈ log, 0 ≤ k ∧ k ≤ (par.length : Int) - 1 := by
      intro k hk
      obtain ⟨j, hj, rfl⟩ := List.getElem_of_mem hk
      have := (hl j hj).1
      rwa [gI_get hj] at this
    have hpar : ∀ k : Int, 0 ≤ k → k < par.length → (0 ≤ gI par k ∧ gI par k ≤ (par.length : Int) - 1) ∧ (k ∈ log ↔ gI par k ≠ k) := by
      intro k h0 h1
      obtain ⟨m, rfl⟩ := Int.eq_ofNat_of_zero_le h0
      exact hp m (by omega)
    refine ⟨by omega, by omega, fun k h0 h1 => (hpar k h0 h1).1.1, fun k h0 h1 => by have := (hpar k h0 h1).1.2; omega, fun k hk => (hin k hk).1, fun k hk => by have := (hin k hk).2; omega, nodup_take fun j hj => (hl j hj).2, fun k h0 h1 => (hpar k h0 h1).2, fun j hj => ?_⟩
    have := ho j hj
    rwa [gI_get hj] at this

/-- How many of the first are joined to another. -/
def cntJ (par : List Int) : Nat → Nat
  | 0 => 0
  | k + 1 => cntJ par k + (if gI par k = k then 0 else 1)
theorem cntJ_le (par : List Int) : ∀ k, cntJ par k ≤ k
  | 0 => Nat.le_refl _
  | k + 1 => by
    have := cntJ_le par k
    unfold cntJ
    split <;> omega
def othersJ (par : List Int) : Nat → List Int
  | 0 => []
  | k + 1 => othersJ par k ++ (if gI par k = k then [] else [(k : Int)])
theorem othersJ_length (par : List Int) : ∀ k, (othersJ par k).length = cntJ par k
  | 0 => rfl
  | k + 1 => by
    unfold othersJ cntJ
    rw [List.length_append, othersJ_length par k]
    split <;> simp
theorem othersJ_mem (par : List Int) (x : Int) : ∀ k, x ∈ othersJ par k ↔ 0 ≤ x ∧ x < (k : Int) ∧ gI par x ≠ x
  | 0 => by simp [othersJ]; omega
  | k + 1 => by
    unfold othersJ
    rw [List.mem_append, othersJ_mem par x k]
    by_cases e : gI par k = k
    · simp only [if_pos e]
      constructor
      · rintro (⟨h1, h2, h3⟩ | h)
        · exact ⟨h1, by omega, h3⟩
        · simp at h
      · rintro ⟨h1, h2, h3⟩
        left
        refine ⟨h1, ?_, h3⟩
        have : x ≠ k := fun e' => h3 (by rw [e', e])
        omega
    · simp only [if_neg e]
      constructor
      · rintro (⟨h1, h2, h3⟩ | h)
        · exact ⟨h1, by omega, h3⟩
        · simp at h
          subst h
          exact ⟨by omega, by omega, e⟩
      · rintro ⟨h1, h2, h3⟩
        by_cases e' : x = k
        · right; simp [e']
        · left; exact ⟨h1, by omega, h3⟩
theorem othersJ_nodup (par : List Int) : ∀ k, (othersJ par k).Nodup
  | 0 => by simp [othersJ]
  | k + 1 => by
    unfold othersJ
    rw [List.nodup_append]
    refine ⟨othersJ_nodup par k, by split <;> simp, fun a ha b hb => ?_⟩
    have := ((othersJ_mem par a k).1 ha).2.1
    split at hb
    · simp at hb
    · simp at hb; omega

theorem sub_length {N l : List Int} (hd : l.Nodup) (hs : ∀ x ∈ l, x ∈ N) : l.length ≤ N.length := by
  have hnd : (l.map fun x => N.idxOf x).Nodup := by
    rw [List.nodup_iff_pairwise_ne, List.pairwise_map]
    refine List.Pairwise.imp_of_mem ?_ (List.nodup_iff_pairwise_ne.1 hd)
    intro a b ha hb hne e
    have h1 := List.idxOf_lt_length_of_mem (hs a ha)
    have h2 := List.idxOf_lt_length_of_mem (hs b hb)
    have e1 : N[N.idxOf a] = a := List.getElem_idxOf h1
    have e2 : N[N.idxOf b] = b := List.getElem_idxOf h2
    apply hne
    rw [← e1, ← e2]
    congr 1
  have := pigeon N.length _ hnd (by
    intro x hx
    obtain ⟨k, hk, rfl⟩ := List.mem_map.1 hx
    exact List.idxOf_lt_length_of_mem (hs k hk))
  simpa using this

/-- The log's elements as the program tests them. -/
def LogFit (par log : List Int) (i : Nat) : Prop :=
  ∀ j : Nat, j < i → (0 ≤ gI log j ∧ gI log j ≤ (par.length : Int) - 1) ∧ gI log j ∉ log.take j ∧ gI par (gI log j) ≠ gI log j ∧ gI par (gI log j) ∉ log.take j
def ParRange (par : List Int) (n : Nat) : Prop := ∀ k : Nat, k < n → 0 ≤ gI par k ∧ gI par k ≤ (par.length : Int) - 1

theorem okJ_fit (par log : List Int) : OkJ par log ↔ (1 ≤ (par.length : Int) ∧ (par.length : Int) ≤ 256) ∧ ParRange par par.length ∧ log.length = cntJ par par.length ∧ LogFit par log log.length := by
  rw [okJ_iff]
  constructor
  · rintro ⟨h1, h2, h3, h4⟩
    refine ⟨h1, fun k hk => (h3 k hk).1, ?_, fun j hj => ?_⟩
    · rw [← othersJ_length]
      have hd : log.Nodup := nodup_take fun j hj => (h2 j hj).2
      have hm : ∀ x, x ∈ log ↔ x ∈ othersJ par par.length := by
        intro x
        rw [othersJ_mem]
        constructor
        · intro hx
          obtain ⟨j, hj, rfl⟩ := List.getElem_of_mem hx
          have hb := (h2 j hj).1
          rw [gI_get hj] at hb
          have hp := (h3 (log[j]).toNat (by omega)).2
          rw [show (((log[j]).toNat : Nat) : Int) = log[j] by omega] at hp
          exact ⟨hb.1, by omega, hp.1 hx⟩
        · rintro ⟨a, b, c⟩
          have hp := (h3 x.toNat (by omega)).2
          rw [show ((x.toNat : Nat) : Int) = x by omega] at hp
          exact hp.2 c
      have ha := sub_length hd fun x hx => (hm x).1 hx
      have hb := sub_length (othersJ_nodup par par.length) fun x hx => (hm x).2 hx
      omega
    · have hb := (h2 j hj).1
      refine ⟨hb, (h2 j hj).2, ?_, h4 j hj⟩
      have hp := (h3 (gI log j).toNat (by omega)).2
      rw [show (((gI log j).toNat : Nat) : Int) = gI log j by omega] at hp
      exact hp.1 (by rw [gI_get hj]; exact List.getElem_mem _)
  · rintro ⟨h1, h2, h3, h4⟩
    have hd : log.Nodup := nodup_take fun j hj => (h4 j hj).2.1
    have hs : ∀ x ∈ log, x ∈ othersJ par par.length := by
      intro x hx
      obtain ⟨j, hj, rfl⟩ := List.getElem_of_mem hx
      have := h4 j hj
      rw [gI_get hj] at this
      rw [othersJ_mem]
      exact ⟨this.1.1, by omega, this.2.2.1⟩
    refine ⟨h1, fun j hj => ⟨(h4 j hj).1, (h4 j hj).2.1⟩, fun k hk => ⟨h2 k hk, ?_⟩, fun j hj => (h4 j hj).2.2.2⟩
    constructor
    · intro hm
      exact ((othersJ_mem par _ _).1 (hs _ hm)).2.2
    · intro hne
      apply Classical.byContradiction
      intro hnm
      have hm : (k : Int) ∈ othersJ par par.length := (othersJ_mem par _ _).2 ⟨by omega, by omega, hne⟩
      have := sub_length (N := othersJ par par.length) (l := (k : Int) :: log) (List.nodup_cons.2 ⟨hnm, hd⟩) (by
        intro x hx
        rcases List.mem_cons.1 hx with rfl | hx
        · exact hm
        · exact hs x hx)
      rw [othersJ_length, List.length_cons] at this
      omega

/-- What has been marked after i elements of the log. -/
def marksJ (n : Nat) (log : List Int) (i : Nat) : List Bool := (List.range n).map fun k : Nat => decide ((k : Int) ∈ log.take i)
theorem marksJ_length (n : Nat) (log : List Int) (i : Nat) : (marksJ n log i).length = n := by simp [marksJ]
theorem marksJ_zero (n : Nat) (log : List Int) : marksJ n log 0 = List.replicate n false := by
  unfold marksJ
  apply List.ext_getElem
  · simp
  · intro j h1 h2
    simp
theorem marksJ_get (n : Nat) (log : List Int) (i : Nat) {k : Int} (h0 : 0 ≤ k) (h1 : k < n) : gB (marksJ n log i) k = decide (k ∈ log.take i) := by
  have h : k.toNat < n := by omega
  have e : ((k.toNat : Nat) : Int) = k := by omega
  unfold gB marksJ
  simp [List.getD, h, e]
theorem marksJ_at (n : Nat) (log : List Int) (i j : Nat) (h : j < (marksJ n log i).length) : (marksJ n log i)[j] = decide ((j : Int) ∈ log.take i) := by
  refine (List.getElem_eq_iff h).2 ?_
  rw [marksJ_length] at h
  unfold marksJ
  simp [h]
theorem marksJ_set (n : Nat) (log : List Int) {i : Nat} (hi : i < log.length) (h0 : 0 ≤ gI log i) : (marksJ n log i).set (gI log i).toNat true = marksJ n log (i + 1) := by
  apply List.ext_getElem
  · simp [marksJ]
  · intro j h1 h2
    rw [List.getElem_set, marksJ_at n log i]
    have e2 : decide ((j : Int) ∈ log.take (i + 1)) = (if (gI log i).toNat = j then true else decide ((j : Int) ∈ log.take i)) := by
      rw [mem_take_gI hi]
      by_cases e : (gI log i).toNat = j
      · rw [if_pos e]
        apply decide_eq_true
        rw [List.mem_append]
        right
        simp
        omega
      · rw [if_neg e]
        apply decide_eq_decide.2
        rw [List.mem_append]
        constructor
        · rintro (h | h)
          · exact h
          · simp at h; omega
        · intro h; exact .inl h
    rw [marksJ_at, e2]

end Knot
