/-
  Plain mathematics: Conn. No program is in sight.
-/
import Derived.Test.YtcfdbjjfdddfeaaPlLoops
namespace Knot

/-! ### Loops of two pairings are the classes of what both join -/

/-- What two pairings join, from step to step. -/
inductive Jn (P L : List Int) (n : Nat) : Int → Int → Prop
  | refl {a : Int} (h0 : 0 ≤ a) (h1 : a < n) : Jn P L n a a
  | p {a b : Int} (h : Jn P L n a b) : Jn P L n a (gI P b)
  | l {a b : Int} (h : Jn P L n a b) : Jn P L n a (gI L b)

section
variable {P L : List Int} {n : Nat} (hP : Pairing n P) (hL : Pairing n L)
include hP hL

theorem Jn.dom {a b : Int} (h : Jn P L n a b) : (0 ≤ a ∧ a < n) ∧ 0 ≤ b ∧ b < n := by
  induction h with
  | refl h0 h1 => exact ⟨⟨h0, h1⟩, h0, h1⟩
  | p _ ih => exact ⟨ih.1, hP.lo _ ih.2.1 ih.2.2, hP.hi _ ih.2.1 ih.2.2⟩
  | l _ ih => exact ⟨ih.1, hL.lo _ ih.2.1 ih.2.2, hL.hi _ ih.2.1 ih.2.2⟩

omit hP hL in
theorem Jn.trans {a b c : Int} (h : Jn P L n a b) (k : Jn P L n b c) : Jn P L n a c := by
  induction k with
  | refl => exact h
  | p _ ih => exact ih.p
  | l _ ih => exact ih.l

theorem Jn.symm {a b : Int} (h : Jn P L n a b) : Jn P L n b a := by
  induction h with
  | refl h0 h1 => exact .refl h0 h1
  | @p b h ih =>
    obtain ⟨_, b0, b1⟩ := h.dom hP hL
    have e : Jn P L n (gI P b) (gI P (gI P b)) := .p (.refl (hP.lo _ b0 b1) (hP.hi _ b0 b1))
    rw [hP.inv _ b0 b1] at e
    exact e.trans ih
  | @l b h ih =>
    obtain ⟨_, b0, b1⟩ := h.dom hP hL
    have e : Jn P L n (gI L b) (gI L (gI L b)) := .l (.refl (hL.lo _ b0 b1) (hL.hi _ b0 b1))
    rw [hL.inv _ b0 b1] at e
    exact e.trans ih

theorem nxt_dom {a : Int} (h : 0 ≤ a ∧ a < n) : 0 ≤ nxt P L a ∧ nxt P L a < n :=
  have h2 := hP.lo _ h.1 h.2
  have h3 := hP.hi _ h.1 h.2
  ⟨hL.lo _ h2 h3, hL.hi _ h2 h3⟩

theorem nxt_inj {a b : Int} (ha : 0 ≤ a ∧ a < n) (hb : 0 ≤ b ∧ b < n) (h : nxt P L a = nxt P L b) : a = b := by
  unfold nxt at h
  have h1 := congrArg (gI L) h
  rw [hL.inv _ (hP.lo _ ha.1 ha.2) (hP.hi _ ha.1 ha.2), hL.inv _ (hP.lo _ hb.1 hb.2) (hP.hi _ hb.1 hb.2)] at h1
  have h2 := congrArg (gI P) h1
  rwa [hP.inv _ ha.1 ha.2, hP.inv _ hb.1 hb.2] at h2

theorem itd (i : Nat) {a : Int} (ha : 0 ≤ a ∧ a < n) : 0 ≤ it (nxt P L) i a ∧ it (nxt P L) i a < n :=
  it_mem (nxt P L) (fun a => 0 ≤ a ∧ a < (n : Int)) (fun _ h => nxt_dom hP hL h) i a ha

/-- No walk leads to its own partner. -/
theorem no_partner (d : Nat) : ∀ a : Int, 0 ≤ a ∧ a < n → it (nxt P L) d a ≠ gI P a := by
  induction d using Nat.strongRecOn with
  | _ d ih =>
    intro a ha h
    match d, h with
    | 0, h => exact hP.ne _ ha.1 ha.2 h.symm
    | 1, h => exact hL.ne _ (hP.lo _ ha.1 ha.2) (hP.hi _ ha.1 ha.2) h
    | d + 2, h =>
      have hd := itd hP hL (d + 1) ha
      have h1 : gI L (gI P (it (nxt P L) (d + 1) a)) = gI P a := h
      have h2 := congrArg (gI L) h1
      rw [hL.inv _ (hP.lo _ hd.1 hd.2) (hP.hi _ hd.1 hd.2)] at h2
      have h3 := congrArg (gI P) h2
      rw [hP.inv _ hd.1 hd.2, it_succ'] at h3
      exact ih d (by omega) (nxt P L a) (nxt_dom hP hL ha) h3

/-- The first return. -/
theorem nxt_back {a : Int} (ha : 0 ≤ a ∧ a < n) : ∃ T, 1 ≤ T ∧ T ≤ n ∧ it (nxt P L) T a = a ∧ ∀ i, 1 ≤ i → i < T → it (nxt P L) i a ≠ a :=
  comes_back (nxt P L) Int.toNat n (fun a => 0 ≤ a ∧ a < (n : Int)) (fun _ h => nxt_dom hP hL h) (fun _ _ h k e => nxt_inj hP hL h k e) (fun a h => by omega) (fun a b h k e => by omega) a ha

/-- What the first i steps from a mark. -/
def marks (P L : List Int) (a : Int) (s : List Bool) : Nat → List Bool
  | 0 => s
  | i + 1 => sB (sB (marks P L a s i) (it (nxt P L) i a)) (gI P (it (nxt P L) i a))

omit hP hL in
theorem marks_length (a : Int) (s : List Bool) : ∀ i, (marks P L a s i).length = s.length
  | 0 => rfl
  | i + 1 => by rw [marks, sB_length, sB_length, marks_length a s i]

omit hP hL in
theorem gB_sB {s : List Bool} {x a : Int} (x0 : 0 ≤ x) (a0 : 0 ≤ a) (h : a < s.length) : gB (sB s a) x = true ↔ x = a ∨ gB s x = true := by
  unfold gB sB
  simp only [List.getD, List.getElem?_set]
  by_cases e : a.toNat = x.toNat
  · have : x = a := by omega
    subst this
    rw [if_pos rfl, if_pos (by omega)]
    simp
  · rw [if_neg e]
    have : ¬ x = a := by omega
    simp [this]

theorem marks_iff {a : Int} (ha : 0 ≤ a ∧ a < n) {s : List Bool} (hs : s.length = n) {x : Int} (hx : 0 ≤ x) : ∀ i, gB (marks P L a s i) x = true ↔ gB s x = true ∨ ∃ j, j < i ∧ (x = it (nxt P L) j a ∨ x = gI P (it (nxt P L) j a))
  | 0 => by simp [marks]
  | i + 1 => by
    have hd := itd hP hL i ha
    have l1 := marks_length (P := P) (L := L) a s i
    rw [marks, gB_sB hx (hP.lo _ hd.1 hd.2) (by rw [sB_length, l1, hs]; exact hP.hi _ hd.1 hd.2), gB_sB hx hd.1 (by rw [l1, hs]; exact hd.2), marks_iff ha hs hx i]
    constructor
    · rintro (h | h | h | ⟨j, hj, h⟩)
      · exact .inr ⟨i, by omega, .inr h⟩
      · exact .inr ⟨i, by omega, .inl h⟩
      · exact .inl h
      · exact .inr ⟨j, by omega, h⟩
    · rintro (h | ⟨j, hj, h⟩)
      · exact .inr (.inr (.inl h))
      · by_cases e : j = i
        · subst e
          rcases h with h | h
          · exact .inr (.inl h)
          · exact .inl h
        · exact .inr (.inr (.inr ⟨j, by omega, h⟩))

/-- What is met on the way round is what is joined. -/
theorem round_jn {a : Int} (ha : 0 ≤ a ∧ a < n) {T : Nat} (hT1 : 1 ≤ T) (hT : it (nxt P L) T a = a) (x : Int) :
    (∃ j, j < T ∧ (x = it (nxt P L) j a ∨ x = gI P (it (nxt P L) j a))) ↔ Jn P L n a x := by
  constructor
  · rintro ⟨j, _, h⟩
    have hj : ∀ j, Jn P L n a (it (nxt P L) j a) := by
      intro j
      induction j with
      | zero => exact .refl ha.1 ha.2
      | succ j ih => exact ih.p.l
    rcases h with rfl | rfl
    · exact hj j
    · exact (hj j).p
  · intro h
    induction h with
    | refl h0 h1 => exact ⟨0, hT1, .inl rfl⟩
    | p h ih =>
      obtain ⟨j, hj, rfl | rfl⟩ := ih
      · exact ⟨j, hj, .inr rfl⟩
      · have hd := itd hP hL j ha
        exact ⟨j, hj, .inl (hP.inv _ hd.1 hd.2)⟩
    | l h ih =>
      obtain ⟨j, hj, rfl | rfl⟩ := ih
      · -- L of a_j is the partner of the one before
        have key : ∀ j, 1 ≤ j → gI L (it (nxt P L) j a) = gI P (it (nxt P L) (j - 1) a) := by
          intro j hj
          obtain ⟨j, rfl⟩ : ∃ m, j = m + 1 := ⟨j - 1, by omega⟩
          have hd := itd hP hL j ha
          exact hL.inv _ (hP.lo _ hd.1 hd.2) (hP.hi _ hd.1 hd.2)
        by_cases h0 : j = 0
        · subst h0
          have := key T hT1
          rw [hT] at this
          exact ⟨T - 1, by omega, .inr this⟩
        · exact ⟨j - 1, by omega, .inr (key j (by omega))⟩
      · by_cases hl : j + 1 < T
        · exact ⟨j + 1, hl, .inl rfl⟩
        · have e : j + 1 = T := by omega
          refine ⟨0, hT1, .inl ?_⟩
          show it (nxt P L) (j + 1) a = a
          rw [e, hT]

/-- A set that is closed under what is joined. -/
def Shut (P L : List Int) (n : Nat) (s : List Bool) : Prop := ∀ a b : Int, Jn P L n a b → gB s a = true → gB s b = true

theorem cyc_marks {a : Int} (ha : 0 ≤ a ∧ a < n) {s : List Bool} (hs : s.length = n) (hc : Shut P L n s) (hn : gB s a = false) {T : Nat} (hT1 : 1 ≤ T) (hT : it (nxt P L) T a = a) (hmin : ∀ i, 1 ≤ i → i < T → it (nxt P L) i a ≠ a) :
    ∀ m f, m ≤ T → 1 ≤ f → cyc P L (f + m) (it (nxt P L) (T - m) a) (marks P L a s (T - m)) = marks P L a s T
  | 0, f, _, hf => by
    obtain ⟨f, rfl⟩ : ∃ m, f = m + 1 := ⟨f - 1, by omega⟩
    rw [Nat.sub_zero, Nat.add_zero]
    refine cyc_stop f ?_
    rw [hT]
    exact (marks_iff hP hL ha hs ha.1 T).2 (.inr ⟨0, hT1, .inl rfl⟩)
  | m + 1, f, hm, hf => by
    have hnot : gB (marks P L a s (T - (m + 1))) (it (nxt P L) (T - (m + 1)) a) = false := by
      generalize hi : T - (m + 1) = i
      have hd := itd hP hL i ha
      cases hb : gB (marks P L a s i) (it (nxt P L) i a)
      · rfl
      · exfalso
        rcases (marks_iff hP hL ha hs hd.1 i).1 hb with h | ⟨j, hj, h⟩
        · have hr := (round_jn hP hL ha hT1 hT _).1 ⟨i, by omega, .inl rfl⟩
          have := hc _ _ (hr.symm hP hL) h
          rw [hn] at this
          cases this
        · have he : it (nxt P L) i a = it (nxt P L) (i - j) (it (nxt P L) j a) := by rw [← it_add]; congr 1; omega
          have hdj := itd hP hL j ha
          rcases h with h | h
          · have h2 : it (nxt P L) j (it (nxt P L) (i - j) a) = it (nxt P L) j a := by rw [← it_add, ← h]; congr 1; omega
            have h3 := it_inj (nxt P L) (fun a => 0 ≤ a ∧ a < (n : Int)) (fun _ h => nxt_dom hP hL h) (fun _ _ h k e => nxt_inj hP hL h k e) j _ _ (itd hP hL (i - j) ha) ha h2
            exact hmin (i - j) (by omega) (by omega) h3
          · rw [he] at h
            exact no_partner hP hL _ _ hdj h
    have hstep : cyc P L (f + (m + 1)) (it (nxt P L) (T - (m + 1)) a) (marks P L a s (T - (m + 1))) = cyc P L (f + m) (it (nxt P L) (T - m) a) (marks P L a s (T - m)) := by
      have e1 : f + (m + 1) = (f + m) + 1 := by omega
      have e2 : T - m = (T - (m + 1)) + 1 := by omega
      rw [e1, e2]
      conv => lhs; unfold cyc
      rw [if_neg (by rw [hnot]; simp)]
      rfl
    rw [hstep]
    exact cyc_marks ha hs hc hn hT1 hT hmin m f (by omega) hf

theorem cyc_iff {a : Int} (ha : 0 ≤ a ∧ a < n) {s : List Bool} (hs : s.length = n) (hc : Shut P L n s) (hn : gB s a = false) {x : Int} (hx : 0 ≤ x) :
    gB (cyc P L (n + 1) a s) x = true ↔ gB s x = true ∨ Jn P L n a x := by
  obtain ⟨T, h1, h2, h3, h4⟩ := nxt_back hP hL ha
  have e := cyc_marks hP hL ha hs hc hn h1 h3 h4 T (n + 1 - T) (Nat.le_refl _) (by omega)
  rw [show n + 1 - T + T = n + 1 by omega, Nat.sub_self] at e
  have e' : cyc P L (n + 1) a s = marks P L a s T := e
  rw [e', marks_iff hP hL ha hs hx T, round_jn hP hL ha h1 h3]

/-- The count of the loops, with one element of each. s0: what was seen before, closed. -/
structure Looped (P L : List Int) (n : Nat) (s0 : List Bool) (k : Nat) (r : Int × List Bool) (reps : List Int) : Prop where
  count : r.1 = reps.length
  len : r.2.length = n
  mem : ∀ a ∈ reps, (0 ≤ a ∧ a < n) ∧ gB s0 a = false
  apart : reps.Pairwise fun a b => ¬ Jn P L n a b
  seen : ∀ x : Int, 0 ≤ x → x < n → (gB r.2 x = true ↔ gB s0 x = true ∨ ∃ a ∈ reps, Jn P L n a x)
  all : ∀ x : Int, 0 ≤ x → x < k → gB r.2 x = true

theorem looped {s0 : List Bool} (hs : s0.length = n) (hc : Shut P L n s0) : ∀ k, k ≤ n → ∃ reps, Looped P L n s0 k (cycTo P L n s0 k) reps
  | 0, _ => ⟨[], ⟨rfl, hs, by simp, by simp, by simp [cycTo], fun x h0 h1 => by omega⟩⟩
  | k + 1, hk => by
    obtain ⟨reps, h⟩ := looped hs hc k (by omega)
    cases hb : gB (cycTo P L n s0 k).2 k
    · rw [cycTo_new hb]
      have hcl : Shut P L n (cycTo P L n s0 k).2 := by
        intro a b hab ha
        obtain ⟨⟨a0, a1⟩, b0, b1⟩ := hab.dom hP hL
        rcases (h.seen a a0 a1).1 ha with h1 | ⟨r, hr, h1⟩
        · exact (h.seen b b0 b1).2 (.inl (hc _ _ hab h1))
        · exact (h.seen b b0 b1).2 (.inr ⟨r, hr, h1.trans hab⟩)
      have hd : (0 : Int) ≤ (k : Int) ∧ (k : Int) < n := by omega
      have hnk : ¬ (gB s0 k = true ∨ ∃ a ∈ reps, Jn P L n a k) := fun hh => by
        have := (h.seen k hd.1 hd.2).2 hh
        rw [hb] at this
        cases this
      refine ⟨reps ++ [(k : Int)], ⟨?_, ?_, ?_, ?_, ?_, ?_⟩⟩
      · simp [h.count]
      · show (cyc _ _ _ _ _).length = n
        rw [cyc_length, h.len]
      · intro a ha
        rcases List.mem_append.1 ha with h1 | h1
        · exact h.mem a h1
        · simp at h1
          subst h1
          refine ⟨hd, ?_⟩
          cases h2 : gB s0 k
          · rfl
          · exact absurd (.inl h2) hnk
      · rw [List.pairwise_append]
        exact ⟨h.apart, by simp, fun a ha b hb2 => by
          simp at hb2
          subst hb2
          exact fun hj => hnk (.inr ⟨a, ha, hj⟩)⟩
      · intro x h0 h1
        show gB (cyc _ _ _ _ _) x = true ↔ _
        rw [cyc_iff hP hL hd h.len hcl hb h0, h.seen x h0 h1]
        constructor
        · rintro ((h2 | ⟨a, ha, h2⟩) | h2)
          · exact .inl h2
          · exact .inr ⟨a, List.mem_append.2 (.inl ha), h2⟩
          · exact .inr ⟨k, List.mem_append.2 (.inr (by simp)), h2⟩
        · rintro (h2 | ⟨a, ha, h2⟩)
          · exact .inl (.inl h2)
          · rcases List.mem_append.1 ha with h3 | h3
            · exact .inl (.inr ⟨a, h3, h2⟩)
            · simp at h3
              subst h3
              exact .inr h2
      · intro x h0 h1
        show gB (cyc _ _ _ _ _) x = true
        rw [cyc_iff hP hL hd h.len hcl hb h0]
        by_cases hx : x < k
        · exact .inl (h.all x h0 hx)
        · have e : x = k := by omega
          subst e
          exact .inr (.refl hd.1 hd.2)
    · rw [cycTo_seen hb]
      refine ⟨reps, ⟨h.count, h.len, h.mem, h.apart, h.seen, fun x h0 h1 => ?_⟩⟩
      by_cases hx : x < k
      · exact h.all x h0 hx
      · have e : x = k := by omega
        subst e
        exact hb

/-- As many loops as classes among what was not seen before. -/
theorem looped_reps {s0 : List Bool} {r : Int × List Bool} {reps : List Int} (h : Looped P L n s0 n r reps) :
    Reps (Jn P L n) (fun a => (0 ≤ a ∧ a < (n : Int)) ∧ gB s0 a = false) reps :=
  ⟨h.mem, h.apart, fun x ⟨⟨h0, h1⟩, h2⟩ => by
    rcases (h.seen x h0 h1).1 (h.all x h0 h1) with h3 | ⟨a, ha, h3⟩
    · rw [h2] at h3; cases h3
    · exact ⟨a, ha, h3.symm hP hL⟩⟩

theorem loopsOf_reps : ∃ reps : List Int, loopsOf P L n = reps.length ∧ Reps (Jn P L n) (fun a => 0 ≤ a ∧ a < (n : Int)) reps := by
  have hc : Shut P L n (List.replicate n false) := by
    intro a b _ h
    unfold gB at h
    simp [List.getD, List.getElem?_replicate] at h
    split at h <;> simp at h
  obtain ⟨reps, h⟩ := looped hP hL (s0 := List.replicate n false) (by simp) hc n (Nat.le_refl _)
  refine ⟨reps, h.count, ?_⟩
  have hr := looped_reps hP hL h
  have hf : ∀ a : Int, gB (List.replicate n false) a = false := by
    intro a
    unfold gB
    simp [List.getD, List.getElem?_replicate]
    split <;> simp
  exact ⟨fun a ha => (hr.mem a ha).1, hr.apart, fun a ha => hr.all a ⟨ha, hf a⟩⟩
end
end Knot
