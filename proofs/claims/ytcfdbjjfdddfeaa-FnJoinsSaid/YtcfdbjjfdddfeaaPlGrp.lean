/-
  Plain mathematics: Grp. No program is in sight.
-/
import Derived.Test.YtcfdbjjfdddfeaaPlUf
namespace Knot

/-! ### Groups in the order of their first elements -/

/-- Element k put into the group that r stands for, or into a new one. -/
def putG : List (Int × List Int) → Int → Int → List (Int × List Int)
  | [], r, k => [(r, [k])]
  | a :: t, r, k => if a.1 = r then (a.1, a.2 ++ [k]) :: t else a :: putG t r k
/-- The groups of the first k elements: what stands for each, and its elements. -/
def grpS (par : List Int) : Nat → List (Int × List Int)
  | 0 => []
  | k + 1 => putG (grpS par k) (root par k) k
/-- Where the group of r stands. -/
def idxG : List (Int × List Int) → Int → Option Nat
  | [], _ => none
  | a :: t, r => if a.1 = r then some 0 else (idxG t r).map (· + 1)
theorem idxG_lt : ∀ (gs : List (Int × List Int)) (r : Int) (i : Nat), idxG gs r = some i → ∃ h : i < gs.length, gs[i].1 = r
  | [], r, i, h => by simp [idxG] at h
  | a :: t, r, i, h => by
    unfold idxG at h
    by_cases e : a.1 = r
    · rw [if_pos e] at h
      injection h with h
      subst h
      exact ⟨by simp, e⟩
    · rw [if_neg e] at h
      cases h2 : idxG t r with
      | none => rw [h2] at h; simp at h
      | some j =>
        rw [h2] at h
        simp at h
        subst h
        obtain ⟨h3, h4⟩ := idxG_lt t r j h2
        exact ⟨by simpa using h3, by simpa using h4⟩
theorem putG_known : ∀ (gs : List (Int × List Int)) (r k : Int) (i : Nat) (h : i < gs.length), idxG gs r = some i → putG gs r k = gs.set i (gs[i].1, gs[i].2 ++ [k])
  | [], r, k, i, h, _ => by simp at h
  | a :: t, r, k, i, h, hi => by
    unfold idxG at hi
    unfold putG
    by_cases e : a.1 = r
    · rw [if_pos e] at hi
      injection hi with hi
      subst hi
      rw [if_pos e]
      rfl
    · rw [if_neg e] at hi ⊢
      cases h2 : idxG t r with
      | none => rw [h2] at hi; simp at hi
      | some j =>
        rw [h2] at hi
        simp at hi
        subst hi
        rw [putG_known t r k j (by simpa using h) h2]
        rfl
theorem putG_new : ∀ (gs : List (Int × List Int)) (r k : Int), idxG gs r = none → putG gs r k = gs ++ [(r, [k])]
  | [], r, k, _ => rfl
  | a :: t, r, k, hi => by
    unfold idxG at hi
    unfold putG
    by_cases e : a.1 = r
    · rw [if_pos e] at hi; simp at hi
    · rw [if_neg e] at hi ⊢
      cases h2 : idxG t r with
      | none => rw [putG_new t r k h2]; rfl
      | some j => rw [h2] at hi; simp at hi
theorem idxG_fst : ∀ (gs hs : List (Int × List Int)), gs.map Prod.fst = hs.map Prod.fst → ∀ r, idxG gs r = idxG hs r
  | [], [], _, r => rfl
  | [], b :: t, h, r => by simp at h
  | a :: t, [], h, r => by simp at h
  | a :: t, b :: u, h, r => by
    simp only [List.map_cons, List.cons.injEq] at h
    unfold idxG
    rw [h.1, idxG_fst t u h.2 r]
theorem idxG_set {gs : List (Int × List Int)} {i : Nat} (h : i < gs.length) (l : List Int) (r : Int) : idxG (gs.set i (gs[i].1, l)) r = idxG gs r := by
  apply idxG_fst
  rw [List.map_set]
  refine List.ext_getElem? fun j => ?_
  rw [List.getElem?_set]
  by_cases hj : i = j
  · subst hj; simp [h]
  · rw [if_neg hj]
theorem idxG_snoc : ∀ (gs : List (Int × List Int)) (a : Int × List Int) (r : Int), idxG (gs ++ [a]) r = match idxG gs r with | some i => some i | none => if a.1 = r then some gs.length else none
  | [], a, r => by
    show (if a.1 = r then some 0 else (idxG [] r).map (· + 1)) = _
    by_cases e : a.1 = r <;> simp [e, idxG]
  | b :: t, a, r => by
    show (if b.1 = r then some 0 else (idxG (t ++ [a]) r).map (· + 1)) = _
    rw [idxG_snoc t a r]
    rw [show idxG (b :: t) r = if b.1 = r then some 0 else (idxG t r).map (· + 1) from rfl]
    by_cases e : b.1 = r
    · simp [e]
    · rw [if_neg e, if_neg e]
      cases idxG t r with
      | some i => simp
      | none => by_cases e2 : a.1 = r <;> simp [e2]
/-- The same by where it stands. -/
theorem idxG_put (gs : List (Int × List Int)) (r k x : Int) : idxG (putG gs r k) x = match idxG gs x with | some i => some i | none => if r = x then some gs.length else none := by
  cases h : idxG gs r with
  | some i =>
    obtain ⟨hi, hr⟩ := idxG_lt gs r i h
    rw [putG_known gs r k i hi h, idxG_set hi]
    cases h2 : idxG gs x with
    | some j => rfl
    | none =>
      by_cases e : r = x
      · subst e; rw [h] at h2; simp at h2
      · simp [e]
  | none => rw [putG_new gs r k h, idxG_snoc]
theorem idxG_none {gs : List (Int × List Int)} {r : Int} (h : idxG gs r = none) : ∀ a ∈ gs, a.1 ≠ r := by
  induction gs with
  | nil => intro a ha; simp at ha
  | cons b t ih =>
    unfold idxG at h
    by_cases e : b.1 = r
    · rw [if_pos e] at h; simp at h
    · rw [if_neg e] at h
      intro a ha
      rcases List.mem_cons.1 ha with rfl | ha
      · exact e
      · exact ih (by cases h2 : idxG t r with | none => rfl | some j => rw [h2] at h; simp at h) a ha

/-! ### What the groups are -/
/-- Heads rise, elements rise, all below k; together k elements. -/
structure GrpOk (k : Nat) (gs : List (Int × List Int)) : Prop where
  heads : (gs.map fun a => a.2.headD 0).Pairwise (· < ·)
  each : ∀ a ∈ gs, a.2.Pairwise (· < ·) ∧ a.2 ≠ [] ∧ ∀ x ∈ a.2, 0 ≤ x ∧ x < k
  sum : (gs.map fun a => a.2.length).sum = k
  len : gs.length ≤ k
  nd : (gs.map Prod.fst).Nodup
theorem sum_set (l : List Nat) (i v : Nat) (h : i < l.length) : (l.set i v).sum + l[i] = l.sum + v := by
  induction l generalizing i with
  | nil => simp at h
  | cons a t ih =>
    cases i with
    | zero => simp [List.sum_cons]; omega
    | succ i =>
      have := ih i (by simpa using h)
      simp only [List.set_cons_succ, List.sum_cons, List.getElem_cons_succ]
      omega
theorem grpS_ok (par : List Int) : ∀ k, GrpOk k (grpS par k)
  | 0 => ⟨by simp [grpS], by simp [grpS], by simp [grpS], by simp [grpS], by simp [grpS]⟩
  | k + 1 => by
    have ih := grpS_ok par k
    show GrpOk (k + 1) (putG (grpS par k) (root par k) k)
    generalize grpS par k = gs at *
    generalize root par k = r at *
    cases h : idxG gs r with
    | some i =>
      obtain ⟨hi, hr⟩ := idxG_lt gs r i h
      rw [putG_known gs r k i hi h]
      obtain ⟨e1, e2, e3⟩ := ih.each gs[i] (List.getElem_mem hi)
      refine ⟨?_, ?_, ?_, by rw [List.length_set]; have := ih.len; omega, ?_⟩
      · have e : (gs.set i (gs[i].1, gs[i].2 ++ [(k : Int)])).map (fun a => a.2.headD 0) = gs.map (fun a => a.2.headD 0) := by
          rw [List.map_set]
          refine List.ext_getElem? fun j => ?_
          rw [List.getElem?_set]
          by_cases hj : i = j
          · subst hj
            simp [hi]
            cases h5 : gs[i].2 with
            | nil => exact absurd h5 e2
            | cons x t => rfl
          · rw [if_neg hj]
        rw [e]
        exact ih.heads
      · intro a ha
        rcases List.mem_or_eq_of_mem_set ha with h1 | rfl
        · obtain ⟨f1, f2, f3⟩ := ih.each a h1
          exact ⟨f1, f2, fun x hx => by have := f3 x hx; omega⟩
        · refine ⟨List.pairwise_append.2 ⟨e1, by simp, fun a ha b hb => ?_⟩, by simp, fun x hx => ?_⟩
          · simp at hb
            subst hb
            exact (e3 a ha).2
          · rcases List.mem_append.1 hx with hx | hx
            · have := e3 x hx; omega
            · simp at hx; omega
      · rw [List.map_set]
        have := sum_set (gs.map fun a => a.2.length) i (gs[i].2 ++ [(k : Int)]).length (by simpa using hi)
        simp only [List.getElem_map, List.length_append, List.length_cons, List.length_nil] at this ⊢
        have := ih.sum
        omega
      · have e : (gs.set i (gs[i].1, gs[i].2 ++ [(k : Int)])).map Prod.fst = gs.map Prod.fst := by
          rw [List.map_set]
          refine List.ext_getElem? fun j => ?_
          rw [List.getElem?_set]
          by_cases hj : i = j
          · subst hj; simp [hi]
          · rw [if_neg hj]
        rw [e]
        exact ih.nd
    | none =>
      rw [putG_new gs r k h]
      refine ⟨?_, ?_, ?_, by have := ih.len; simp; omega, ?_⟩
      · rw [List.map_append, List.pairwise_append]
        refine ⟨ih.heads, by simp, fun a ha b hb => ?_⟩
        simp at hb
        subst hb
        obtain ⟨c, hc, rfl⟩ := List.mem_map.1 ha
        obtain ⟨_, f2, f3⟩ := ih.each c hc
        cases h5 : c.2 with
        | nil => exact absurd h5 f2
        | cons x t => exact (f3 x (by rw [h5]; simp)).2
      · intro a ha
        rcases List.mem_append.1 ha with h1 | h1
        · obtain ⟨f1, f2, f3⟩ := ih.each a h1
          exact ⟨f1, f2, fun x hx => by have := f3 x hx; omega⟩
        · simp at h1
          subst h1
          exact ⟨by simp, by simp, fun x hx => by simp at hx; omega⟩
      · rw [List.map_append, List.sum_append]
        simp
        exact ih.sum
      · rw [List.map_append, List.nodup_append]
        refine ⟨ih.nd, by simp, fun a ha b hb => ?_⟩
        simp at hb
        subst hb
        obtain ⟨c, hc, rfl⟩ := List.mem_map.1 ha
        exact idxG_none h c hc
/-- What stands for a group: a root, and each root of an element seen. -/
theorem grpS_mem (par : List Int) : ∀ (k : Nat) (r : Int), r ∈ (grpS par k).map Prod.fst ↔ ∃ j : Nat, j < k ∧ root par j = r
  | 0, r => by simp [grpS]
  | k + 1, r => by
    have ih := grpS_mem par k r
    show r ∈ (putG (grpS par k) (root par k) k).map Prod.fst ↔ _
    have e : (∃ j : Nat, j < k + 1 ∧ root par j = r) ↔ r ∈ (grpS par k).map Prod.fst ∨ root par k = r := by
      rw [ih]
      constructor
      · rintro ⟨j, hj, h⟩
        rcases Nat.lt_or_ge j k with h1 | h1
        · exact .inl ⟨j, h1, h⟩
        · have : j = k := by omega
          subst this
          exact .inr h
      · rintro (⟨j, hj, h⟩ | h)
        · exact ⟨j, by omega, h⟩
        · exact ⟨k, by omega, h⟩
    rw [e]
    generalize grpS par k = gs
    generalize root par k = q
    cases h : idxG gs q with
    | some i =>
      obtain ⟨hi, hr⟩ := idxG_lt gs q i h
      rw [putG_known gs q k i hi h]
      have e : (gs.set i (gs[i].1, gs[i].2 ++ [(k : Int)])).map Prod.fst = gs.map Prod.fst := by
        rw [List.map_set]
        refine List.ext_getElem? fun j => ?_
        rw [List.getElem?_set]
        by_cases hj : i = j
        · subst hj; simp [hi]
        · rw [if_neg hj]
      rw [e]
      constructor
      · exact fun h => .inl h
      · rintro (h | h)
        · exact h
        · subst h
          exact List.mem_map.2 ⟨gs[i], List.getElem_mem hi, hr⟩
    | none =>
      rw [putG_new gs q k h, List.map_append, List.mem_append]
      simp [eq_comm]
/-- As many groups as elements less those that were joined to another. -/
theorem grpS_count {par log : List Int} (h : OkJ par log) : ((grpS par par.length).length : Int) = par.length - log.length := by
  have hn := (grpS_ok par par.length).nd
  -- the groups' heads and the log together are all elements
  have hp : ((grpS par par.length).map Prod.fst ++ log).Perm ((List.range par.length).map Int.ofNat) := by
    rw [List.perm_ext_iff_of_nodup]
    · intro r
      rw [List.mem_append, grpS_mem, List.mem_map]
      constructor
      · rintro (⟨j, hj, rfl⟩ | hr)
        · obtain ⟨a, b, _⟩ := root_spec h.forest (k := (j : Int)) (by omega) (by omega)
          exact ⟨(root par j).toNat, by rw [List.mem_range]; omega, by show ((root par j).toNat : Int) = _; omega⟩
        · have a := h.llo r hr
          have b := h.lhi r hr
          exact ⟨r.toNat, by rw [List.mem_range]; omega, by show (r.toNat : Int) = _; omega⟩
      · rintro ⟨j, hj, rfl⟩
        rw [List.mem_range] at hj
        show (∃ i : Nat, i < par.length ∧ root par i = (j : Int)) ∨ (j : Int) ∈ log
        by_cases hr : gI par j = j
        · exact .inl ⟨j, hj, root_of_root h.forest (by omega) (by omega) hr⟩
        · exact .inr ((h.logged j (by omega) (by omega)).2 hr)
    · rw [List.nodup_append]
      refine ⟨hn, h.nd, fun a ha b hb e => ?_⟩
      subst e
      obtain ⟨j, hj, rfl⟩ := (grpS_mem par par.length a).1 ha
      obtain ⟨a0, b0, c0⟩ := root_spec h.forest (k := (j : Int)) (by omega) (by omega)
      exact (h.logged _ a0 b0).1 hb c0
    · rw [List.nodup_iff_pairwise_ne, List.pairwise_map]
      exact (List.nodup_iff_pairwise_ne.1 List.nodup_range).imp fun h e => h (by injection e)
  have hl := hp.length_eq
  simp at hl
  omega
end Knot
