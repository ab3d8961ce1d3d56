/-
  Plain mathematics: Sid. No program is in sight.
-/
import Derived.Test.YtcfdbjjfdddfeaaPlPas
namespace Knot

/-! ### One side of a column: what is joined there, and how many classes are closed -/

/-- R joins the places of S; of the column's places (col) those that P pairs are joined and no others; c classes do not meet the column. -/
structure Side (S : Nat → Prop) (R : Nat → Nat → Prop) (col : Nat → Nat) (n : Nat) (P : List Int) (c : Int) : Prop where
  pair : Pairing n P
  refl : ∀ a, S a → R a a
  symm : ∀ a b, R a b → R b a
  trans : ∀ a b d, R a b → R b d → R a d
  dom : ∀ a b, R a b → S a ∧ S b
  col_in : ∀ i, i < n → S (col i)
  col_inj : ∀ i j, i < n → j < n → col i = col j → i = j
  ends : ∀ i j : Nat, i < n → j < n → (R (col i) (col j) ↔ (j : Int) = i ∨ (j : Int) = gI P i)
  closed : ∃ reps : List Nat, c = reps.length ∧ Reps R (fun a => S a ∧ ∀ i, i < n → ¬ R a (col i)) reps

/-- The places of the column and of the next one. -/
def node (col col' : Nat → Nat) (n : Nat) (x : Int) : Nat := if x < n then col x.toNat else col' (x - n).toNat
theorem node_lo {col col' : Nat → Nat} {n : Nat} {x : Int} (h : x < n) : node col col' n x = col x.toNat := by simp [node, h]
theorem node_hi {col col' : Nat → Nat} {n : Nat} {x : Int} (h : ¬ x < n) : node col col' n x = col' (x - n).toNat := by simp [node, h]

theorem Side.step {S S' : Nat → Prop} {R R' : Nat → Nat → Prop} {col col' : Nat → Nat} {n : Nat} {P L : List Int} {c : Int} (h : Side S R col n P c) (hL : Pairing (2 * n) L)
    (hS' : ∀ a, S' a ↔ S a ∨ ∃ i, i < n ∧ a = col' i) (hout : ∀ i, i < n → ¬ S (col' i)) (hinj : ∀ i j, i < n → j < n → col' i = col' j → i = j)
    (refl' : ∀ a, S' a → R' a a) (symm' : ∀ a b, R' a b → R' b a) (trans' : ∀ a b d, R' a b → R' b d → R' a d) (dom' : ∀ a b, R' a b → S' a ∧ S' b)
    (hsub : ∀ a b, R a b → R' a b) (hlink : ∀ x : Int, 0 ≤ x → x < ((2 * n : Nat) : Int) → R' (node col col' n x) (node col col' n (gI L x)))
    (hmin : ∀ Q : Nat → Prop, (∀ a b, R a b → Q a → Q b) → (∀ x : Int, 0 ≤ x → x < ((2 * n : Nat) : Int) → Q (node col col' n x) → Q (node col col' n (gI L x))) → ∀ a b, R' a b → Q a → Q b) :
    Side S' R' col' n (pass P L n).1 (c + (pass P L n).2) := by
  have hP := h.pair
  have ndS : ∀ x : Int, 0 ≤ x → x < ((2 * n : Nat) : Int) → (S (node col col' n x) ↔ x < n) := by
    intro x x0 x1
    by_cases hx : x < n
    · rw [node_lo hx]
      exact ⟨fun _ => hx, fun _ => h.col_in _ (by omega)⟩
    · rw [node_hi hx]
      exact ⟨fun hs => absurd hs (hout _ (by omega)), fun h => absurd h hx⟩
  have ndinj : ∀ x y : Int, 0 ≤ x → x < ((2 * n : Nat) : Int) → 0 ≤ y → y < ((2 * n : Nat) : Int) → node col col' n x = node col col' n y → x = y := by
    intro x y x0 x1 y0 y1 e
    have h1 := ndS x x0 x1
    have h2 := ndS y y0 y1
    rw [e] at h1
    by_cases hx : x < n
    · have hy : y < n := h2.1 (h1.2 hx)
      rw [node_lo hx, node_lo hy] at e
      have := h.col_inj _ _ (by omega) (by omega) e
      omega
    · have hy : ¬ y < n := fun hy => hx (h1.1 (h2.2 hy))
      rw [node_hi hx, node_hi hy] at e
      have := hinj _ _ (by omega) (by omega) e
      omega
  -- two joined nodes on this side
  have two : ∀ x y : Int, 0 ≤ x → x < ((2 * n : Nat) : Int) → 0 ≤ y → y < ((2 * n : Nat) : Int) → R (node col col' n x) (node col col' n y) → (x < n ∧ y < n) ∧ (y = x ∨ y = gI P x) := by
    intro x y x0 x1 y0 y1 hr
    obtain ⟨s1, s2⟩ := h.dom _ _ hr
    have hx := (ndS x x0 x1).1 s1
    have hy := (ndS y y0 y1).1 s2
    rw [node_lo hx, node_lo hy] at hr
    have := (h.ends _ _ (by omega) (by omega)).1 hr
    rw [show ((x.toNat : Nat) : Int) = x by omega, show ((y.toNat : Nat) : Int) = y by omega] at this
    exact ⟨⟨hx, hy⟩, this⟩
  -- the nodes: joined just as the links and the pairing say
  have nodes : ∀ u v : Int, 0 ≤ u → u < ((2 * n : Nat) : Int) → 0 ≤ v → v < ((2 * n : Nat) : Int) → (R' (node col col' n u) (node col col' n v) ↔ Lk P L n u v) := by
    intro u v u0 u1 v0 v1
    constructor
    · intro hr
      have hq := hmin (fun b => ∃ w, Lk P L n u w ∧ (R (node col col' n w) b ∨ b = node col col' n w)) ?_ ?_ _ _ hr ⟨u, .refl u0 u1, .inr rfl⟩
      · obtain ⟨w, hw, hb⟩ := hq
        obtain ⟨_, w0, w1⟩ := hw.dom hP hL
        rcases hb with hb | hb
        · obtain ⟨⟨hwn, _⟩, rfl | rfl⟩ := two w v w0 w1 v0 v1 hb
          · exact hw
          · exact hw.p hwn
        · have := ndinj _ _ v0 v1 w0 w1 hb
          subst this
          exact hw
      · rintro a b hab ⟨w, hw, hb | rfl⟩
        · exact ⟨w, hw, .inl (h.trans _ _ _ hb hab)⟩
        · exact ⟨w, hw, .inl hab⟩
      · rintro x x0 x1 ⟨w, hw, hb⟩
        obtain ⟨_, w0, w1⟩ := hw.dom hP hL
        rcases hb with hb | hb
        · obtain ⟨⟨hwn, _⟩, rfl | rfl⟩ := two w x w0 w1 x0 x1 hb
          · exact ⟨_, hw.l, .inr rfl⟩
          · exact ⟨_, (hw.p hwn).l, .inr rfl⟩
        · have := ndinj _ _ x0 x1 w0 w1 hb
          subst this
          exact ⟨_, hw.l, .inr rfl⟩
    · intro hk
      clear v0 v1
      induction hk with
      | refl h0 h1 =>
        refine refl' _ ((hS' _).2 ?_)
        by_cases hx : u < n
        · exact .inl ((ndS u u0 u1).2 hx)
        · exact .inr ⟨(u - n).toNat, by omega, node_hi hx⟩
      | @p b hk hb ih =>
        obtain ⟨_, b0, b1⟩ := hk.dom hP hL
        have p0 := hP.lo b b0 hb
        have p1 := hP.hi b b0 hb
        refine trans' _ _ _ ih (hsub _ _ ?_)
        rw [node_lo hb, node_lo p1]
        refine (h.ends _ _ (by omega) (by omega)).2 (.inr ?_)
        rw [show ((b.toNat : Nat) : Int) = b by omega]
        omega
      | @l b hk ih =>
        obtain ⟨_, b0, b1⟩ := hk.dom hP hL
        exact trans' _ _ _ ih (hlink b b0 b1)
  -- a class that does not meet the column stays as it is
  have far : ∀ a, S a → (∀ i, i < n → ¬ R a (col i)) → ∀ b, R' a b → R a b := by
    intro a ha hn b hr
    refine hmin (fun b => R a b) (fun x y hxy hx => h.trans _ _ _ hx hxy) ?_ _ _ hr (h.refl a ha)
    intro x x0 x1 hx
    have hxn := (ndS x x0 x1).1 (h.dom _ _ hx).2
    rw [node_lo hxn] at hx
    exact absurd hx (hn _ (by omega))
  refine ⟨pass_pair hP hL, refl', symm', trans', dom', fun i hi => (hS' _).2 (.inr ⟨i, hi, rfl⟩), hinj, fun i j hi hj => ?_, ?_⟩
  · have := nodes ((n : Int) + i) ((n : Int) + j) (by omega) (by omega) (by omega) (by omega)
    rw [node_hi (by omega), node_hi (by omega), show ((n : Int) + i - n).toNat = i by omega, show ((n : Int) + j - n).toNat = j by omega, pass_ends hP hL ⟨by omega, by omega⟩ ⟨by omega, by omega⟩] at this
    exact this
  · obtain ⟨L1, hc, r1⟩ := h.closed
    obtain ⟨L2, hd, r2⟩ := pass_closed hP hL
    have cl : ∀ k : Int, 0 ≤ k → k < n → ∀ i, i < n → (R' (col k.toNat) (col' i) ↔ Lk P L n k ((n : Int) + i)) := by
      intro k k0 k1 i hi
      have := nodes k ((n : Int) + i) k0 (by omega) (by omega) (by omega)
      rw [node_lo k1, node_hi (by omega), show ((n : Int) + i - n).toNat = i by omega] at this
      exact this
    have cc : ∀ k m : Int, 0 ≤ k → k < n → 0 ≤ m → m < n → (R' (col k.toNat) (col m.toNat) ↔ Lk P L n k m) := by
      intro k m k0 k1 m0 m1
      have := nodes k m k0 (by omega) m0 (by omega)
      rw [node_lo k1, node_lo m1] at this
      exact this
    refine ⟨L1 ++ L2.map fun k => col k.toNat, ?_, ?_, ?_, ?_⟩
    · rw [hc, hd]; simp
    · intro a ha
      rcases List.mem_append.1 ha with h1 | h1
      · obtain ⟨s, hn⟩ := r1.mem a h1
        exact ⟨(hS' _).2 (.inl s), fun i hi hr => hout i hi (h.dom _ _ (far a s hn _ hr)).2⟩
      · obtain ⟨k, hk, rfl⟩ := List.mem_map.1 h1
        obtain ⟨⟨k0, k1⟩, hn⟩ := r2.mem k hk
        exact ⟨(hS' _).2 (.inl (h.col_in _ (by omega))), fun i hi hr => hn i hi ((cl k k0 k1 i hi).1 hr)⟩
    · rw [List.pairwise_append]
      refine ⟨r1.apart.imp_of_mem fun ha hb hn hr => ?_, ?_, ?_⟩
      · obtain ⟨s, hs⟩ := r1.mem _ ha
        exact hn (far _ s hs _ hr)
      · rw [List.pairwise_map]
        refine r2.apart.imp_of_mem fun ha hb hn hr => ?_
        obtain ⟨⟨a0, a1⟩, _⟩ := r2.mem _ ha
        obtain ⟨⟨b0, b1⟩, _⟩ := r2.mem _ hb
        exact hn ((cc _ _ a0 a1 b0 b1).1 hr)
      · intro a ha b hb hr
        obtain ⟨k, hk, rfl⟩ := List.mem_map.1 hb
        obtain ⟨⟨k0, k1⟩, _⟩ := r2.mem k hk
        obtain ⟨s, hs⟩ := r1.mem _ ha
        exact hs k.toNat (by omega) (far _ s hs _ hr)
    · rintro a ⟨ha, hn⟩
      rcases (hS' a).1 ha with s | ⟨i, hi, rfl⟩
      · by_cases hm : ∃ i, i < n ∧ R a (col i)
        · obtain ⟨i, hi, hr⟩ := hm
          obtain ⟨k, hk, hlk⟩ := r2.all (i : Int) ⟨⟨by omega, by omega⟩, fun j hj hl => hn j hj (trans' _ _ _ (hsub _ _ hr) (by
            have := (cl (i : Int) (by omega) (by omega) j hj).2 hl
            rwa [show ((i : Int)).toNat = i by omega] at this))⟩
          obtain ⟨⟨k0, k1⟩, _⟩ := r2.mem k hk
          refine ⟨col k.toNat, List.mem_append.2 (.inr (List.mem_map.2 ⟨k, hk, rfl⟩)), trans' _ _ _ (hsub _ _ hr) ?_⟩
          have := (cc (i : Int) k (by omega) (by omega) k0 k1).2 hlk
          rwa [show ((i : Int)).toNat = i by omega] at this
        · obtain ⟨b, hb, hr⟩ := r1.all a ⟨s, fun i hi hr => hm ⟨i, hi, hr⟩⟩
          exact ⟨b, List.mem_append.2 (.inl hb), hsub _ _ hr⟩
      · exact absurd (refl' _ ha) (hn i hi)

/-- Both sides of a column together. -/
theorem Side.meet {S T U : Nat → Prop} {R R2 Rt : Nat → Nat → Prop} {col : Nat → Nat} {n : Nat} {P Q : List Int} {c d : Int} (h : Side S R col n P c) (k : Side T R2 col n Q d)
    (hboth : ∀ a, S a → T a → ∃ i, i < n ∧ a = col i) (hU : ∀ a, U a ↔ S a ∨ T a)
    (reflt : ∀ a, U a → Rt a a) (symmt : ∀ a b, Rt a b → Rt b a) (transt : ∀ a b e, Rt a b → Rt b e → Rt a e)
    (hsub : ∀ a b, R a b → Rt a b) (hsub2 : ∀ a b, R2 a b → Rt a b)
    (hmin : ∀ Q : Nat → Prop, (∀ a b, R a b → Q a → Q b) → (∀ a b, R2 a b → Q a → Q b) → ∀ a b, Rt a b → Q a → Q b) :
    ∃ reps : List Nat, c + d + loopsOf P Q n = reps.length ∧ Reps Rt U reps := by
  have hP := h.pair
  have hQ := k.pair
  have onP : ∀ i j : Nat, i < n → j < n → R (col i) (col j) → Jn P Q n i j := by
    intro i j hi hj hr
    rcases (h.ends i j hi hj).1 hr with e | e
    · have : i = j := by omega
      subst this
      exact .refl (by omega) (by omega)
    · rw [e]
      exact (Jn.refl (by omega) (by omega)).p
  have onQ : ∀ i j : Nat, i < n → j < n → R2 (col i) (col j) → Jn P Q n i j := by
    intro i j hi hj hr
    rcases (k.ends i j hi hj).1 hr with e | e
    · have : i = j := by omega
      subst this
      exact .refl (by omega) (by omega)
    · rw [e]
      exact (Jn.refl (by omega) (by omega)).l
  have cc : ∀ i j : Nat, i < n → j < n → (Rt (col i) (col j) ↔ Jn P Q n i j) := by
    intro i j hi hj
    constructor
    · intro hr
      have hq := hmin (fun b => ∃ w : Nat, w < n ∧ Jn P Q n i w ∧ (R (col w) b ∨ R2 (col w) b)) ?_ ?_ _ _ hr ⟨i, hi, .refl (by omega) (by omega), .inl (h.refl _ (h.col_in i hi))⟩
      · obtain ⟨w, hw, hj1, hb | hb⟩ := hq
        · exact hj1.trans (onP w j hw hj hb)
        · exact hj1.trans (onQ w j hw hj hb)
      · rintro a b hab ⟨w, hw, hj1, hb | hb⟩
        · exact ⟨w, hw, hj1, .inl (h.trans _ _ _ hb hab)⟩
        · obtain ⟨v, hv, rfl⟩ := hboth a (h.dom _ _ hab).1 (k.dom _ _ hb).2
          exact ⟨v, hv, hj1.trans (onQ w v hw hv hb), .inl hab⟩
      · rintro a b hab ⟨w, hw, hj1, hb | hb⟩
        · obtain ⟨v, hv, rfl⟩ := hboth a (h.dom _ _ hb).2 (k.dom _ _ hab).1
          exact ⟨v, hv, hj1.trans (onP w v hw hv hb), .inr hab⟩
        · exact ⟨w, hw, hj1, .inr (k.trans _ _ _ hb hab)⟩
    · intro hj1
      have key : ∀ b : Int, Jn P Q n i b → Rt (col i) (col b.toNat) := by
        intro b hb
        induction hb with
        | refl h0 h1 =>
          rw [show ((i : Int)).toNat = i by omega]
          exact reflt _ ((hU _).2 (.inl (h.col_in i hi)))
        | @p b hb ih =>
          obtain ⟨_, b0, b1⟩ := hb.dom hP hQ
          have p0 := hP.lo b b0 b1
          have p1 := hP.hi b b0 b1
          refine transt _ _ _ ih (hsub _ _ ((h.ends _ _ (by omega) (by omega)).2 (.inr ?_)))
          rw [show ((b.toNat : Nat) : Int) = b by omega]
          omega
        | @l b hb ih =>
          obtain ⟨_, b0, b1⟩ := hb.dom hP hQ
          have p0 := hQ.lo b b0 b1
          have p1 := hQ.hi b b0 b1
          refine transt _ _ _ ih (hsub2 _ _ ((k.ends _ _ (by omega) (by omega)).2 (.inr ?_)))
          rw [show ((b.toNat : Nat) : Int) = b by omega]
          omega
      have := key j hj1
      rwa [show ((j : Int)).toNat = j by omega] at this
  have farS : ∀ a, S a → (∀ i, i < n → ¬ R a (col i)) → ∀ b, Rt a b → R a b := by
    intro a ha hn b hr
    refine hmin (fun b => R a b) (fun x y hxy hx => h.trans _ _ _ hx hxy) ?_ _ _ hr (h.refl a ha)
    intro x y hxy hx
    obtain ⟨v, hv, rfl⟩ := hboth x (h.dom _ _ hx).2 (k.dom _ _ hxy).1
    exact absurd hx (hn v hv)
  have farT : ∀ a, T a → (∀ i, i < n → ¬ R2 a (col i)) → ∀ b, Rt a b → R2 a b := by
    intro a ha hn b hr
    refine hmin (fun b => R2 a b) ?_ (fun x y hxy hx => k.trans _ _ _ hx hxy) _ _ hr (k.refl a ha)
    intro x y hxy hx
    obtain ⟨v, hv, rfl⟩ := hboth x (h.dom _ _ hxy).1 (k.dom _ _ hx).2
    exact absurd hx (hn v hv)
  obtain ⟨L1, hc, r1⟩ := h.closed
  obtain ⟨L2, hd, r2⟩ := k.closed
  obtain ⟨L3, he, r3⟩ := loopsOf_reps hP hQ
  have colj : ∀ i : Nat, i < n → ∃ m ∈ L3, Rt (col i) (col m.toNat) := by
    intro i hi
    obtain ⟨m, hm, hj⟩ := r3.all (i : Int) ⟨by omega, by omega⟩
    obtain ⟨m0, m1⟩ := r3.mem m hm
    refine ⟨m, hm, (cc i m.toNat hi (by omega)).2 ?_⟩
    rwa [show ((m.toNat : Nat) : Int) = m by omega]
  refine ⟨L1 ++ (L2 ++ L3.map fun m => col m.toNat), by rw [hc, hd, he]; simp; omega, ?_, ?_, ?_⟩
  · intro a ha
    rcases List.mem_append.1 ha with h1 | h1
    · exact (hU a).2 (.inl (r1.mem a h1).1)
    · rcases List.mem_append.1 h1 with h1 | h1
      · exact (hU a).2 (.inr (r2.mem a h1).1)
      · obtain ⟨m, hm, rfl⟩ := List.mem_map.1 h1
        obtain ⟨m0, m1⟩ := r3.mem m hm
        exact (hU _).2 (.inl (h.col_in _ (by omega)))
  · rw [List.pairwise_append, List.pairwise_append]
    refine ⟨r1.apart.imp_of_mem fun ha hb hn hr => ?_, ⟨r2.apart.imp_of_mem fun ha hb hn hr => ?_, ?_, ?_⟩, ?_⟩
    · obtain ⟨s, hs⟩ := r1.mem _ ha
      exact hn (farS _ s hs _ hr)
    · obtain ⟨s, hs⟩ := r2.mem _ ha
      exact hn (farT _ s hs _ hr)
    · rw [List.pairwise_map]
      refine r3.apart.imp_of_mem fun ha hb hn hr => ?_
      obtain ⟨a0, a1⟩ := r3.mem _ ha
      obtain ⟨b0, b1⟩ := r3.mem _ hb
      have := (cc _ _ (by omega) (by omega)).1 hr
      rw [Int.toNat_of_nonneg a0, Int.toNat_of_nonneg b0] at this
      exact hn this
    · intro a ha b hb hr
      obtain ⟨m, hm, rfl⟩ := List.mem_map.1 hb
      obtain ⟨m0, m1⟩ := r3.mem m hm
      obtain ⟨s, hs⟩ := r2.mem _ ha
      exact hs m.toNat (by omega) (farT _ s hs _ hr)
    · intro a ha b hb hr
      obtain ⟨s, hs⟩ := r1.mem _ ha
      have hab := farS _ s hs _ hr
      rcases List.mem_append.1 hb with h1 | h1
      · obtain ⟨v, hv, rfl⟩ := hboth b (h.dom _ _ hab).2 (r2.mem b h1).1
        exact hs v hv hab
      · obtain ⟨m, hm, rfl⟩ := List.mem_map.1 h1
        obtain ⟨m0, m1⟩ := r3.mem m hm
        exact hs m.toNat (by omega) hab
  · intro a ha
    rcases (hU a).1 ha with s | s
    · by_cases hm : ∃ i, i < n ∧ R a (col i)
      · obtain ⟨i, hi, hr⟩ := hm
        obtain ⟨m, hm, hj⟩ := colj i hi
        exact ⟨_, List.mem_append.2 (.inr (List.mem_append.2 (.inr (List.mem_map.2 ⟨m, hm, rfl⟩)))), transt _ _ _ (hsub _ _ hr) hj⟩
      · obtain ⟨b, hb, hr⟩ := r1.all a ⟨s, fun i hi hr => hm ⟨i, hi, hr⟩⟩
        exact ⟨b, List.mem_append.2 (.inl hb), hsub _ _ hr⟩
    · by_cases hm : ∃ i, i < n ∧ R2 a (col i)
      · obtain ⟨i, hi, hr⟩ := hm
        obtain ⟨m, hm, hj⟩ := colj i hi
        exact ⟨_, List.mem_append.2 (.inr (List.mem_append.2 (.inr (List.mem_map.2 ⟨m, hm, rfl⟩)))), transt _ _ _ (hsub2 _ _ hr) hj⟩
      · obtain ⟨b, hb, hr⟩ := r2.all a ⟨s, fun i hi hr => hm ⟨i, hi, hr⟩⟩
        exact ⟨b, List.mem_append.2 (.inr (List.mem_append.2 (.inl hb))), hsub2 _ _ hr⟩
end Knot
