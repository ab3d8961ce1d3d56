/-
  Plain mathematics: Orbi. No program is in sight.
-/
import Derived.Test.YtihfdgnocdphcaaPlSym
namespace Knot

/-! ### Orbits of points, in order -/

/-- A point stands before another one: by Y, then by X. -/
def lt2 (a b : Int × Int) : Prop := a.2 < b.2 ∨ (a.2 = b.2 ∧ a.1 < b.1)
instance (a b : Int × Int) : Decidable (lt2 a b) := by unfold lt2; exact inferInstance
theorem lt2_irr (a : Int × Int) : ¬ lt2 a a := by unfold lt2; omega
theorem lt2_trans {a b c : Int × Int} (h : lt2 a b) (k : lt2 b c) : lt2 a c := by unfold lt2 at *; omega
theorem lt2_asym {a b : Int × Int} (h : lt2 a b) : ¬ lt2 b a := fun k => lt2_irr a (lt2_trans h k)
theorem lt2_tri (a b : Int × Int) (h : ¬ lt2 a b) (k : ¬ lt2 b a) : a = b := by unfold lt2 at *; exact Prod.ext (by omega) (by omega)
/-- Strictly in order. -/
abbrev Srt (l : List (Int × Int)) : Prop := l.Pairwise lt2
theorem srt_ext : ∀ {l m : List (Int × Int)}, Srt l → Srt m → (∀ q, q ∈ l ↔ q ∈ m) → l = m
  | [], [], _, _, _ => rfl
  | [], b :: m, _, _, h => absurd ((h b).2 (by simp)) (by simp)
  | a :: l, [], _, _, h => absurd ((h a).1 (by simp)) (by simp)
  | a :: l, b :: m, hl, hm, h => by
    have hl' := List.pairwise_cons.1 hl
    have hm' := List.pairwise_cons.1 hm
    have e : a = b := by
      have h1 : a ∈ b :: m := (h a).1 (by simp)
      have h2 : b ∈ a :: l := (h b).2 (by simp)
      rcases List.mem_cons.1 h1 with h1 | h1
      · exact h1
      · rcases List.mem_cons.1 h2 with h2 | h2
        · exact h2.symm
        · exact absurd (hm'.1 a h1) (lt2_asym (hl'.1 b h2))
    subst e
    congr 1
    refine srt_ext hl'.2 hm'.2 fun q => ?_
    have hq := h q
    constructor
    · intro hql
      rcases List.mem_cons.1 (hq.1 (List.mem_cons_of_mem _ hql)) with e | e
      · subst e; exact absurd (hl'.1 q hql) (lt2_irr q)
      · exact e
    · intro hqm
      rcases List.mem_cons.1 (hq.2 (List.mem_cons_of_mem _ hqm)) with e | e
      · subst e; exact absurd (hm'.1 q hqm) (lt2_irr q)
      · exact e
/-- A point put into its place, unless it stands there. -/
def insP : List (Int × Int) → Int × Int → List (Int × Int)
  | [], x => [x]
  | a :: l, x => if lt2 x a then x :: a :: l else if x = a then a :: l else a :: insP l x
theorem mem_insP (x q : Int × Int) : ∀ l, q ∈ insP l x ↔ q = x ∨ q ∈ l
  | [] => by simp [insP]
  | a :: l => by
    unfold insP
    split
    · simp
    · split
      · rename_i h; subst h; simp
      · rw [List.mem_cons, mem_insP x q l, List.mem_cons]
        constructor
        · rintro (h | h | h) <;> simp [h]
        · rintro (h | h | h) <;> simp [h]
theorem srt_insP (x : Int × Int) : ∀ l, Srt l → Srt (insP l x)
  | [], _ => by simp [insP]
  | a :: l, h => by
    have h' := List.pairwise_cons.1 h
    unfold insP
    split
    · rename_i hx
      refine List.pairwise_cons.2 ⟨fun b hb => ?_, h⟩
      rcases List.mem_cons.1 hb with e | e
      · subst e; exact hx
      · exact lt2_trans hx (h'.1 b e)
    · split
      · exact h
      · rename_i h1 h2
        refine List.pairwise_cons.2 ⟨fun b hb => ?_, srt_insP x l h'.2⟩
        rcases (mem_insP x b l).1 hb with e | e
        · subst e
          exact Classical.byContradiction fun h3 => h2 (lt2_tri b a h1 h3)
        · exact h'.1 b e
/-- Points in order, each once. -/
def orbL : List (Int × Int) → List (Int × Int)
  | [] => []
  | x :: l => insP (orbL l) x
theorem mem_orbL (q : Int × Int) : ∀ l, q ∈ orbL l ↔ q ∈ l
  | [] => by simp [orbL]
  | x :: l => by rw [orbL, mem_insP, mem_orbL q l, List.mem_cons]
theorem srt_orbL : ∀ l, Srt (orbL l)
  | [] => by simp [orbL]
  | x :: l => srt_insP x _ (srt_orbL l)
theorem orbL_is {l m : List (Int × Int)} (h : Srt m) (k : ∀ q, q ∈ m ↔ q ∈ l) : m = orbL l :=
  srt_ext h (srt_orbL l) fun q => (k q).trans (mem_orbL q l).symm
/-- A point laid at the place behind all that stand before it keeps the order. -/
theorem srt_put {l : List (Int × Int)} {x : Int × Int} {k : Nat} (h : Srt l) (hk : k ≤ l.length) (h1 : ∀ j (hj : j < l.length), k ≤ j → lt2 x l[j]) (h2 : ∀ (h0 : 0 < k), lt2 l[k - 1] x) : Srt (l.take k ++ x :: l.drop k) := by
  refine List.pairwise_append.2 ⟨h.sublist (List.take_sublist _ _), List.pairwise_cons.2 ⟨fun b hb => ?_, h.sublist (List.drop_sublist _ _)⟩, fun a ha b hb => ?_⟩
  · obtain ⟨i, hi, rfl⟩ := List.getElem_of_mem hb
    rw [List.length_drop] at hi
    rw [List.getElem_drop]
    exact h1 _ (by omega) (by omega)
  · obtain ⟨i, hi, rfl⟩ := List.getElem_of_mem ha
    rw [List.length_take] at hi
    rw [List.getElem_take]
    have hpw := List.pairwise_iff_getElem.1 h
    have hax : lt2 l[i] x := by
      rcases Nat.lt_or_ge i (k - 1) with h3 | h3
      · exact lt2_trans (hpw i (k - 1) (by omega) (by omega) h3) (h2 (by omega))
      · obtain rfl : i = k - 1 := by omega
        exact h2 (by omega)
    rcases List.mem_cons.1 hb with e | e
    · subst e; exact hax
    · obtain ⟨j, hj, rfl⟩ := List.getElem_of_mem e
      rw [List.length_drop] at hj
      rw [List.getElem_drop]
      exact hpw _ _ (by omega) (by omega) (by omega)
theorem mem_put {l : List (Int × Int)} {x q : Int × Int} {k : Nat} : q ∈ l.take k ++ x :: l.drop k ↔ q = x ∨ q ∈ l := by
  rw [List.mem_append, List.mem_cons]
  constructor
  · rintro (h | h | h)
    · exact .inr (List.mem_of_mem_take h)
    · exact .inl h
    · exact .inr (List.mem_of_mem_drop h)
  · rintro (h | h)
    · exact .inr (.inl h)
    · rw [← List.take_append_drop k l, List.mem_append] at h
      rcases h with h | h
      · exact .inl h
      · exact .inr (.inr h)

/-! ### The number of an orbit's points divides the number of symmetries -/

def maskB (f : Nat → Bool) : Nat := (if f 0 then 1 else 0) + (if f 1 then 2 else 0) + (if f 2 then 4 else 0) + (if f 3 then 8 else 0) + (if f 4 then 16 else 0) + (if f 5 then 32 else 0) + (if f 6 then 64 else 0) + (if f 7 then 128 else 0)
theorem maskB_bit (f : Nat → Bool) : maskB f < 256 ∧ ∀ i, i < 8 → (maskB f).testBit i = f i := by
  have key : ∀ a b c d e g h k : Bool, (if a then 1 else 0) + (if b then 2 else 0) + (if c then 4 else 0) + (if d then 8 else 0) + (if e then 16 else 0) + (if g then 32 else 0) + (if h then 64 else 0) + (if k then 128 else 0) < 256 ∧
      ∀ i, i < 8 → ((if a then 1 else 0) + (if b then 2 else 0) + (if c then 4 else 0) + (if d then 8 else 0) + (if e then 16 else 0) + (if g then 32 else 0) + (if h then 64 else 0) + (if k then 128 else 0) : Nat).testBit i = [a, b, c, d, e, g, h, k].getD i false := by
    intro a b c d e g h k
    cases a <;> cases b <;> cases c <;> cases d <;> cases e <;> cases g <;> cases h <;> cases k <;> decide
  obtain ⟨k1, k2⟩ := key (f 0) (f 1) (f 2) (f 3) (f 4) (f 5) (f 6) (f 7)
  refine ⟨k1, fun i hi => ?_⟩
  rw [maskB, k2 i hi]
  rcases (show i = 0 ∨ i = 1 ∨ i = 2 ∨ i = 3 ∨ i = 4 ∨ i = 5 ∨ i = 6 ∨ i = 7 by omega) with rfl | rfl | rfl | rfl | rfl | rfl | rfl | rfl <;> rfl
/-- Composition and inverse at numbers. -/
def compN (a b : Nat) : Nat := (if b < 4 then a else a / 4 * 4 + a % 2 * 2 + a / 2 % 2) ^^^ b
def invN (a : Nat) : Nat := if a < 4 then a else a / 4 * 4 + a % 2 * 2 + a / 2 % 2
def grpB (g : Nat) : Bool := g.testBit 0 && (List.range 8).all fun a => (List.range 8).all fun b => !(g.testBit a && g.testBit b) || g.testBit (compN a b)
def elsB (g : Nat) : List Nat := (List.range 8).filter fun a => g.testBit a
def repsB (g h : Nat) : List Nat := (elsB g).filter fun a => (List.range 8).all fun b => !(g.testBit b && decide (b < a) && h.testBit (compN a (invN b)))
theorem orb_fin : ∀ g, g < 256 → grpB g = true → ∀ h, h < 256 → grpB h = true → (elsB g).length % (repsB g h).length = 0 ∧ 0 < (repsB g h).length := by decide +kernel

section
variable {f : Nat → Int × Int} {G S : Nat → Bool}
theorem count_eq {α β : Type} {l : List α} {m : List β} (r : β → α) (hl : l.Nodup) (hm : m.Nodup) (hr : ∀ x ∈ m, ∀ y ∈ m, r x = r y → x = y) (h : ∀ q, q ∈ l ↔ ∃ x ∈ m, r x = q) : l.length = m.length := by
  have hn : (m.map r).Nodup := by
    unfold List.Nodup
    rw [List.pairwise_map]
    refine List.Pairwise.imp_of_mem ?_ hm
    intro x y hx hy hxy e
    exact hxy (hr x hx y hy e)
  have := (List.perm_ext_iff_of_nodup hl hn).2 fun q => by rw [h, List.mem_map]
  rw [this.length_eq, List.length_map]
theorem orb_count (hG : grpB (maskB G) = true) (hS : grpB (maskB S) = true) (hf : ∀ a b, a < 8 → b < 8 → G a = true → G b = true → (f a = f b ↔ S (compN a (invN b)) = true)) :
    ∀ l : List Nat, (∀ a, a ∈ l ↔ a < 8 ∧ G a = true) → l.Nodup → l.length % (orbL (l.map f)).length = 0 ∧ 0 < (orbL (l.map f)).length := by
  intro l hl hn
  obtain ⟨g1, g2⟩ := maskB_bit G
  obtain ⟨s1, s2⟩ := maskB_bit S
  have hc : ∀ a b, a < 8 → b < 8 → compN a (invN b) < 8 := by
    have h : ∀ a, a < 8 → ∀ b, b < 8 → compN a (invN b) < 8 := by decide
    exact fun a b h1 h2 => h a h1 b h2
  have key := orb_fin _ g1 hG _ s1 hS
  have e1 : l.length = (elsB (maskB G)).length := by
    refine count_eq (r := id) hn ?_ (fun _ _ _ _ e => e) fun q => ?_
    · exact List.Nodup.sublist List.filter_sublist List.nodup_range
    · rw [hl]
      simp only [elsB, List.mem_filter, List.mem_range, id]
      constructor
      · rintro ⟨h1, h2⟩
        exact ⟨q, ⟨h1, by rw [g2 q h1]; exact h2⟩, rfl⟩
      · rintro ⟨x, ⟨h1, h2⟩, rfl⟩
        exact ⟨h1, by rw [g2 x h1] at h2; exact h2⟩
  have hrep : ∀ a, a ∈ repsB (maskB G) (maskB S) ↔ a < 8 ∧ G a = true ∧ ∀ b, b < 8 → G b = true → b < a → f a ≠ f b := by
    intro a
    simp only [repsB, elsB, List.mem_filter, List.mem_range, List.all_eq_true, Bool.not_eq_true', Bool.and_eq_false_imp, Bool.and_eq_true, decide_eq_true_eq]
    constructor
    · rintro ⟨⟨h1, h2⟩, h3⟩
      rw [g2 a h1] at h2
      refine ⟨h1, h2, fun b hb hGb hba e => ?_⟩
      have h4 := h3 b hb ⟨by rw [g2 b hb]; exact hGb, hba⟩
      rw [s2 _ (hc a b h1 hb)] at h4
      rw [(hf a b h1 hb h2 hGb).1 e] at h4
      exact absurd h4 (by simp)
    · rintro ⟨h1, h2, h3⟩
      refine ⟨⟨h1, by rw [g2 a h1]; exact h2⟩, fun b hb => ?_⟩
      rintro ⟨h4, h5⟩
      rw [g2 b hb] at h4
      rw [s2 _ (hc a b h1 hb)]
      cases h6 : S (compN a (invN b))
      · rfl
      · exact absurd ((hf a b h1 hb h2 h4).2 h6) (h3 b hb h4 h5)
  have e2 : (orbL (l.map f)).length = (repsB (maskB G) (maskB S)).length := by
    refine count_eq (r := f) ?_ ?_ ?_ fun q => ?_
    · exact List.Pairwise.imp (R := lt2) (fun {a b} h (e : a = b) => lt2_irr b (by rw [e] at h; exact h)) (srt_orbL (l.map f))
    · exact List.Nodup.sublist List.filter_sublist (List.Nodup.sublist List.filter_sublist List.nodup_range)
    · intro x hx y hy e
      obtain ⟨x8, xG, xm⟩ := (hrep x).1 hx
      obtain ⟨y8, yG, ym⟩ := (hrep y).1 hy
      rcases Nat.lt_trichotomy x y with h | h | h
      · exact absurd e.symm (ym x x8 xG h)
      · exact h
      · exact absurd e (xm y y8 yG h)
    · rw [mem_orbL, List.mem_map]
      constructor
      · rintro ⟨a, ha, rfl⟩
        obtain ⟨a8, aG⟩ := (hl a).1 ha
        -- the first symmetry that moves to the same point
        have : ∀ n a, a < n → a < 8 → G a = true → ∃ x ∈ repsB (maskB G) (maskB S), f x = f a := by
          intro n
          induction n with
          | zero => intro a h; omega
          | succ n ih =>
            intro a han a8 aG
            by_cases h : ∃ b, b < 8 ∧ G b = true ∧ b < a ∧ f a = f b
            · obtain ⟨b, b8, bG, hba, e⟩ := h
              obtain ⟨x, hx, ex⟩ := ih b (by omega) b8 bG
              exact ⟨x, hx, ex.trans e.symm⟩
            · exact ⟨a, (hrep a).2 ⟨a8, aG, fun b b8 bG hba e => h ⟨b, b8, bG, hba, e⟩⟩, rfl⟩
        exact this 8 a a8 a8 aG
      · rintro ⟨x, hx, rfl⟩
        obtain ⟨x8, xG, _⟩ := (hrep x).1 hx
        exact ⟨x, (hl x).2 ⟨x8, xG⟩, rfl⟩
  rw [e1, e2]
  exact key
end
end Knot
