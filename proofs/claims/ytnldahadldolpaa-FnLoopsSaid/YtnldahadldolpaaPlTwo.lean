/-
  Plain mathematics: Two. No program is in sight.
-/
import Derived.Test.YtnldahadldolpaaPlConn
namespace Knot

/-! ### The number of loops of two pairings: its bounds -/

theorem cover : ∀ (n : Nat) (l : List Nat), (∀ x, x < n → x ∈ l) → n ≤ l.length
  | 0, _, _ => Nat.zero_le _
  | n + 1, l, h => by
    have h1 := cover n (l.erase n) (fun x hx => (List.mem_erase_of_ne (by omega)).2 (h x (by omega)))
    have h2 := List.length_erase (a := n) (l := l)
    have h3 := h n (by omega)
    rw [if_pos (by simpa using h3)] at h2
    have h4 := List.length_pos_of_mem h3
    omega

/-- Each number of a list and its partner. -/
def twos (a r : List Int) : List Nat := r.flatMap fun x => [x.toNat, (gI a x).toNat]
theorem twos_length (a r : List Int) : (twos a r).length = 2 * r.length := by
  induction r with
  | nil => rfl
  | cons x r ih =>
    have : twos a (x :: r) = [x.toNat, (gI a x).toNat] ++ twos a r := rfl
    rw [this, List.length_append, ih]
    simp
    omega
theorem mem_twos {a r : List Int} {v : Nat} : v ∈ twos a r ↔ ∃ x ∈ r, v = x.toNat ∨ v = (gI a x).toNat := by
  unfold twos
  simp [List.mem_flatMap]

section
variable {a b : List Int} {n : Nat}
theorem Jn.swap {x y : Int} (h : Jn a b n x y) : Jn b a n x y := by
  induction h with
  | refl h0 h1 => exact .refl h0 h1
  | p _ ih => exact ih.l
  | l _ ih => exact ih.p
theorem Jn.one {x y : Int} (hA : Pairing n a) (h : Jn a a n x y) : y = x ∨ y = gI a x := by
  induction h with
  | refl h0 h1 => exact .inl rfl
  | @p y h ih =>
    obtain ⟨⟨x0, x1⟩, _⟩ := h.dom hA hA
    rcases ih with rfl | rfl
    · exact .inr rfl
    · exact .inl (hA.inv _ x0 x1)
  | @l y h ih =>
    obtain ⟨⟨x0, x1⟩, _⟩ := h.dom hA hA
    rcases ih with rfl | rfl
    · exact .inr rfl
    · exact .inl (hA.inv _ x0 x1)

variable (hA : Pairing n a) (hB : Pairing n b)
include hA hB

theorem loops_comm : loopsOf a b n = loopsOf b a n := by
  obtain ⟨r, hr, h1⟩ := loopsOf_reps hA hB
  obtain ⟨s, hs, h2⟩ := loopsOf_reps hB hA
  rw [hr, hs]
  have h3 : Reps (Jn a b n) (fun a => 0 ≤ a ∧ a < (n : Int)) s := ⟨h2.mem, h2.apart.imp fun h k => h k.swap, fun x hx => by
    obtain ⟨y, hy, k⟩ := h2.all x hx
    exact ⟨y, hy, k.swap⟩⟩
  have := reps_eq (R := Jn a b n) (fun _ _ h => Jn.symm hA hB h) (fun _ _ _ h k => Jn.trans h k) h1 h3
  omega

theorem twos_nodup : ∀ r : List Int, r.Pairwise (fun x y => ¬ Jn a b n x y) → (∀ x ∈ r, 0 ≤ x ∧ x < (n : Int)) → (twos a r).Nodup
  | [], _, _ => by simp [twos]
  | x :: r, hp, hm => by
    obtain ⟨p1, p2⟩ := List.pairwise_cons.1 hp
    obtain ⟨x0, x1⟩ := hm x (by simp)
    have ih := twos_nodup r p2 (fun y hy => hm y (by simp [hy]))
    have ax0 := hA.lo _ x0 x1
    have ax1 := hA.hi _ x0 x1
    have ne := hA.ne _ x0 x1
    have hx : Jn a b n x x := .refl x0 x1
    have e : twos a (x :: r) = x.toNat :: (gI a x).toNat :: twos a r := rfl
    rw [e, List.nodup_cons, List.nodup_cons]
    refine ⟨fun h => ?_, fun h => ?_, ih⟩
    · rcases List.mem_cons.1 h with h | h
      · omega
      · obtain ⟨y, hy, h⟩ := mem_twos.1 h
        obtain ⟨y0, y1⟩ := hm y (by simp [hy])
        have ay0 := hA.lo _ y0 y1
        rcases h with h | h
        · have : x = y := by omega
          subst this
          exact p1 _ hy hx
        · have h2 : x = gI a y := by omega
          have h3 : Jn a b n y x := h2 ▸ (Jn.p (.refl y0 y1))
          exact p1 _ hy (h3.symm hA hB)
    · obtain ⟨y, hy, h⟩ := mem_twos.1 h
      obtain ⟨y0, y1⟩ := hm y (by simp [hy])
      have ay0 := hA.lo _ y0 y1
      rcases h with h | h
      · have h2 : gI a x = y := by omega
        exact p1 _ hy (h2 ▸ hx.p)
      · have h2 : gI a x = gI a y := by omega
        have h3 : x = y := by rw [← hA.inv _ x0 x1, h2, hA.inv _ y0 y1]
        subst h3
        exact p1 _ hy hx
omit hB in
theorem twos_lt {r : List Int} (hm : ∀ x ∈ r, 0 ≤ x ∧ x < (n : Int)) : ∀ v ∈ twos a r, v < n := by
  intro v hv
  obtain ⟨y, hy, h⟩ := mem_twos.1 hv
  obtain ⟨y0, y1⟩ := hm y hy
  have ay0 := hA.lo _ y0 y1
  have ay1 := hA.hi _ y0 y1
  omega

theorem loops_half : 2 * loopsOf a b n ≤ n := by
  obtain ⟨r, hr, h1⟩ := loopsOf_reps hA hB
  have h2 := pigeon n _ (twos_nodup hA hB r h1.apart h1.mem) (twos_lt hA h1.mem)
  rw [twos_length] at h2
  omega
theorem loops_pos (h : 1 ≤ n) : 1 ≤ loopsOf a b n := by
  obtain ⟨r, hr, h1⟩ := loopsOf_reps hA hB
  obtain ⟨y, hy, _⟩ := h1.all 0 ⟨by omega, by omega⟩
  have := List.length_pos_of_mem hy
  omega
theorem loops_full (h : 2 * loopsOf a b n = n) : a = b := by
  obtain ⟨r, hr, h1⟩ := loopsOf_reps hA hB
  have hnd := twos_nodup hA hB r h1.apart h1.mem
  have hlt := twos_lt hA h1.mem
  have hlen := twos_length a r
  have hall : ∀ v, v < n → v ∈ twos a r := by
    intro v hv
    apply Classical.byContradiction
    intro hn
    have := pigeon n (v :: twos a r) (List.nodup_cons.2 ⟨hn, hnd⟩) (by
      intro x hx
      rcases List.mem_cons.1 hx with rfl | hx
      · exact hv
      · exact hlt x hx)
    simp at this
    omega
  have hin : ∀ x : Int, 0 ≤ x → x < n → ∃ y ∈ r, Jn a b n y x ∧ (x = y ∨ x = gI a y) := by
    intro x x0 x1
    obtain ⟨y, hy, h⟩ := mem_twos.1 (hall x.toNat (by omega))
    obtain ⟨y0, y1⟩ := h1.mem y hy
    have ay0 := hA.lo _ y0 y1
    rcases h with h | h
    · have h2 : x = y := by omega
      subst h2
      exact ⟨_, hy, .refl y0 y1, .inl rfl⟩
    · have h2 : x = gI a y := by omega
      subst h2
      exact ⟨_, hy, .p (.refl y0 y1), .inr rfl⟩
  have hpw : ∀ l : List Int, l.Pairwise (fun x y => ¬ Jn a b n x y) → ∀ x ∈ l, ∀ y ∈ l, Jn a b n x y → x = y := by
    intro l
    induction l with
    | nil => intro _ x hx; simp at hx
    | cons z l ih =>
      intro hp x hx y hy h
      obtain ⟨p1, p2⟩ := List.pairwise_cons.1 hp
      rcases List.mem_cons.1 hx with ex | hx
      · rcases List.mem_cons.1 hy with ey | hy
        · rw [ex, ey]
        · rw [ex] at h; exact absurd h (p1 _ hy)
      · rcases List.mem_cons.1 hy with ey | hy
        · rw [ey] at h; exact absurd (h.symm hA hB) (p1 _ hx)
        · exact ih p2 x hx y hy h
  have key : ∀ x : Int, 0 ≤ x → x < n → gI b x = gI a x := by
    intro x x0 x1
    have bx0 := hB.lo _ x0 x1
    have bx1 := hB.hi _ x0 x1
    obtain ⟨y, hy, j1, c1⟩ := hin x x0 x1
    obtain ⟨z, hz, j2, c2⟩ := hin (gI b x) bx0 bx1
    have e : y = z := hpw r h1.apart y hy z hz ((Jn.l j1).trans (j2.symm hA hB))
    subst e
    obtain ⟨y0, y1⟩ := h1.mem y hy
    have hne := hB.ne _ x0 x1
    rcases c1 with c1 | c1
    · rcases c2 with c2 | c2
      · exact absurd (c2.trans c1.symm) hne
      · rw [c2, c1]
    · rcases c2 with c2 | c2
      · rw [c2, c1, hA.inv _ y0 y1]
      · exact absurd (c2.trans c1.symm) hne
  apply List.ext_getElem (by rw [hA.len, hB.len])
  intro i i1 i2
  have := key i (by omega) (by have := hA.len; omega)
  simpa [gI, List.getD, i1, i2] using this.symm
omit hB in
theorem loops_self : 2 * loopsOf a a n = n := by
  have h0 := loops_half hA hA
  obtain ⟨r, hr, h1⟩ := loopsOf_reps hA hA
  have h2 := cover n (twos a r) (by
    intro v hv
    obtain ⟨y, hy, h⟩ := h1.all v ⟨by omega, by omega⟩
    obtain ⟨y0, y1⟩ := h1.mem y hy
    refine mem_twos.2 ⟨y, hy, ?_⟩
    rcases (h.symm hA hA).one hA with h | h
    · exact .inl (by omega)
    · exact .inr (by omega))
  rw [twos_length] at h2
  omega
theorem loops_iff : loopsOf a b n = loopsOf a a n ↔ a = b := by
  have h0 := loops_self hA
  constructor
  · intro h
    exact loops_full hA hB (by omega)
  · rintro rfl
    rfl
end
end Knot
