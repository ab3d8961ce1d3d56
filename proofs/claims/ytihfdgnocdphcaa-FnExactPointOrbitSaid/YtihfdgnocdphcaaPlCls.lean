/-
  Plain mathematics: Cls. No program is in sight.
-/
import Derived.Test.YtihfdgnocdphcaaPlTrk
import Derived.Test.YtihfdgnocdphcaaPlEff
namespace Knot

/-! ### The number of curves is the number of classes of what steps join -/

section
variable {p : Pan} (hp : Ok p)

/-- Two segments are on one curve. -/
def On (p : Pan) (hp : Ok p) (a b : Nat) : Prop := a < segN p ∧ (sys p hp).Rel a b

theorem On.lt {a b : Nat} (h : On p hp a b) : a < segN p ∧ b < segN p := ⟨h.1, (sys p hp).rel_lt h.1 h.2⟩
theorem On.refl {a : Nat} (h : a < segN p) : On p hp a a := ⟨h, (sys p hp).rel_refl a h⟩
theorem On.symm {a b : Nat} (h : On p hp a b) : On p hp b a := ⟨(h.lt hp).2, (sys p hp).rel_symm h.1 h.2⟩
theorem On.trans {a b c : Nat} (h : On p hp a b) (k : On p hp b c) : On p hp a c := ⟨h.1, (sys p hp).rel_trans h.1 h.2 k.2⟩
include hp in
theorem seg_lt {w : Wk} (h : OkW p w) : (segI p w).toNat < segN p := (sys p hp).seg_lt w h
/-- A step joins. -/
theorem On.step {w : Wk} (h : OkW p w) : On p hp (segI p w).toNat (segI p (stepW p w)).toNat :=
  ⟨seg_lt hp h, (sys p hp).rel_of w h 1⟩
/-- What is closed under steps is closed under what is joined. -/
theorem On.min {Q : Nat → Prop} (hQ : ∀ w, OkW p w → Q (segI p w).toNat → Q (segI p (stepW p w)).toNat) {a b : Nat} (h : On p hp a b) (ha : Q a) : Q b := by
  obtain ⟨h1, n, rfl⟩ := h
  induction n with
  | zero =>
    have := (sys p hp).seg_start a h1
    show Q ((sys p hp).seg ((sys p hp).start a))
    rw [this]
    exact ha
  | succ n ih => exact hQ _ ((sys p hp).itV n _ ((sys p hp).start_V a h1)) ih
/-- As many curves as classes. -/
theorem cnt_reps {L : List Nat} (h : Reps (On p hp) (· < segN p) L) : cntP p = L.length := by
  obtain ⟨reps, hr⟩ := (sys p hp).traced (segN p) (Nat.le_refl _)
  have h1 := (sys p hp).traced_reps hr
  have h2 : Reps (On p hp) (· < segN p) reps := ⟨h1.mem, h1.apart.imp fun h k => h k.2, fun a ha => by
    obtain ⟨b, hb, k⟩ := h1.all a ha
    exact ⟨b, hb, ha, k⟩⟩
  have h3 := reps_eq (fun _ _ h => h.symm hp) (fun _ _ _ h k => h.trans hp k) h2 h
  have h4 := hr.len
  show (((traceP p (segN p)).1.length : Nat) : Int) = _
  rw [show traceP p (segN p) = (sys p hp).traceTo (segN p) from rfl, h4, h3]
/-- Of one curve just if they bear one number. -/
theorem own_on {a b : Nat} (ha : a < segN p) (hb : b < segN p) : gI (traceP p (segN p)).2 a = gI (traceP p (segN p)).2 b ↔ On p hp a b := by
  obtain ⟨reps, hr⟩ := (sys p hp).traced (segN p) (Nat.le_refl _)
  have := (sys p hp).traced_same hr ha hb
  rw [gI_getD, gI_getD]
  exact this.trans ⟨fun h => ⟨ha, h⟩, fun h => h.2⟩
end
end Knot
