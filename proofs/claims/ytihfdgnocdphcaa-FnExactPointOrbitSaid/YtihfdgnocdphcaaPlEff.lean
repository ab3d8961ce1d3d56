/-
  Plain mathematics: Eff. No program is in sight.
-/
import Derived.Test.YtihfdgnocdphcaaPlTrk
import Derived.Test.YtihfdgnocdphcaaPlPts
namespace Knot

/-! ### Numbers of curves, and what a change does to them -/

def cntP (p : Pan) : Int := (traceP p (segN p)).1.length
theorem cntP_bd {p : Pan} (hp : Ok p) : 0 ≤ cntP p ∧ cntP p ≤ 256 := by
  unfold cntP
  have h1 := traceP_count p (segN p)
  have h2 := segN_le hp
  omega
def withP (p : Pan) (k kd : Int) : Pan := ⟨p.W, p.H, p.B.set k.toNat kd⟩
theorem withP_ok {p : Pan} (hp : Ok p) {k kd : Int} (h : 0 ≤ kd ∧ kd ≤ 2) : Ok (withP p k kd) := by
  refine ⟨hp.w1, hp.w8, hp.h1, hp.h8, ?_, ?_⟩
  · show ((p.B.set k.toNat kd).length : Int) = _
    rw [List.length_set]
    exact hp.len
  · intro x hx
    rcases List.mem_or_eq_of_mem_set hx with h1 | rfl
    · exact hp.kind x h1
    · exact h
/-- The code of a panel and an inner point. -/
def codeP (p : Pan) (x y : Int) : Int := if Ok p then if Has p x y then if Edge p x y then 6 else 0 else 2 else 1
/-- The code of a panel, an inner point and a kind of break. -/
def codeK (p : Pan) (x y kd : Int) : Int := if Ok p ∧ Has p x y ∧ ¬ (0 ≤ kd ∧ kd ≤ 2) then 2 else codeP p x y
def effM (p : Pan) (x y kd : Int) : Int × Int := if codeK p x y kd = 0 then (cntP (withP p (num p x y) kd) - cntP p, 0) else (0, codeK p x y kd)
def effs (p : Pan) (k : Int) : List Int := [cntP (withP p k 0), cntP (withP p k 1), cntP (withP p k 2)]
def effsM (p : Pan) (x y : Int) : List Int × Int := if codeP p x y = 0 then (effs p (num p x y), 0) else ([], codeP p x y)
theorem codeP_ok {p : Pan} {x y : Int} (h : codeP p x y = 0) : Ok p ∧ Has p x y ∧ ¬ Edge p x y := by
  unfold codeP at h
  split at h
  · split at h
    · split at h
      · omega
      · exact ⟨by assumption, by assumption, by assumption⟩
    · omega
  · omega
theorem codeK_ok {p : Pan} {x y kd : Int} (h : codeK p x y kd = 0) : codeP p x y = 0 ∧ 0 ≤ kd ∧ kd ≤ 2 := by
  unfold codeK at h
  split at h
  · omega
  · rename_i hn
    have hc := codeP_ok h
    refine ⟨h, ?_⟩
    by_cases hk : 0 ≤ kd ∧ kd ≤ 2
    · exact hk
    · exact absurd ⟨hc.1, hc.2.1, hk⟩ hn
/-- The number of an inner point. -/
theorem num_in {p : Pan} (hp : Ok p) {x y : Int} (h : Has p x y) (he : ¬ Edge p x y) : 0 ≤ num p x y ∧ num p x y < p.B.length ∧ (1 ≤ x ∧ x ≤ 16) ∧ (1 ≤ y ∧ y ≤ 16) ∧ (x + y) % 2 = 1 ∧ rowOf p.W y + (x - 1) / 2 = num p x y := by
  obtain ⟨a1, a2, a3, a4, a5⟩ := h
  unfold Edge at he
  have w1 := hp.w1
  have w8 := hp.w8
  have h1 := hp.h1
  have h8 := hp.h8
  have hl := hp.len
  obtain ⟨n1, n2, _, _⟩ := num_pt (H := p.H) w1 w8 (y := y) (x := x) (by omega) (by omega) (by omega) (by omega) a5
  refine ⟨n1, ?_, by omega, by omega, a5, rfl⟩
  show rowOf p.W y + (x - 1) / 2 < _
  omega
end Knot
