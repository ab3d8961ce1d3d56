/-
  Small numbers: ranges and the greatest common divisor, as the program and the reference compute them.
-/
import Derived.Test.YtihfdgnocdphcaaProg
import Derived.Test.YtihfdgnocdphcaaPlAllD
import Derived.WalkKit
import Derived.WalkSpells
import Derived.WalkLawsBesides
import Derived.Deep.QuietTactic
import Derived.BigQuiet
import Derived.Lib.Hide
namespace Go.Proofs.Ytihfdgnocdphcaa
open Go.RowKit Knot

theorem ret_int {k : IntKind} {a b : Int} (h : a = b) : Ending.returned (.int k a) = .returned (.int k b) := by rw [h]
theorem ret_bool {a b : Bool} (h : a = b) : Ending.returned (.bool a) = .returned (.bool b) := by rw [h]

def inR (x a b : Int) : Bool := decide (a ≤ x) && decide (x ≤ b)
theorem inR_t {x a b : Int} (h : a ≤ x ∧ x ≤ b) : inR x a b = true := by simp [inR, h.1, h.2]
theorem inR_f {x a b : Int} (h : ¬ (a ≤ x ∧ x ≤ b)) : inR x a b = false := by
  by_cases h1 : a ≤ x <;> by_cases h2 : x ≤ b <;> simp [inR, h1, h2] <;> omega

set_option maxHeartbeats 400000 in
theorem inRange_any (x a b : Int) (c : Bool) (h : inR x a b = c) (w : World) :
    Calls Try.prog 116 #[.int .i64 x, .int .i64 a, .int .i64 b] w fun e w' => e = .returned (.bool c) ∧ w = w' := by
  by_cases h1 : a ≤ x
  · by_cases h2 : x ≤ b
    · have hc : c = true := by rw [← h]; exact inR_t ⟨h1, h2⟩
      subst hc
      clear h
      go_enter Try.func116, Try.ntmps116
      go_wp2
      go_ret
      exact ⟨rfl, rfl⟩
    · have hc : c = false := by rw [← h]; exact inR_f (by omega)
      subst hc
      clear h
      go_enter Try.func116, Try.ntmps116
      go_wp2
      go_ret
      exact ⟨rfl, rfl⟩
  · have hc : c = false := by rw [← h]; exact inR_f (by omega)
    subst hc
    clear h
    go_enter Try.func116, Try.ntmps116
    go_wp2
    go_ret
    exact ⟨rfl, rfl⟩

theorem below_drewN (B : Nat) (w : World) (n : Nat) : Below B w (w.drewN n) := ⟨rfl, rfl, rfl, Nat.le_refl _, fun _ _ => rfl⟩
theorem qsame {P : Program} {f : FuncId} {args : Array Value} {w : World} {n : Nat} {v : Value}
    (h : Calls P f args (w.drewN n) fun e w' => e = .returned v ∧ w.drewN n = w') : Calls P f args (w.drewN n) fun e w'' => e = .returned v ∧ ∃ m, w'' = w.drewN m :=
  h.mono fun _ _ ⟨he, hm⟩ => ⟨he, n, hm.symm⟩
theorem qsame2 {P : Program} {f : FuncId} {args : Array Value} {w : World} {a n : Nat} {v : Value}
    (h : Calls P f args (w.drewN (a + n)) fun e w' => e = .returned v ∧ w.drewN (a + n) = w') : Calls P f args (w.drewN (a + n)) fun e w'' => e = .returned v ∧ ∃ m, w'' = w.drewN (a + m) :=
  h.mono fun _ _ ⟨he, hm⟩ => ⟨he, n, hm.symm⟩
theorem qdrawn {P : Program} {f : FuncId} {args : Array Value} {w : World} {n : Nat} {v : Value}
    (h : Calls P f args (w.drewN n) fun e w' => e = .returned v ∧ ∃ m, (w.drewN n).drewN m = w') : Calls P f args (w.drewN n) fun e w'' => e = .returned v ∧ ∃ m, w'' = w.drewN m :=
  h.mono fun _ _ ⟨he, m, hm⟩ => ⟨he, n + m, by rw [← hm, World.drewN_drewN]⟩
theorem qdrawn2 {P : Program} {f : FuncId} {args : Array Value} {w : World} {a n : Nat} {v : Value}
    (h : Calls P f args (w.drewN (a + n)) fun e w' => e = .returned v ∧ ∃ m, (w.drewN (a + n)).drewN m = w') : Calls P f args (w.drewN (a + n)) fun e w'' => e = .returned v ∧ ∃ m, w'' = w.drewN (a + m) :=
  h.mono fun _ _ ⟨he, m, hm⟩ => ⟨he, n + m, by rw [← hm, World.drewN_drewN, Nat.add_assoc]⟩
theorem some_bool (P : Prop) : ∃ c : Bool, c = true ↔ P := by
  by_cases h : P
  · exact ⟨true, by simp [h]⟩
  · exact ⟨false, by simp [h]⟩
theorem bool_true {c : Bool} {P : Prop} (h : c = true ↔ P) (hp : P) : c = true := h.2 hp
theorem bool_false {c : Bool} {P : Prop} (h : c = true ↔ P) (hp : ¬ P) : c = false := by
  cases c
  · rfl
  · exact absurd (h.1 rfl) hp
theorem yes_iff {P : Prop} (h : P) : (true = true ↔ P) := ⟨fun _ => h, fun _ => rfl⟩
theorem no_iff {P : Prop} (h : ¬ P) : (false = true ↔ P) := ⟨(fun e => absurd e (by decide)), (fun e => absurd e h)⟩
theorem drawn2 (w : World) (n m : Nat) : ∃ k, w.drewN k = (w.drewN n).drewN m := ⟨_, (World.drewN_drewN w n m).symm⟩
theorem ret_pair {k : IntKind} {a b c d : Int} (h : a = b) (h' : c = d) : Ending.returned (.tuple #[.int k a, .int k c]) = .returned (.tuple #[.int k b, .int k d]) := by rw [h, h']
set_option maxHeartbeats 400000 in
theorem l00In_any (x a b : Int) (c : Bool) (h : inR x a b = c) (w : World) :
    Calls Try.prog 115 #[.int .i64 x, .int .i64 a, .int .i64 b] w fun e w' => e = .returned (.bool c) ∧ w = w' := by
  by_cases h1 : a ≤ x
  · by_cases h2 : x ≤ b
    · have hc : c = true := by rw [← h]; exact inR_t ⟨h1, h2⟩
      subst hc
      clear h
      go_enter Try.func115, Try.ntmps115
      go_wp2
      go_ret
      exact ⟨rfl, rfl⟩
    · have hc : c = false := by rw [← h]; exact inR_f (by omega)
      subst hc
      clear h
      go_enter Try.func115, Try.ntmps115
      go_wp2
      go_ret
      exact ⟨rfl, rfl⟩
  · have hc : c = false := by rw [← h]; exact inR_f (by omega)
    subst hc
    clear h
    go_enter Try.func115, Try.ntmps115
    go_wp2
    go_ret
    exact ⟨rfl, rfl⟩

end Go.Proofs.Ytihfdgnocdphcaa
