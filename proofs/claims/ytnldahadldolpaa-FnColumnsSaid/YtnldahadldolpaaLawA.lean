/-
  Helpers of the great laws: bytes that are too long, a number out of a byte; curves counted.
-/
import Derived.Test.YtnldahadldolpaaCnt
import Derived.Test.YtnldahadldolpaaPick
import Derived.Test.YtnldahadldolpaaVal
namespace Go.Proofs.Ytnldahadldolpaa
open Go.RowKit Knot

set_option maxHeartbeats 1000000 in
theorem a2Long2_any (a : Option Addr) (l c : Nat) (b : Option Addr) (m d : Nat) (r : Bool) (h : decide ((l : Int) > 3000 ∨ (m : Int) > 3000) = r) (w : World) :
    Calls Try.prog 24 #[.slice a l c, .slice b m d] w fun e w' => e = .returned (.bool r) ∧ w = w' := by
  by_cases e : (3000 : Int) < l
  · have t1 : decide ((3000 : Int) < l) = true := decide_eq_true e
    obtain rfl : true = r := by rw [← h]; symm; exact decide_eq_true (.inl e)
    clear h e
    go_enter Try.func24, Try.ntmps24
    go_wp2
    all_goals (go_ret; exact ⟨rfl, rfl⟩)
  · have t1 : decide ((3000 : Int) < l) = false := decide_eq_false e
    obtain ⟨t, t2⟩ : ∃ t, decide ((3000 : Int) < m) = t := ⟨_, rfl⟩
    obtain rfl : t = r := by rw [← h, ← t2]; exact decide_eq_decide.2 ⟨fun h => .inr h, fun h => h.resolve_left e⟩
    clear h e
    go_enter Try.func24, Try.ntmps24
    go_wp2
    all_goals (go_ret; exact ⟨rfl, rfl⟩)
set_option maxHeartbeats 2000000 in
theorem sCountCurves_any {w : World} {lo hi : Nat} {W H : Int} {v : Value} {B : List Int} (hI : IntsIn w lo hi v B) (hp : Ok ⟨W, H, B⟩) :
    Calls Try.prog 50 #[.agg #[.int .i64 W, .int .i64 H, v]] w fun e w' => e = .returned (.tuple #[.int .i64 (cntP ⟨W, H, B⟩), .int .i64 0]) ∧ Below w.heap.size w w' := by
  obtain ⟨A, c, rfl, _, _⟩ := hI.1.open_
  have bl := Joins.below_alloc1 w (.cells #[.int .i64 W, .int .i64 H, .slice A B.length c] 41)
  have ba := Box.new w 41 #[.int .i64 W, .int .i64 H, .slice A B.length c]
  have hv := hI.below bl
  have HP := Lib.hid hp
  clear hI hp
  go_enter Try.func50, Try.ntmps50
  go_wp2_with fail
  refine (l02Ok_any _ W H _ B true (yes_iff HP.out) _ ⟨ba, hv.ints⟩).mono ?_
  rintro e w2 ⟨rfl, hd⟩
  have hb := bdrawn hd
  replace ba := ba.below hb
  replace hv := hv.below hb
  replace bl := bnext bl hb
  clear hb hd
  go_wp2_with fail
  refine (l04Count_any ba hv.1 HP.out).mono ?_
  rintro e w3 ⟨rfl, hb3⟩
  go_wp2
  go_ret2
  exact ⟨rfl, bnext bl hb3⟩
end Go.Proofs.Ytnldahadldolpaa
