/-
  How many curves a panel has; with another break.
-/
import Derived.Test.YtihfdgnocdphcaaTrI
import Derived.Test.YtihfdgnocdphcaaAllS
import Derived.Test.YtihfdgnocdphcaaOwn
import Derived.Test.YtihfdgnocdphcaaPlAllD
namespace Go.Proofs.Ytihfdgnocdphcaa
open Go.RowKit Knot

set_option maxHeartbeats 4000000 in
theorem countCurves_any {w : World} {Bd : Nat} {W H : Int} {v : Value} {B : List Int} (hI : Ints w Bd v B) (hp : Ok ⟨W, H, B⟩) :
    Calls Try.prog 110 #[.agg #[.int .i64 W, .int .i64 H, v]] w fun e w' => e = .returned (.int .i64 (cntP ⟨W, H, B⟩)) ∧ Below w.heap.size w w' := by
  obtain ⟨A, c, rfl, _, _⟩ := hI.open_
  have bl := Joins.below_alloc1 w (.cells #[.int .i64 W, .int .i64 H, .slice A B.length c] 30)
  have ba := Box.new w 30 #[.int .i64 W, .int .i64 H, .slice A B.length c]
  have hI1 := Row.below hI bl
  have q0 := ba.cell 0
  have q1 := ba.cell 1
  have q2 := ba.cell 2
  have qn := ba.lt
  simp only [List.getElem?_toArray, List.getElem?_cons_zero, List.getElem?_cons_succ] at q0 q1 q2
  have HC : Hid (((traceP ⟨W, H, B⟩ (segN ⟨W, H, B⟩)).1.length : Int) = cntP ⟨W, H, B⟩) := Lib.hid rfl
  clear hI ba
  go_enter Try.func110, Try.ntmps110
  go_wp2_with fail
  refine (trace_any hI1 hp).mono ?_
  rintro e w2 ⟨D, d, g, rfl, _, hb⟩
  obtain ⟨m, hm⟩ : ∃ m, (traceP ⟨W, H, B⟩ (segN ⟨W, H, B⟩)).1.length = m := ⟨_, rfl⟩
  rw [hm]
  have HM := Lib.hid hm
  clear hm
  clear q0 q1 q2 qn
  go_wp2
  go_ret
  exact ⟨ret_int (by rw [← HC.out, HM.out]), bnext bl hb⟩
set_option maxHeartbeats 4000000 in
theorem l04Count_any {w : World} {b Bd : Nat} {W H : Int} {v : Value} {B : List Int} (bp : Box w b 30 #[.int .i64 W, .int .i64 H, v]) (hI : Ints w Bd v B) (hp : Ok ⟨W, H, B⟩) :
    Calls Try.prog 109 #[.pointer (some ⟨b, 0, none⟩)] w fun e w' => e = .returned (.int .i64 (cntP ⟨W, H, B⟩)) ∧ Below w.heap.size w w' := by
  have HC : Hid (((traceP ⟨W, H, B⟩ (segN ⟨W, H, B⟩)).1.length : Int) = cntP ⟨W, H, B⟩) := Lib.hid rfl
  go_enter Try.func109, Try.ntmps109
  go_wp2_with fail
  refine (l04All_any bp hI hp).mono ?_
  rintro e w2 ⟨D, d, g, rfl, _, _, hb⟩
  obtain ⟨m, hm⟩ : ∃ m, (traceP ⟨W, H, B⟩ (segN ⟨W, H, B⟩)).1.length = m := ⟨_, rfl⟩
  rw [hm]
  have HM := Lib.hid hm
  clear hm
  go_wp2
  go_ret
  exact ⟨ret_int (by rw [← HC.out, HM.out]), hb⟩
end Go.Proofs.Ytihfdgnocdphcaa
