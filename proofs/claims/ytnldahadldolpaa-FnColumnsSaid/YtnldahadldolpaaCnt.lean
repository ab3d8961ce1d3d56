/-
  How many curves a panel has; with another break.
-/
import Derived.Test.YtnldahadldolpaaTrI
import Derived.Test.YtnldahadldolpaaAllS
import Derived.Test.YtnldahadldolpaaOwn
import Derived.Test.YtnldahadldolpaaPlAllB
namespace Go.Proofs.Ytnldahadldolpaa
open Go.RowKit Knot

set_option maxHeartbeats 4000000 in
theorem l04Count_any {w : World} {b Bd : Nat} {W H : Int} {v : Value} {B : List Int} (bp : Box w b 41 #[.int .i64 W, .int .i64 H, v]) (hI : Ints w Bd v B) (hp : Ok ⟨W, H, B⟩) :
    Calls Try.prog 83 #[.pointer (some ⟨b, 0, none⟩)] w fun e w' => e = .returned (.int .i64 (cntP ⟨W, H, B⟩)) ∧ Below w.heap.size w w' := by
  have HC : Hid (((traceP ⟨W, H, B⟩ (segN ⟨W, H, B⟩)).1.length : Int) = cntP ⟨W, H, B⟩) := Lib.hid rfl
  go_enter Try.func83, Try.ntmps83
  go_wp2_with fail
  refine (l04All_any bp hI hp).mono ?_
  rintro e w2 ⟨D, d, g, rfl, _, _, hb⟩
  obtain ⟨m, hm⟩ : ∃ m, (traceP ⟨W, H, B⟩ (segN ⟨W, H, B⟩)).1.length = m := ⟨_, rfl⟩
  rw [hm]
  have HM := Lib.hid hm
  clear hm
  go_wp2
  go_ret
  exact ⟨ret_int (by rw [← HC.out, HM.out]), hb⟩
end Go.Proofs.Ytnldahadldolpaa
