/-
  The curve of each segment, by the reference.
-/
import Derived.Test.YtcfdbjjfdddfeaaAllS
import Derived.Test.YtcfdbjjfdddfeaaVal
namespace Go.Proofs.Ytcfdbjjfdddfeaa
open Go.RowKit Knot

set_option maxHeartbeats 4000000 in
theorem SegmentCurves_any {w : World} {lo hi : Nat} {W H : Int} {v : Value} {B of : List Int} {n : Nat} (hI : IntsIn w lo hi v B) (hp : Ok ⟨W, H, B⟩) (hof : (traceP ⟨W, H, B⟩ (segN ⟨W, H, B⟩)).2 = of) (hn : segN ⟨W, H, B⟩ = n) :
    Calls Try.prog 51 #[.agg #[.int .i64 W, .int .i64 H, v]] w fun e w' => ∃ g, e = .returned (.tuple #[.slice (some ⟨g, 0, none⟩) n n, .int .i64 0]) ∧ Ints w' w.heap.size (.slice (some ⟨g, 0, none⟩) n n) of ∧ Below w.heap.size w w' := by
  obtain ⟨A, c, rfl, _, _⟩ := hI.1.open_
  have bl := Joins.below_alloc1 w (.cells #[.int .i64 W, .int .i64 H, .slice A B.length c] 56)
  have ba := Box.new w 56 #[.int .i64 W, .int .i64 H, .slice A B.length c]
  have hv := hI.below bl
  have HP := Lib.hid hp
  have HF := Lib.hid (And.intro hof hn)
  clear hI hp hof hn
  go_enter Try.func51, Try.ntmps51
  go_wp2_with fail
  refine (l02Ok_any _ W H _ B true (yes_iff HP.out) _ ⟨ba, hv.ints⟩).mono ?_
  rintro e w2 ⟨rfl, hd⟩
  have hb := bdrawn hd
  replace ba := ba.below hb
  replace hv := hv.below hb
  replace bl := bnext bl hb
  have sz2 := bl.size
  clear hb hd
  go_wp2_with fail
  refine (l04All_any ba hv.1 HP.out).mono ?_
  rintro e w3 ⟨D, d, g, rfl, _, hO, hb3⟩
  rw [HF.out.1, HF.out.2] at hO
  rw [HF.out.2]
  have HO := Lib.hid (Row.le hO sz2)
  have HB := Lib.hid (bnext bl hb3)
  clear hO bl hb3 ba hv
  go_wp2
  go_ret2
  exact ⟨g, rfl, HO.out, HB.out⟩
end Go.Proofs.Ytcfdbjjfdddfeaa
