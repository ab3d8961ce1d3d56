/-
  SameJoined, in the form that its law's walk takes.
-/
import Derived.Test.YtcfdbjjfdddfeaaKJoin
namespace Go.Proofs.Ytcfdbjjfdddfeaa
open Go.RowKit Knot

def sameM (a b c d : List Int) : Bool := decide (a = c ∧ b = d)
section
variable {w : World} {lo hi lo' hi' : Nat} {v1 v2 u1 u2 : Value} {a b c d : List Int} {r : Bool}
theorem K_impl_SameJoined (h : JoinedIn w lo hi v1 v2 a b) (k : JoinedIn w lo' hi' u1 u2 c d) (hm : sameM a b c d = r) :
    Calls Try.prog 18 #[.agg #[v1, v2], .agg #[u1, u2]] w fun e w' => e = .returned (.bool r) ∧ Below w.heap.size w w' :=
  SameJoined_any v1 v2 u1 u2 a b c d w h.1.ints h.2.1.ints k.1.ints k.2.1.ints r hm
theorem K_spec_SameJoined (h : JoinedIn w lo hi v1 v2 a b) (k : JoinedIn w lo' hi' u1 u2 c d) (hm : sameM a b c d = r) :
    Calls Try.prog 16 #[.agg #[v1, v2], .agg #[u1, u2]] w fun e w' => e = .returned (.bool r) ∧ Below w.heap.size w w' :=
  sSameJoined_any v1 v2 u1 u2 a b c d w h.1.ints h.2.1.ints k.1.ints k.2.1.ints r hm
end
end Go.Proofs.Ytcfdbjjfdddfeaa
