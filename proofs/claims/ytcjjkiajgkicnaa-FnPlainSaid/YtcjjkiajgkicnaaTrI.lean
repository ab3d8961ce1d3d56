/-
  All curves, traced by the program.
-/
import Derived.Test.YtcjjkiajgkicnaaStepI
import Derived.Test.YtcjjkiajgkicnaaPlTrm
import Derived.Test.YtcjjkiajgkicnaaAppG
import Derived.Test.YtcjjkiajgkicnaaAppC
import Derived.Deep.LoopGhost
namespace Go.Proofs.Ytcjjkiajgkicnaa
open Go.RowKit Knot

end Go.Proofs.Ytcjjkiajgkicnaa
