/-
  All curves, traced by the program.
-/
import Derived.Test.YtnldahadldolpaaStepI
import Derived.Test.YtnldahadldolpaaPlAllB
import Derived.Test.YtnldahadldolpaaAppG
import Derived.Test.YtnldahadldolpaaAppC
import Derived.Deep.LoopGhost
namespace Go.Proofs.Ytnldahadldolpaa
open Go.RowKit Knot

end Go.Proofs.Ytnldahadldolpaa
