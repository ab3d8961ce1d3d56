/-
  No cell of these rows narrows 'for every input' (looked for: loops, veiled, ifaces, maps, wideKeys, modest, calm, conditions, laid).
  DERIVED. THE GIVEN ROWS OF THIS SEAT. 12 by the template 'for every input the law returns true; each argument reads behind the call as it read before'; 0 by the template 'total and deterministic' (their statements: YtcfdbjjfdddfeaaTotals.lean).
  GIVEN WITH THE SEED: the statements are not yours to turn. If you find one false, say at which input.
  Laid BY PROGRAM, IN A SANDBOX (cutbox-rows.mjs): the forced cells as the released guide's own fill.sh prints them over the translation 02a861c29e48fa54… (all of the seat's roots in one cut). By AI agents, Wed Nov 11 2026. No macro, syntax, notation, axiom, sorry.
-/
import Derived.Test.YtcfdbjjfdddfeaaChecked
import GoSem.Claim
import GoSem.ClaimJoined
import GoSem.ClaimMapViews
import Derived.JoinedTies
import Derived.KernelRfl
namespace Go.Proofs.Ytcfdbjjfdddfeaa
/- THE CELL 'sum', in the pinned program and in every row, IS THE sha256 OF THE DUMP (.gsa) THAT YtcfdbjjfdddfeaaProg.lean LOADS. Nothing in Lean hashes anything: it is a label: what it is worth is what the hold of that sum in a sandbox is worth. -/
noncomputable def Try.pinned : Pinned := { name := "ytcfdbjjfdddfeaa", sum := "02a861c29e48fa54949360b2feedc78d7541eaa0a6276069f1a2235c3df5f894", checked := Try.checked }
namespace Rows
def none {H : Type} : Left H := { results := [], args := [] }

/-- 'laws.FnExactSameJoined': WHATEVER THE INPUT: true; the input reads as it did. -/
def fnExactSameJoinedSpec : ChangeSpec := { name := "fnExactSameJoined", fn := fun _ => fun
  | [d1, d2] => { results := [.lit (.bool true)], args := [d1, d2] }
  | _ => none }
def fnExactSameJoinedRow : OpenClaim := { program := "ytcfdbjjfdddfeaa", sum := "02a861c29e48fa54949360b2feedc78d7541eaa0a6276069f1a2235c3df5f894", func := "loop.example/g00931/laws.FnExactSameJoined", spec := "fnExactSameJoined", apart := false }
def FnExactSameJoinedSaid : Prop := fnExactSameJoinedRow.holds Try.pinned (OpenSpec.ofChange fnExactSameJoinedSpec)

/-- ITS FALSE NEIGHBOUR: 'it returns false'. Refute it at one input. -/
def fnExactSameJoinedWrong : ChangeSpec := { name := "fnExactSameJoined", fn := fun _ => fun
  | [d1, d2] => { results := [.lit (.bool false)], args := [d1, d2] }
  | _ => none }
def FnExactSameJoinedWrongFalsely : Prop := fnExactSameJoinedRow.holds Try.pinned (OpenSpec.ofChange fnExactSameJoinedWrong)

/-- 'laws.FnExactNewJoined': WHATEVER THE INPUT: true; the input reads as it did. -/
def fnExactNewJoinedSpec : ChangeSpec := { name := "fnExactNewJoined", fn := fun _ => fun
  | [d] => { results := [.lit (.bool true)], args := [d] }
  | _ => none }
def fnExactNewJoinedRow : OpenClaim := { program := "ytcfdbjjfdddfeaa", sum := "02a861c29e48fa54949360b2feedc78d7541eaa0a6276069f1a2235c3df5f894", func := "loop.example/g00931/laws.FnExactNewJoined", spec := "fnExactNewJoined", apart := false }
def FnExactNewJoinedSaid : Prop := fnExactNewJoinedRow.holds Try.pinned (OpenSpec.ofChange fnExactNewJoinedSpec)

/-- ITS FALSE NEIGHBOUR: 'it returns false'. Refute it at one input. -/
def fnExactNewJoinedWrong : ChangeSpec := { name := "fnExactNewJoined", fn := fun _ => fun
  | [d] => { results := [.lit (.bool false)], args := [d] }
  | _ => none }
def FnExactNewJoinedWrongFalsely : Prop := fnExactNewJoinedRow.holds Try.pinned (OpenSpec.ofChange fnExactNewJoinedWrong)

/-- 'laws.FnExactValidJoined': WHATEVER THE INPUT: true; the input reads as it did. -/
def fnExactValidJoinedSpec : ChangeSpec := { name := "fnExactValidJoined", fn := fun _ => fun
  | [d] => { results := [.lit (.bool true)], args := [d] }
  | _ => none }
def fnExactValidJoinedRow : OpenClaim := { program := "ytcfdbjjfdddfeaa", sum := "02a861c29e48fa54949360b2feedc78d7541eaa0a6276069f1a2235c3df5f894", func := "loop.example/g00931/laws.FnExactValidJoined", spec := "fnExactValidJoined", apart := false }
def FnExactValidJoinedSaid : Prop := fnExactValidJoinedRow.holds Try.pinned (OpenSpec.ofChange fnExactValidJoinedSpec)

/-- ITS FALSE NEIGHBOUR: 'it returns false'. Refute it at one input. -/
def fnExactValidJoinedWrong : ChangeSpec := { name := "fnExactValidJoined", fn := fun _ => fun
  | [d] => { results := [.lit (.bool false)], args := [d] }
  | _ => none }
def FnExactValidJoinedWrongFalsely : Prop := fnExactValidJoinedRow.holds Try.pinned (OpenSpec.ofChange fnExactValidJoinedWrong)

/-- 'laws.FnExactCountGroups': WHATEVER THE INPUT: true; the input reads as it did. -/
def fnExactCountGroupsSpec : ChangeSpec := { name := "fnExactCountGroups", fn := fun _ => fun
  | [d] => { results := [.lit (.bool true)], args := [d] }
  | _ => none }
def fnExactCountGroupsRow : OpenClaim := { program := "ytcfdbjjfdddfeaa", sum := "02a861c29e48fa54949360b2feedc78d7541eaa0a6276069f1a2235c3df5f894", func := "loop.example/g00931/laws.FnExactCountGroups", spec := "fnExactCountGroups", apart := false }
def FnExactCountGroupsSaid : Prop := fnExactCountGroupsRow.holds Try.pinned (OpenSpec.ofChange fnExactCountGroupsSpec)

/-- ITS FALSE NEIGHBOUR: 'it returns false'. Refute it at one input. -/
def fnExactCountGroupsWrong : ChangeSpec := { name := "fnExactCountGroups", fn := fun _ => fun
  | [d] => { results := [.lit (.bool false)], args := [d] }
  | _ => none }
def FnExactCountGroupsWrongFalsely : Prop := fnExactCountGroupsRow.holds Try.pinned (OpenSpec.ofChange fnExactCountGroupsWrong)

/-- 'laws.FnExactGroupOf': WHATEVER THE INPUT: true; the input reads as it did. -/
def fnExactGroupOfSpec : ChangeSpec := { name := "fnExactGroupOf", fn := fun _ => fun
  | [d1, d2] => { results := [.lit (.bool true)], args := [d1, d2] }
  | _ => none }
def fnExactGroupOfRow : OpenClaim := { program := "ytcfdbjjfdddfeaa", sum := "02a861c29e48fa54949360b2feedc78d7541eaa0a6276069f1a2235c3df5f894", func := "loop.example/g00931/laws.FnExactGroupOf", spec := "fnExactGroupOf", apart := false }
def FnExactGroupOfSaid : Prop := fnExactGroupOfRow.holds Try.pinned (OpenSpec.ofChange fnExactGroupOfSpec)

/-- ITS FALSE NEIGHBOUR: 'it returns false'. Refute it at one input. -/
def fnExactGroupOfWrong : ChangeSpec := { name := "fnExactGroupOf", fn := fun _ => fun
  | [d1, d2] => { results := [.lit (.bool false)], args := [d1, d2] }
  | _ => none }
def FnExactGroupOfWrongFalsely : Prop := fnExactGroupOfRow.holds Try.pinned (OpenSpec.ofChange fnExactGroupOfWrong)

/-- 'laws.FnExactUndoJoin': WHATEVER THE INPUT: true; the input reads as it did. -/
def fnExactUndoJoinSpec : ChangeSpec := { name := "fnExactUndoJoin", fn := fun _ => fun
  | [d] => { results := [.lit (.bool true)], args := [d] }
  | _ => none }
def fnExactUndoJoinRow : OpenClaim := { program := "ytcfdbjjfdddfeaa", sum := "02a861c29e48fa54949360b2feedc78d7541eaa0a6276069f1a2235c3df5f894", func := "loop.example/g00931/laws.FnExactUndoJoin", spec := "fnExactUndoJoin", apart := false }
def FnExactUndoJoinSaid : Prop := fnExactUndoJoinRow.holds Try.pinned (OpenSpec.ofChange fnExactUndoJoinSpec)

/-- ITS FALSE NEIGHBOUR: 'it returns false'. Refute it at one input. -/
def fnExactUndoJoinWrong : ChangeSpec := { name := "fnExactUndoJoin", fn := fun _ => fun
  | [d] => { results := [.lit (.bool false)], args := [d] }
  | _ => none }
def FnExactUndoJoinWrongFalsely : Prop := fnExactUndoJoinRow.holds Try.pinned (OpenSpec.ofChange fnExactUndoJoinWrong)

/-- 'laws.FnExactGroupsOf': WHATEVER THE INPUT: true; the input reads as it did. -/
def fnExactGroupsOfSpec : ChangeSpec := { name := "fnExactGroupsOf", fn := fun _ => fun
  | [d] => { results := [.lit (.bool true)], args := [d] }
  | _ => none }
def fnExactGroupsOfRow : OpenClaim := { program := "ytcfdbjjfdddfeaa", sum := "02a861c29e48fa54949360b2feedc78d7541eaa0a6276069f1a2235c3df5f894", func := "loop.example/g00931/laws.FnExactGroupsOf", spec := "fnExactGroupsOf", apart := false }
def FnExactGroupsOfSaid : Prop := fnExactGroupsOfRow.holds Try.pinned (OpenSpec.ofChange fnExactGroupsOfSpec)

/-- ITS FALSE NEIGHBOUR: 'it returns false'. Refute it at one input. -/
def fnExactGroupsOfWrong : ChangeSpec := { name := "fnExactGroupsOf", fn := fun _ => fun
  | [d] => { results := [.lit (.bool false)], args := [d] }
  | _ => none }
def FnExactGroupsOfWrongFalsely : Prop := fnExactGroupsOfRow.holds Try.pinned (OpenSpec.ofChange fnExactGroupsOfWrong)

/-- 'laws.FnJoins': WHATEVER THE INPUT: true; the input reads as it did. -/
def fnJoinsSpec : ChangeSpec := { name := "fnJoins", fn := fun _ => fun
  | [d1, d2] => { results := [.lit (.bool true)], args := [d1, d2] }
  | _ => none }
def fnJoinsRow : OpenClaim := { program := "ytcfdbjjfdddfeaa", sum := "02a861c29e48fa54949360b2feedc78d7541eaa0a6276069f1a2235c3df5f894", func := "loop.example/g00931/laws.FnJoins", spec := "fnJoins", apart := false }
def FnJoinsSaid : Prop := fnJoinsRow.holds Try.pinned (OpenSpec.ofChange fnJoinsSpec)

/-- ITS FALSE NEIGHBOUR: 'it returns false'. Refute it at one input. -/
def fnJoinsWrong : ChangeSpec := { name := "fnJoins", fn := fun _ => fun
  | [d1, d2] => { results := [.lit (.bool false)], args := [d1, d2] }
  | _ => none }
def FnJoinsWrongFalsely : Prop := fnJoinsRow.holds Try.pinned (OpenSpec.ofChange fnJoinsWrong)

/-- 'laws.FnExactJoinGroups': WHATEVER THE INPUT: true; the input reads as it did. -/
def fnExactJoinGroupsSpec : ChangeSpec := { name := "fnExactJoinGroups", fn := fun _ => fun
  | [d1, d2, d3] => { results := [.lit (.bool true)], args := [d1, d2, d3] }
  | _ => none }
def fnExactJoinGroupsRow : OpenClaim := { program := "ytcfdbjjfdddfeaa", sum := "02a861c29e48fa54949360b2feedc78d7541eaa0a6276069f1a2235c3df5f894", func := "loop.example/g00931/laws.FnExactJoinGroups", spec := "fnExactJoinGroups", apart := false }
def FnExactJoinGroupsSaid : Prop := fnExactJoinGroupsRow.holds Try.pinned (OpenSpec.ofChange fnExactJoinGroupsSpec)

/-- ITS FALSE NEIGHBOUR: 'it returns false'. Refute it at one input. -/
def fnExactJoinGroupsWrong : ChangeSpec := { name := "fnExactJoinGroups", fn := fun _ => fun
  | [d1, d2, d3] => { results := [.lit (.bool false)], args := [d1, d2, d3] }
  | _ => none }
def FnExactJoinGroupsWrongFalsely : Prop := fnExactJoinGroupsRow.holds Try.pinned (OpenSpec.ofChange fnExactJoinGroupsWrong)

/-- 'laws.FnExactPairsOf': WHATEVER THE INPUT: true; the input reads as it did. -/
def fnExactPairsOfSpec : ChangeSpec := { name := "fnExactPairsOf", fn := fun _ => fun
  | [d] => { results := [.lit (.bool true)], args := [d] }
  | _ => none }
def fnExactPairsOfRow : OpenClaim := { program := "ytcfdbjjfdddfeaa", sum := "02a861c29e48fa54949360b2feedc78d7541eaa0a6276069f1a2235c3df5f894", func := "loop.example/g00931/laws.FnExactPairsOf", spec := "fnExactPairsOf", unfollowed := true, recurses := true, apart := false }
def FnExactPairsOfSaid : Prop := fnExactPairsOfRow.holds Try.pinned (OpenSpec.ofChange fnExactPairsOfSpec)

/-- ITS FALSE NEIGHBOUR: 'it returns false'. Refute it at one input. -/
def fnExactPairsOfWrong : ChangeSpec := { name := "fnExactPairsOf", fn := fun _ => fun
  | [d] => { results := [.lit (.bool false)], args := [d] }
  | _ => none }
def FnExactPairsOfWrongFalsely : Prop := fnExactPairsOfRow.holds Try.pinned (OpenSpec.ofChange fnExactPairsOfWrong)

/-- 'laws.FnExactJoinPanel': WHATEVER THE INPUT: true; the input reads as it did. -/
def fnExactJoinPanelSpec : ChangeSpec := { name := "fnExactJoinPanel", fn := fun _ => fun
  | [d] => { results := [.lit (.bool true)], args := [d] }
  | _ => none }
def fnExactJoinPanelRow : OpenClaim := { program := "ytcfdbjjfdddfeaa", sum := "02a861c29e48fa54949360b2feedc78d7541eaa0a6276069f1a2235c3df5f894", func := "loop.example/g00931/laws.FnExactJoinPanel", spec := "fnExactJoinPanel", unfollowed := true, recurses := true, apart := false }
def FnExactJoinPanelSaid : Prop := fnExactJoinPanelRow.holds Try.pinned (OpenSpec.ofChange fnExactJoinPanelSpec)

/-- ITS FALSE NEIGHBOUR: 'it returns false'. Refute it at one input. -/
def fnExactJoinPanelWrong : ChangeSpec := { name := "fnExactJoinPanel", fn := fun _ => fun
  | [d] => { results := [.lit (.bool false)], args := [d] }
  | _ => none }
def FnExactJoinPanelWrongFalsely : Prop := fnExactJoinPanelRow.holds Try.pinned (OpenSpec.ofChange fnExactJoinPanelWrong)

/-- 'laws.FnPairsJoined': WHATEVER THE INPUT: true; the input reads as it did. -/
def fnPairsJoinedSpec : ChangeSpec := { name := "fnPairsJoined", fn := fun _ => fun
  | [d] => { results := [.lit (.bool true)], args := [d] }
  | _ => none }
def fnPairsJoinedRow : OpenClaim := { program := "ytcfdbjjfdddfeaa", sum := "02a861c29e48fa54949360b2feedc78d7541eaa0a6276069f1a2235c3df5f894", func := "loop.example/g00931/laws.FnPairsJoined", spec := "fnPairsJoined", unfollowed := true, recurses := true, apart := false }
def FnPairsJoinedSaid : Prop := fnPairsJoinedRow.holds Try.pinned (OpenSpec.ofChange fnPairsJoinedSpec)

/-- ITS FALSE NEIGHBOUR: 'it returns false'. Refute it at one input. -/
def fnPairsJoinedWrong : ChangeSpec := { name := "fnPairsJoined", fn := fun _ => fun
  | [d] => { results := [.lit (.bool false)], args := [d] }
  | _ => none }
def FnPairsJoinedWrongFalsely : Prop := fnPairsJoinedRow.holds Try.pinned (OpenSpec.ofChange fnPairsJoinedWrong)

/- THE SECOND FORM. 'bulk': how many values and letters a reading holds, each counted each time it is reached (what is shared counts as often as it is met; a slice's spare places count too). A statement '..UptoSaid' is the law's where the arguments, and the package variables that the reading takes, are together of bulk at most 1048576: NARROWER than '..Said'. Prove '..Said' where nothing that the law and all that it calls make is longer than what came in: it says more and counts as full. Else prove '..UptoSaid'. A law counts once. -/
mutual
def uptoBulk {H : Type} : DataW H → Nat
  | .lit (.string bytes) => bytes.length + 1
  | .lit _ => 1
  | .nil => 1
  | .ptr d => uptoBulk d + 1
  | .slice elems spare => uptoBulkAll elems + uptoBulkAll spare + 1
  | .agg parts => uptoBulkAll parts + 1
  | .iface _ d => uptoBulk d + 1
  | .map entries => uptoBulkEntries entries + 1
  | .held _ => 1
def uptoBulkAll {H : Type} : List (DataW H) → Nat
  | [] => 0
  | d :: r => uptoBulk d + uptoBulkAll r
def uptoBulkEntries {H : Type} : List (Lit × DataW H) → Nat
  | [] => 0
  | x :: r => uptoBulkEntry x + uptoBulkEntries r
def uptoBulkEntry {H : Type} : Lit × DataW H → Nat
  | (.string bytes, d) => bytes.length + uptoBulk d + 1
  | (_, d) => uptoBulk d + 1
 end
def uptoSmall : (H : Type) → List (DataW H) → Bool := fun _ ds => decide (uptoBulkAll ds ≤ 1048576)
def OpenSpec.upto (s : _root_.Go.ChangeSpec) : _root_.Go.OpenSpec := { _root_.Go.OpenSpec.ofChange s with cond := some uptoSmall }

/-- 'laws.FnExactSameJoined', WHERE WHAT IT READS IS OF BULK AT MOST 1048576: true; the input reads as it did. -/
def fnExactSameJoinedUptoRow : OpenClaim := { program := "ytcfdbjjfdddfeaa", sum := "02a861c29e48fa54949360b2feedc78d7541eaa0a6276069f1a2235c3df5f894", func := "loop.example/g00931/laws.FnExactSameJoined", spec := "fnExactSameJoined", apart := false, narrowed := true }
def FnExactSameJoinedUptoSaid : Prop := fnExactSameJoinedUptoRow.holds Try.pinned (OpenSpec.upto fnExactSameJoinedSpec)

/-- 'laws.FnExactNewJoined', WHERE WHAT IT READS IS OF BULK AT MOST 1048576: true; the input reads as it did. -/
def fnExactNewJoinedUptoRow : OpenClaim := { program := "ytcfdbjjfdddfeaa", sum := "02a861c29e48fa54949360b2feedc78d7541eaa0a6276069f1a2235c3df5f894", func := "loop.example/g00931/laws.FnExactNewJoined", spec := "fnExactNewJoined", apart := false, narrowed := true }
def FnExactNewJoinedUptoSaid : Prop := fnExactNewJoinedUptoRow.holds Try.pinned (OpenSpec.upto fnExactNewJoinedSpec)

/-- 'laws.FnExactValidJoined', WHERE WHAT IT READS IS OF BULK AT MOST 1048576: true; the input reads as it did. -/
def fnExactValidJoinedUptoRow : OpenClaim := { program := "ytcfdbjjfdddfeaa", sum := "02a861c29e48fa54949360b2feedc78d7541eaa0a6276069f1a2235c3df5f894", func := "loop.example/g00931/laws.FnExactValidJoined", spec := "fnExactValidJoined", apart := false, narrowed := true }
def FnExactValidJoinedUptoSaid : Prop := fnExactValidJoinedUptoRow.holds Try.pinned (OpenSpec.upto fnExactValidJoinedSpec)

/-- 'laws.FnExactCountGroups', WHERE WHAT IT READS IS OF BULK AT MOST 1048576: true; the input reads as it did. -/
def fnExactCountGroupsUptoRow : OpenClaim := { program := "ytcfdbjjfdddfeaa", sum := "02a861c29e48fa54949360b2feedc78d7541eaa0a6276069f1a2235c3df5f894", func := "loop.example/g00931/laws.FnExactCountGroups", spec := "fnExactCountGroups", apart := false, narrowed := true }
def FnExactCountGroupsUptoSaid : Prop := fnExactCountGroupsUptoRow.holds Try.pinned (OpenSpec.upto fnExactCountGroupsSpec)

/-- 'laws.FnExactGroupOf', WHERE WHAT IT READS IS OF BULK AT MOST 1048576: true; the input reads as it did. -/
def fnExactGroupOfUptoRow : OpenClaim := { program := "ytcfdbjjfdddfeaa", sum := "02a861c29e48fa54949360b2feedc78d7541eaa0a6276069f1a2235c3df5f894", func := "loop.example/g00931/laws.FnExactGroupOf", spec := "fnExactGroupOf", apart := false, narrowed := true }
def FnExactGroupOfUptoSaid : Prop := fnExactGroupOfUptoRow.holds Try.pinned (OpenSpec.upto fnExactGroupOfSpec)

/-- 'laws.FnExactUndoJoin', WHERE WHAT IT READS IS OF BULK AT MOST 1048576: true; the input reads as it did. -/
def fnExactUndoJoinUptoRow : OpenClaim := { program := "ytcfdbjjfdddfeaa", sum := "02a861c29e48fa54949360b2feedc78d7541eaa0a6276069f1a2235c3df5f894", func := "loop.example/g00931/laws.FnExactUndoJoin", spec := "fnExactUndoJoin", apart := false, narrowed := true }
def FnExactUndoJoinUptoSaid : Prop := fnExactUndoJoinUptoRow.holds Try.pinned (OpenSpec.upto fnExactUndoJoinSpec)

/-- 'laws.FnExactGroupsOf', WHERE WHAT IT READS IS OF BULK AT MOST 1048576: true; the input reads as it did. -/
def fnExactGroupsOfUptoRow : OpenClaim := { program := "ytcfdbjjfdddfeaa", sum := "02a861c29e48fa54949360b2feedc78d7541eaa0a6276069f1a2235c3df5f894", func := "loop.example/g00931/laws.FnExactGroupsOf", spec := "fnExactGroupsOf", apart := false, narrowed := true }
def FnExactGroupsOfUptoSaid : Prop := fnExactGroupsOfUptoRow.holds Try.pinned (OpenSpec.upto fnExactGroupsOfSpec)

/-- 'laws.FnJoins', WHERE WHAT IT READS IS OF BULK AT MOST 1048576: true; the input reads as it did. -/
def fnJoinsUptoRow : OpenClaim := { program := "ytcfdbjjfdddfeaa", sum := "02a861c29e48fa54949360b2feedc78d7541eaa0a6276069f1a2235c3df5f894", func := "loop.example/g00931/laws.FnJoins", spec := "fnJoins", apart := false, narrowed := true }
def FnJoinsUptoSaid : Prop := fnJoinsUptoRow.holds Try.pinned (OpenSpec.upto fnJoinsSpec)

/-- 'laws.FnExactJoinGroups', WHERE WHAT IT READS IS OF BULK AT MOST 1048576: true; the input reads as it did. -/
def fnExactJoinGroupsUptoRow : OpenClaim := { program := "ytcfdbjjfdddfeaa", sum := "02a861c29e48fa54949360b2feedc78d7541eaa0a6276069f1a2235c3df5f894", func := "loop.example/g00931/laws.FnExactJoinGroups", spec := "fnExactJoinGroups", apart := false, narrowed := true }
def FnExactJoinGroupsUptoSaid : Prop := fnExactJoinGroupsUptoRow.holds Try.pinned (OpenSpec.upto fnExactJoinGroupsSpec)

/-- 'laws.FnExactPairsOf', WHERE WHAT IT READS IS OF BULK AT MOST 1048576: true; the input reads as it did. -/
def fnExactPairsOfUptoRow : OpenClaim := { program := "ytcfdbjjfdddfeaa", sum := "02a861c29e48fa54949360b2feedc78d7541eaa0a6276069f1a2235c3df5f894", func := "loop.example/g00931/laws.FnExactPairsOf", spec := "fnExactPairsOf", unfollowed := true, recurses := true, apart := false, narrowed := true }
def FnExactPairsOfUptoSaid : Prop := fnExactPairsOfUptoRow.holds Try.pinned (OpenSpec.upto fnExactPairsOfSpec)

/-- 'laws.FnExactJoinPanel', WHERE WHAT IT READS IS OF BULK AT MOST 1048576: true; the input reads as it did. -/
def fnExactJoinPanelUptoRow : OpenClaim := { program := "ytcfdbjjfdddfeaa", sum := "02a861c29e48fa54949360b2feedc78d7541eaa0a6276069f1a2235c3df5f894", func := "loop.example/g00931/laws.FnExactJoinPanel", spec := "fnExactJoinPanel", unfollowed := true, recurses := true, apart := false, narrowed := true }
def FnExactJoinPanelUptoSaid : Prop := fnExactJoinPanelUptoRow.holds Try.pinned (OpenSpec.upto fnExactJoinPanelSpec)

/-- 'laws.FnPairsJoined', WHERE WHAT IT READS IS OF BULK AT MOST 1048576: true; the input reads as it did. -/
def fnPairsJoinedUptoRow : OpenClaim := { program := "ytcfdbjjfdddfeaa", sum := "02a861c29e48fa54949360b2feedc78d7541eaa0a6276069f1a2235c3df5f894", func := "loop.example/g00931/laws.FnPairsJoined", spec := "fnPairsJoined", unfollowed := true, recurses := true, apart := false, narrowed := true }
def FnPairsJoinedUptoSaid : Prop := fnPairsJoinedUptoRow.holds Try.pinned (OpenSpec.upto fnPairsJoinedSpec)

end Rows
end Go.Proofs.Ytcfdbjjfdddfeaa
