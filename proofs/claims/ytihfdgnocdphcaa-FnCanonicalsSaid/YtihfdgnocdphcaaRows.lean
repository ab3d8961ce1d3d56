/-
  No cell of these rows narrows 'for every input' (looked for: loops, veiled, ifaces, maps, wideKeys, modest, calm, conditions, laid).
  DERIVED. THE GIVEN ROWS OF THIS SEAT. 12 by the template 'for every input the law returns true; each argument reads behind the call as it read before'; 0 by the template 'total and deterministic' (their statements: YtihfdgnocdphcaaTotals.lean).
  GIVEN WITH THE SEED: the statements are not yours to turn. If you find one false, say at which input.
  Laid BY PROGRAM, IN A SANDBOX (cutbox-rows.mjs): the forced cells as the released guide's own fill.sh prints them over the translation 01e280ad6bffc727… (all of the seat's roots in one cut). By AI agents, Wed Nov 11 2026. No macro, syntax, notation, axiom, sorry.
-/
import Derived.Test.YtihfdgnocdphcaaChecked
import GoSem.Claim
import GoSem.ClaimJoined
import GoSem.ClaimMapViews
import Derived.JoinedTies
import Derived.KernelRfl
namespace Go.Proofs.Ytihfdgnocdphcaa
/- THE CELL 'sum', in the pinned program and in every row, IS THE sha256 OF THE DUMP (.gsa) THAT YtihfdgnocdphcaaProg.lean LOADS. Nothing in Lean hashes anything: it is a label: what it is worth is what the hold of that sum in a sandbox is worth. -/
noncomputable def Try.pinned : Pinned := { name := "ytihfdgnocdphcaa", sum := "01e280ad6bffc7274844d9f53574d235249ad5a3311eece52dc2923417fd6398", checked := Try.checked }
namespace Rows
def none {H : Type} : Left H := { results := [], args := [] }

/-- 'laws.FnExactComposeSyms': WHATEVER THE INPUT: true; the input reads as it did. -/
def fnExactComposeSymsSpec : ChangeSpec := { name := "fnExactComposeSyms", fn := fun _ => fun
  | [d1, d2] => { results := [.lit (.bool true)], args := [d1, d2] }
  | _ => none }
def fnExactComposeSymsRow : OpenClaim := { program := "ytihfdgnocdphcaa", sum := "01e280ad6bffc7274844d9f53574d235249ad5a3311eece52dc2923417fd6398", func := "loop.example/g00931/laws.FnExactComposeSyms", spec := "fnExactComposeSyms", apart := false }
def FnExactComposeSymsSaid : Prop := fnExactComposeSymsRow.holds Try.pinned (OpenSpec.ofChange fnExactComposeSymsSpec)

/-- ITS FALSE NEIGHBOUR: 'it returns false'. Refute it at one input. -/
def fnExactComposeSymsWrong : ChangeSpec := { name := "fnExactComposeSyms", fn := fun _ => fun
  | [d1, d2] => { results := [.lit (.bool false)], args := [d1, d2] }
  | _ => none }
def FnExactComposeSymsWrongFalsely : Prop := fnExactComposeSymsRow.holds Try.pinned (OpenSpec.ofChange fnExactComposeSymsWrong)

/-- 'laws.FnExactComparePanels': WHATEVER THE INPUT: true; the input reads as it did. -/
def fnExactComparePanelsSpec : ChangeSpec := { name := "fnExactComparePanels", fn := fun _ => fun
  | [d1, d2] => { results := [.lit (.bool true)], args := [d1, d2] }
  | _ => none }
def fnExactComparePanelsRow : OpenClaim := { program := "ytihfdgnocdphcaa", sum := "01e280ad6bffc7274844d9f53574d235249ad5a3311eece52dc2923417fd6398", func := "loop.example/g00931/laws.FnExactComparePanels", spec := "fnExactComparePanels", apart := false }
def FnExactComparePanelsSaid : Prop := fnExactComparePanelsRow.holds Try.pinned (OpenSpec.ofChange fnExactComparePanelsSpec)

/-- ITS FALSE NEIGHBOUR: 'it returns false'. Refute it at one input. -/
def fnExactComparePanelsWrong : ChangeSpec := { name := "fnExactComparePanels", fn := fun _ => fun
  | [d1, d2] => { results := [.lit (.bool false)], args := [d1, d2] }
  | _ => none }
def FnExactComparePanelsWrongFalsely : Prop := fnExactComparePanelsRow.holds Try.pinned (OpenSpec.ofChange fnExactComparePanelsWrong)

/-- 'laws.FnExactMapPoint': WHATEVER THE INPUT: true; the input reads as it did. -/
def fnExactMapPointSpec : ChangeSpec := { name := "fnExactMapPoint", fn := fun _ => fun
  | [d1, d2, d3] => { results := [.lit (.bool true)], args := [d1, d2, d3] }
  | _ => none }
def fnExactMapPointRow : OpenClaim := { program := "ytihfdgnocdphcaa", sum := "01e280ad6bffc7274844d9f53574d235249ad5a3311eece52dc2923417fd6398", func := "loop.example/g00931/laws.FnExactMapPoint", spec := "fnExactMapPoint", apart := false }
def FnExactMapPointSaid : Prop := fnExactMapPointRow.holds Try.pinned (OpenSpec.ofChange fnExactMapPointSpec)

/-- ITS FALSE NEIGHBOUR: 'it returns false'. Refute it at one input. -/
def fnExactMapPointWrong : ChangeSpec := { name := "fnExactMapPoint", fn := fun _ => fun
  | [d1, d2, d3] => { results := [.lit (.bool false)], args := [d1, d2, d3] }
  | _ => none }
def FnExactMapPointWrongFalsely : Prop := fnExactMapPointRow.holds Try.pinned (OpenSpec.ofChange fnExactMapPointWrong)

/-- 'laws.FnExactMapPanel': WHATEVER THE INPUT: true; the input reads as it did. -/
def fnExactMapPanelSpec : ChangeSpec := { name := "fnExactMapPanel", fn := fun _ => fun
  | [d1, d2] => { results := [.lit (.bool true)], args := [d1, d2] }
  | _ => none }
def fnExactMapPanelRow : OpenClaim := { program := "ytihfdgnocdphcaa", sum := "01e280ad6bffc7274844d9f53574d235249ad5a3311eece52dc2923417fd6398", func := "loop.example/g00931/laws.FnExactMapPanel", spec := "fnExactMapPanel", apart := false }
def FnExactMapPanelSaid : Prop := fnExactMapPanelRow.holds Try.pinned (OpenSpec.ofChange fnExactMapPanelSpec)

/-- ITS FALSE NEIGHBOUR: 'it returns false'. Refute it at one input. -/
def fnExactMapPanelWrong : ChangeSpec := { name := "fnExactMapPanel", fn := fun _ => fun
  | [d1, d2] => { results := [.lit (.bool false)], args := [d1, d2] }
  | _ => none }
def FnExactMapPanelWrongFalsely : Prop := fnExactMapPanelRow.holds Try.pinned (OpenSpec.ofChange fnExactMapPanelWrong)

/-- 'laws.FnExactSymmetriesOf': WHATEVER THE INPUT: true; the input reads as it did. -/
def fnExactSymmetriesOfSpec : ChangeSpec := { name := "fnExactSymmetriesOf", fn := fun _ => fun
  | [d] => { results := [.lit (.bool true)], args := [d] }
  | _ => none }
def fnExactSymmetriesOfRow : OpenClaim := { program := "ytihfdgnocdphcaa", sum := "01e280ad6bffc7274844d9f53574d235249ad5a3311eece52dc2923417fd6398", func := "loop.example/g00931/laws.FnExactSymmetriesOf", spec := "fnExactSymmetriesOf", apart := false }
def FnExactSymmetriesOfSaid : Prop := fnExactSymmetriesOfRow.holds Try.pinned (OpenSpec.ofChange fnExactSymmetriesOfSpec)

/-- ITS FALSE NEIGHBOUR: 'it returns false'. Refute it at one input. -/
def fnExactSymmetriesOfWrong : ChangeSpec := { name := "fnExactSymmetriesOf", fn := fun _ => fun
  | [d] => { results := [.lit (.bool false)], args := [d] }
  | _ => none }
def FnExactSymmetriesOfWrongFalsely : Prop := fnExactSymmetriesOfRow.holds Try.pinned (OpenSpec.ofChange fnExactSymmetriesOfWrong)

/-- 'laws.FnExactSymmetricPanel': WHATEVER THE INPUT: true; the input reads as it did. -/
def fnExactSymmetricPanelSpec : ChangeSpec := { name := "fnExactSymmetricPanel", fn := fun _ => fun
  | [d1, d2] => { results := [.lit (.bool true)], args := [d1, d2] }
  | _ => none }
def fnExactSymmetricPanelRow : OpenClaim := { program := "ytihfdgnocdphcaa", sum := "01e280ad6bffc7274844d9f53574d235249ad5a3311eece52dc2923417fd6398", func := "loop.example/g00931/laws.FnExactSymmetricPanel", spec := "fnExactSymmetricPanel", apart := false }
def FnExactSymmetricPanelSaid : Prop := fnExactSymmetricPanelRow.holds Try.pinned (OpenSpec.ofChange fnExactSymmetricPanelSpec)

/-- ITS FALSE NEIGHBOUR: 'it returns false'. Refute it at one input. -/
def fnExactSymmetricPanelWrong : ChangeSpec := { name := "fnExactSymmetricPanel", fn := fun _ => fun
  | [d1, d2] => { results := [.lit (.bool false)], args := [d1, d2] }
  | _ => none }
def FnExactSymmetricPanelWrongFalsely : Prop := fnExactSymmetricPanelRow.holds Try.pinned (OpenSpec.ofChange fnExactSymmetricPanelWrong)

/-- 'laws.FnExactAlikePanels': WHATEVER THE INPUT: true; the input reads as it did. -/
def fnExactAlikePanelsSpec : ChangeSpec := { name := "fnExactAlikePanels", fn := fun _ => fun
  | [d1, d2] => { results := [.lit (.bool true)], args := [d1, d2] }
  | _ => none }
def fnExactAlikePanelsRow : OpenClaim := { program := "ytihfdgnocdphcaa", sum := "01e280ad6bffc7274844d9f53574d235249ad5a3311eece52dc2923417fd6398", func := "loop.example/g00931/laws.FnExactAlikePanels", spec := "fnExactAlikePanels", apart := false }
def FnExactAlikePanelsSaid : Prop := fnExactAlikePanelsRow.holds Try.pinned (OpenSpec.ofChange fnExactAlikePanelsSpec)

/-- ITS FALSE NEIGHBOUR: 'it returns false'. Refute it at one input. -/
def fnExactAlikePanelsWrong : ChangeSpec := { name := "fnExactAlikePanels", fn := fun _ => fun
  | [d1, d2] => { results := [.lit (.bool false)], args := [d1, d2] }
  | _ => none }
def FnExactAlikePanelsWrongFalsely : Prop := fnExactAlikePanelsRow.holds Try.pinned (OpenSpec.ofChange fnExactAlikePanelsWrong)

/-- 'laws.FnExactCanonicalPanel': WHATEVER THE INPUT: true; the input reads as it did. -/
def fnExactCanonicalPanelSpec : ChangeSpec := { name := "fnExactCanonicalPanel", fn := fun _ => fun
  | [d] => { results := [.lit (.bool true)], args := [d] }
  | _ => none }
def fnExactCanonicalPanelRow : OpenClaim := { program := "ytihfdgnocdphcaa", sum := "01e280ad6bffc7274844d9f53574d235249ad5a3311eece52dc2923417fd6398", func := "loop.example/g00931/laws.FnExactCanonicalPanel", spec := "fnExactCanonicalPanel", apart := false }
def FnExactCanonicalPanelSaid : Prop := fnExactCanonicalPanelRow.holds Try.pinned (OpenSpec.ofChange fnExactCanonicalPanelSpec)

/-- ITS FALSE NEIGHBOUR: 'it returns false'. Refute it at one input. -/
def fnExactCanonicalPanelWrong : ChangeSpec := { name := "fnExactCanonicalPanel", fn := fun _ => fun
  | [d] => { results := [.lit (.bool false)], args := [d] }
  | _ => none }
def FnExactCanonicalPanelWrongFalsely : Prop := fnExactCanonicalPanelRow.holds Try.pinned (OpenSpec.ofChange fnExactCanonicalPanelWrong)

/-- 'laws.FnCanonicals': WHATEVER THE INPUT: true; the input reads as it did. -/
def fnCanonicalsSpec : ChangeSpec := { name := "fnCanonicals", fn := fun _ => fun
  | [d] => { results := [.lit (.bool true)], args := [d] }
  | _ => none }
def fnCanonicalsRow : OpenClaim := { program := "ytihfdgnocdphcaa", sum := "01e280ad6bffc7274844d9f53574d235249ad5a3311eece52dc2923417fd6398", func := "loop.example/g00931/laws.FnCanonicals", spec := "fnCanonicals", apart := false }
def FnCanonicalsSaid : Prop := fnCanonicalsRow.holds Try.pinned (OpenSpec.ofChange fnCanonicalsSpec)

/-- ITS FALSE NEIGHBOUR: 'it returns false'. Refute it at one input. -/
def fnCanonicalsWrong : ChangeSpec := { name := "fnCanonicals", fn := fun _ => fun
  | [d] => { results := [.lit (.bool false)], args := [d] }
  | _ => none }
def FnCanonicalsWrongFalsely : Prop := fnCanonicalsRow.holds Try.pinned (OpenSpec.ofChange fnCanonicalsWrong)

/-- 'laws.FnSymmetries': WHATEVER THE INPUT: true; the input reads as it did. -/
def fnSymmetriesSpec : ChangeSpec := { name := "fnSymmetries", fn := fun _ => fun
  | [d] => { results := [.lit (.bool true)], args := [d] }
  | _ => none }
def fnSymmetriesRow : OpenClaim := { program := "ytihfdgnocdphcaa", sum := "01e280ad6bffc7274844d9f53574d235249ad5a3311eece52dc2923417fd6398", func := "loop.example/g00931/laws.FnSymmetries", spec := "fnSymmetries", apart := false }
def FnSymmetriesSaid : Prop := fnSymmetriesRow.holds Try.pinned (OpenSpec.ofChange fnSymmetriesSpec)

/-- ITS FALSE NEIGHBOUR: 'it returns false'. Refute it at one input. -/
def fnSymmetriesWrong : ChangeSpec := { name := "fnSymmetries", fn := fun _ => fun
  | [d] => { results := [.lit (.bool false)], args := [d] }
  | _ => none }
def FnSymmetriesWrongFalsely : Prop := fnSymmetriesRow.holds Try.pinned (OpenSpec.ofChange fnSymmetriesWrong)

/-- 'laws.FnExactPointOrbit': WHATEVER THE INPUT: true; the input reads as it did. -/
def fnExactPointOrbitSpec : ChangeSpec := { name := "fnExactPointOrbit", fn := fun _ => fun
  | [d1, d2] => { results := [.lit (.bool true)], args := [d1, d2] }
  | _ => none }
def fnExactPointOrbitRow : OpenClaim := { program := "ytihfdgnocdphcaa", sum := "01e280ad6bffc7274844d9f53574d235249ad5a3311eece52dc2923417fd6398", func := "loop.example/g00931/laws.FnExactPointOrbit", spec := "fnExactPointOrbit", unfollowed := true, recurses := true, apart := false }
def FnExactPointOrbitSaid : Prop := fnExactPointOrbitRow.holds Try.pinned (OpenSpec.ofChange fnExactPointOrbitSpec)

/-- ITS FALSE NEIGHBOUR: 'it returns false'. Refute it at one input. -/
def fnExactPointOrbitWrong : ChangeSpec := { name := "fnExactPointOrbit", fn := fun _ => fun
  | [d1, d2] => { results := [.lit (.bool false)], args := [d1, d2] }
  | _ => none }
def FnExactPointOrbitWrongFalsely : Prop := fnExactPointOrbitRow.holds Try.pinned (OpenSpec.ofChange fnExactPointOrbitWrong)

/-- 'laws.FnOrbits': WHATEVER THE INPUT: true; the input reads as it did. -/
def fnOrbitsSpec : ChangeSpec := { name := "fnOrbits", fn := fun _ => fun
  | [d] => { results := [.lit (.bool true)], args := [d] }
  | _ => none }
def fnOrbitsRow : OpenClaim := { program := "ytihfdgnocdphcaa", sum := "01e280ad6bffc7274844d9f53574d235249ad5a3311eece52dc2923417fd6398", func := "loop.example/g00931/laws.FnOrbits", spec := "fnOrbits", unfollowed := true, recurses := true, apart := false }
def FnOrbitsSaid : Prop := fnOrbitsRow.holds Try.pinned (OpenSpec.ofChange fnOrbitsSpec)

/-- ITS FALSE NEIGHBOUR: 'it returns false'. Refute it at one input. -/
def fnOrbitsWrong : ChangeSpec := { name := "fnOrbits", fn := fun _ => fun
  | [d] => { results := [.lit (.bool false)], args := [d] }
  | _ => none }
def FnOrbitsWrongFalsely : Prop := fnOrbitsRow.holds Try.pinned (OpenSpec.ofChange fnOrbitsWrong)

/- THE SECOND FORM. 'bulk': how many values and letters a reading holds, each counted each time it is reached (what is shared counts as often as it is met; a slice's spare places count too). A statement '..UptoSaid' is the law's where the arguments, and the package variables that the reading takes, are together of bulk at most 1048576: NARROWER than '..Said'. Prove '..Said' where nothing that the law and all that it calls make is longer than what came in: it says more and counts as full. Else prove '..UptoSaid'. A law counts once. -/
mutual
def uptoBulk {H : Type} : DataW H → Nat
  | .lit (.string bytes) => bytes.length + 1
  | .lit _ => 1
  | .nil => 1
  | .ptr d => uptoBulk d + 1
  | .slice elems spare => uptoBulkAll elems + uptoBulkAll spare + 1
  | .agg parts => uptoBulkAll parts + 1
  | .iface _ d => uptoBulk d + 1
  | .map entries => uptoBulkEntries entries + 1
  | .held _ => 1
def uptoBulkAll {H : Type} : List (DataW H) → Nat
  | [] => 0
  | d :: r => uptoBulk d + uptoBulkAll r
def uptoBulkEntries {H : Type} : List (Lit × DataW H) → Nat
  | [] => 0
  | x :: r => uptoBulkEntry x + uptoBulkEntries r
def uptoBulkEntry {H : Type} : Lit × DataW H → Nat
  | (.string bytes, d) => bytes.length + uptoBulk d + 1
  | (_, d) => uptoBulk d + 1
 end
def uptoSmall : (H : Type) → List (DataW H) → Bool := fun _ ds => decide (uptoBulkAll ds ≤ 1048576)
def OpenSpec.upto (s : _root_.Go.ChangeSpec) : _root_.Go.OpenSpec := { _root_.Go.OpenSpec.ofChange s with cond := some uptoSmall }

/-- 'laws.FnExactComposeSyms', WHERE WHAT IT READS IS OF BULK AT MOST 1048576: true; the input reads as it did. -/
def fnExactComposeSymsUptoRow : OpenClaim := { program := "ytihfdgnocdphcaa", sum := "01e280ad6bffc7274844d9f53574d235249ad5a3311eece52dc2923417fd6398", func := "loop.example/g00931/laws.FnExactComposeSyms", spec := "fnExactComposeSyms", apart := false, narrowed := true }
def FnExactComposeSymsUptoSaid : Prop := fnExactComposeSymsUptoRow.holds Try.pinned (OpenSpec.upto fnExactComposeSymsSpec)

/-- 'laws.FnExactComparePanels', WHERE WHAT IT READS IS OF BULK AT MOST 1048576: true; the input reads as it did. -/
def fnExactComparePanelsUptoRow : OpenClaim := { program := "ytihfdgnocdphcaa", sum := "01e280ad6bffc7274844d9f53574d235249ad5a3311eece52dc2923417fd6398", func := "loop.example/g00931/laws.FnExactComparePanels", spec := "fnExactComparePanels", apart := false, narrowed := true }
def FnExactComparePanelsUptoSaid : Prop := fnExactComparePanelsUptoRow.holds Try.pinned (OpenSpec.upto fnExactComparePanelsSpec)

/-- 'laws.FnExactMapPoint', WHERE WHAT IT READS IS OF BULK AT MOST 1048576: true; the input reads as it did. -/
def fnExactMapPointUptoRow : OpenClaim := { program := "ytihfdgnocdphcaa", sum := "01e280ad6bffc7274844d9f53574d235249ad5a3311eece52dc2923417fd6398", func := "loop.example/g00931/laws.FnExactMapPoint", spec := "fnExactMapPoint", apart := false, narrowed := true }
def FnExactMapPointUptoSaid : Prop := fnExactMapPointUptoRow.holds Try.pinned (OpenSpec.upto fnExactMapPointSpec)

/-- 'laws.FnExactMapPanel', WHERE WHAT IT READS IS OF BULK AT MOST 1048576: true; the input reads as it did. -/
def fnExactMapPanelUptoRow : OpenClaim := { program := "ytihfdgnocdphcaa", sum := "01e280ad6bffc7274844d9f53574d235249ad5a3311eece52dc2923417fd6398", func := "loop.example/g00931/laws.FnExactMapPanel", spec := "fnExactMapPanel", apart := false, narrowed := true }
def FnExactMapPanelUptoSaid : Prop := fnExactMapPanelUptoRow.holds Try.pinned (OpenSpec.upto fnExactMapPanelSpec)

/-- 'laws.FnExactSymmetriesOf', WHERE WHAT IT READS IS OF BULK AT MOST 1048576: true; the input reads as it did. -/
def fnExactSymmetriesOfUptoRow : OpenClaim := { program := "ytihfdgnocdphcaa", sum := "01e280ad6bffc7274844d9f53574d235249ad5a3311eece52dc2923417fd6398", func := "loop.example/g00931/laws.FnExactSymmetriesOf", spec := "fnExactSymmetriesOf", apart := false, narrowed := true }
def FnExactSymmetriesOfUptoSaid : Prop := fnExactSymmetriesOfUptoRow.holds Try.pinned (OpenSpec.upto fnExactSymmetriesOfSpec)

/-- 'laws.FnExactSymmetricPanel', WHERE WHAT IT READS IS OF BULK AT MOST 1048576: true; the input reads as it did. -/
def fnExactSymmetricPanelUptoRow : OpenClaim := { program := "ytihfdgnocdphcaa", sum := "01e280ad6bffc7274844d9f53574d235249ad5a3311eece52dc2923417fd6398", func := "loop.example/g00931/laws.FnExactSymmetricPanel", spec := "fnExactSymmetricPanel", apart := false, narrowed := true }
def FnExactSymmetricPanelUptoSaid : Prop := fnExactSymmetricPanelUptoRow.holds Try.pinned (OpenSpec.upto fnExactSymmetricPanelSpec)

/-- 'laws.FnExactAlikePanels', WHERE WHAT IT READS IS OF BULK AT MOST 1048576: true; the input reads as it did. -/
def fnExactAlikePanelsUptoRow : OpenClaim := { program := "ytihfdgnocdphcaa", sum := "01e280ad6bffc7274844d9f53574d235249ad5a3311eece52dc2923417fd6398", func := "loop.example/g00931/laws.FnExactAlikePanels", spec := "fnExactAlikePanels", apart := false, narrowed := true }
def FnExactAlikePanelsUptoSaid : Prop := fnExactAlikePanelsUptoRow.holds Try.pinned (OpenSpec.upto fnExactAlikePanelsSpec)

/-- 'laws.FnExactCanonicalPanel', WHERE WHAT IT READS IS OF BULK AT MOST 1048576: true; the input reads as it did. -/
def fnExactCanonicalPanelUptoRow : OpenClaim := { program := "ytihfdgnocdphcaa", sum := "01e280ad6bffc7274844d9f53574d235249ad5a3311eece52dc2923417fd6398", func := "loop.example/g00931/laws.FnExactCanonicalPanel", spec := "fnExactCanonicalPanel", apart := false, narrowed := true }
def FnExactCanonicalPanelUptoSaid : Prop := fnExactCanonicalPanelUptoRow.holds Try.pinned (OpenSpec.upto fnExactCanonicalPanelSpec)

/-- 'laws.FnCanonicals', WHERE WHAT IT READS IS OF BULK AT MOST 1048576: true; the input reads as it did. -/
def fnCanonicalsUptoRow : OpenClaim := { program := "ytihfdgnocdphcaa", sum := "01e280ad6bffc7274844d9f53574d235249ad5a3311eece52dc2923417fd6398", func := "loop.example/g00931/laws.FnCanonicals", spec := "fnCanonicals", apart := false, narrowed := true }
def FnCanonicalsUptoSaid : Prop := fnCanonicalsUptoRow.holds Try.pinned (OpenSpec.upto fnCanonicalsSpec)

/-- 'laws.FnSymmetries', WHERE WHAT IT READS IS OF BULK AT MOST 1048576: true; the input reads as it did. -/
def fnSymmetriesUptoRow : OpenClaim := { program := "ytihfdgnocdphcaa", sum := "01e280ad6bffc7274844d9f53574d235249ad5a3311eece52dc2923417fd6398", func := "loop.example/g00931/laws.FnSymmetries", spec := "fnSymmetries", apart := false, narrowed := true }
def FnSymmetriesUptoSaid : Prop := fnSymmetriesUptoRow.holds Try.pinned (OpenSpec.upto fnSymmetriesSpec)

/-- 'laws.FnExactPointOrbit', WHERE WHAT IT READS IS OF BULK AT MOST 1048576: true; the input reads as it did. -/
def fnExactPointOrbitUptoRow : OpenClaim := { program := "ytihfdgnocdphcaa", sum := "01e280ad6bffc7274844d9f53574d235249ad5a3311eece52dc2923417fd6398", func := "loop.example/g00931/laws.FnExactPointOrbit", spec := "fnExactPointOrbit", unfollowed := true, recurses := true, apart := false, narrowed := true }
def FnExactPointOrbitUptoSaid : Prop := fnExactPointOrbitUptoRow.holds Try.pinned (OpenSpec.upto fnExactPointOrbitSpec)

/-- 'laws.FnOrbits', WHERE WHAT IT READS IS OF BULK AT MOST 1048576: true; the input reads as it did. -/
def fnOrbitsUptoRow : OpenClaim := { program := "ytihfdgnocdphcaa", sum := "01e280ad6bffc7274844d9f53574d235249ad5a3311eece52dc2923417fd6398", func := "loop.example/g00931/laws.FnOrbits", spec := "fnOrbits", unfollowed := true, recurses := true, apart := false, narrowed := true }
def FnOrbitsUptoSaid : Prop := fnOrbitsUptoRow.holds Try.pinned (OpenSpec.upto fnOrbitsSpec)

end Rows
end Go.Proofs.Ytihfdgnocdphcaa
