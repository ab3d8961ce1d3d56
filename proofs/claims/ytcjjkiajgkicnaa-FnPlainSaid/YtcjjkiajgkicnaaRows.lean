/-
  No cell of these rows narrows 'for every input' (looked for: loops, veiled, ifaces, maps, wideKeys, modest, calm, conditions, laid).
  DERIVED. THE GIVEN ROWS OF THIS SEAT. 12 by the template 'for every input the law returns true; each argument reads behind the call as it read before'; 0 by the template 'total and deterministic' (their statements: YtcjjkiajgkicnaaTotals.lean).
  GIVEN WITH THE SEED: the statements are not yours to turn. If you find one false, say at which input.
  Laid BY PROGRAM, IN A SANDBOX (cutbox-rows.mjs): the forced cells as the released guide's own fill.sh prints them over the translation f85cce7ffbe6a1b7… (all of the seat's roots in one cut). By AI agents, Wed Nov 11 2026. No macro, syntax, notation, axiom, sorry.
-/
import Derived.Test.YtcjjkiajgkicnaaChecked
import GoSem.Claim
import GoSem.ClaimJoined
import GoSem.ClaimMapViews
import Derived.JoinedTies
import Derived.KernelRfl
namespace Go.Proofs.Ytcjjkiajgkicnaa
/- THE CELL 'sum', in the pinned program and in every row, IS THE sha256 OF THE DUMP (.gsa) THAT YtcjjkiajgkicnaaProg.lean LOADS. Nothing in Lean hashes anything: it is a label: what it is worth is what the hold of that sum in a sandbox is worth. -/
noncomputable def Try.pinned : Pinned := { name := "ytcjjkiajgkicnaa", sum := "f85cce7ffbe6a1b7ea431f86f7cfc56c27014d8c2058e1640495dd3d0110778f", checked := Try.checked }
namespace Rows
def none {H : Type} : Left H := { results := [], args := [] }

/-- 'laws.FnExactGreatestDivisor': WHATEVER THE INPUT: true; the input reads as it did. -/
def fnExactGreatestDivisorSpec : ChangeSpec := { name := "fnExactGreatestDivisor", fn := fun _ => fun
  | [d1, d2] => { results := [.lit (.bool true)], args := [d1, d2] }
  | _ => none }
def fnExactGreatestDivisorRow : OpenClaim := { program := "ytcjjkiajgkicnaa", sum := "f85cce7ffbe6a1b7ea431f86f7cfc56c27014d8c2058e1640495dd3d0110778f", func := "loop.example/g00931/laws.FnExactGreatestDivisor", spec := "fnExactGreatestDivisor", apart := false }
def FnExactGreatestDivisorSaid : Prop := fnExactGreatestDivisorRow.holds Try.pinned (OpenSpec.ofChange fnExactGreatestDivisorSpec)

/-- ITS FALSE NEIGHBOUR: 'it returns false'. Refute it at one input. -/
def fnExactGreatestDivisorWrong : ChangeSpec := { name := "fnExactGreatestDivisor", fn := fun _ => fun
  | [d1, d2] => { results := [.lit (.bool false)], args := [d1, d2] }
  | _ => none }
def FnExactGreatestDivisorWrongFalsely : Prop := fnExactGreatestDivisorRow.holds Try.pinned (OpenSpec.ofChange fnExactGreatestDivisorWrong)

/-- 'laws.FnExactLeastMultiple': WHATEVER THE INPUT: true; the input reads as it did. -/
def fnExactLeastMultipleSpec : ChangeSpec := { name := "fnExactLeastMultiple", fn := fun _ => fun
  | [d1, d2] => { results := [.lit (.bool true)], args := [d1, d2] }
  | _ => none }
def fnExactLeastMultipleRow : OpenClaim := { program := "ytcjjkiajgkicnaa", sum := "f85cce7ffbe6a1b7ea431f86f7cfc56c27014d8c2058e1640495dd3d0110778f", func := "loop.example/g00931/laws.FnExactLeastMultiple", spec := "fnExactLeastMultiple", apart := false }
def FnExactLeastMultipleSaid : Prop := fnExactLeastMultipleRow.holds Try.pinned (OpenSpec.ofChange fnExactLeastMultipleSpec)

/-- ITS FALSE NEIGHBOUR: 'it returns false'. Refute it at one input. -/
def fnExactLeastMultipleWrong : ChangeSpec := { name := "fnExactLeastMultiple", fn := fun _ => fun
  | [d1, d2] => { results := [.lit (.bool false)], args := [d1, d2] }
  | _ => none }
def FnExactLeastMultipleWrongFalsely : Prop := fnExactLeastMultipleRow.holds Try.pinned (OpenSpec.ofChange fnExactLeastMultipleWrong)

/-- 'laws.FnExactPlainCurves': WHATEVER THE INPUT: true; the input reads as it did. -/
def fnExactPlainCurvesSpec : ChangeSpec := { name := "fnExactPlainCurves", fn := fun _ => fun
  | [d1, d2] => { results := [.lit (.bool true)], args := [d1, d2] }
  | _ => none }
def fnExactPlainCurvesRow : OpenClaim := { program := "ytcjjkiajgkicnaa", sum := "f85cce7ffbe6a1b7ea431f86f7cfc56c27014d8c2058e1640495dd3d0110778f", func := "loop.example/g00931/laws.FnExactPlainCurves", spec := "fnExactPlainCurves", apart := false }
def FnExactPlainCurvesSaid : Prop := fnExactPlainCurvesRow.holds Try.pinned (OpenSpec.ofChange fnExactPlainCurvesSpec)

/-- ITS FALSE NEIGHBOUR: 'it returns false'. Refute it at one input. -/
def fnExactPlainCurvesWrong : ChangeSpec := { name := "fnExactPlainCurves", fn := fun _ => fun
  | [d1, d2] => { results := [.lit (.bool false)], args := [d1, d2] }
  | _ => none }
def FnExactPlainCurvesWrongFalsely : Prop := fnExactPlainCurvesRow.holds Try.pinned (OpenSpec.ofChange fnExactPlainCurvesWrong)

/-- 'laws.FnExactPlainTouches': WHATEVER THE INPUT: true; the input reads as it did. -/
def fnExactPlainTouchesSpec : ChangeSpec := { name := "fnExactPlainTouches", fn := fun _ => fun
  | [d1, d2] => { results := [.lit (.bool true)], args := [d1, d2] }
  | _ => none }
def fnExactPlainTouchesRow : OpenClaim := { program := "ytcjjkiajgkicnaa", sum := "f85cce7ffbe6a1b7ea431f86f7cfc56c27014d8c2058e1640495dd3d0110778f", func := "loop.example/g00931/laws.FnExactPlainTouches", spec := "fnExactPlainTouches", apart := false }
def FnExactPlainTouchesSaid : Prop := fnExactPlainTouchesRow.holds Try.pinned (OpenSpec.ofChange fnExactPlainTouchesSpec)

/-- ITS FALSE NEIGHBOUR: 'it returns false'. Refute it at one input. -/
def fnExactPlainTouchesWrong : ChangeSpec := { name := "fnExactPlainTouches", fn := fun _ => fun
  | [d1, d2] => { results := [.lit (.bool false)], args := [d1, d2] }
  | _ => none }
def FnExactPlainTouchesWrongFalsely : Prop := fnExactPlainTouchesRow.holds Try.pinned (OpenSpec.ofChange fnExactPlainTouchesWrong)

/-- 'laws.FnExactPlainLength': WHATEVER THE INPUT: true; the input reads as it did. -/
def fnExactPlainLengthSpec : ChangeSpec := { name := "fnExactPlainLength", fn := fun _ => fun
  | [d1, d2] => { results := [.lit (.bool true)], args := [d1, d2] }
  | _ => none }
def fnExactPlainLengthRow : OpenClaim := { program := "ytcjjkiajgkicnaa", sum := "f85cce7ffbe6a1b7ea431f86f7cfc56c27014d8c2058e1640495dd3d0110778f", func := "loop.example/g00931/laws.FnExactPlainLength", spec := "fnExactPlainLength", apart := false }
def FnExactPlainLengthSaid : Prop := fnExactPlainLengthRow.holds Try.pinned (OpenSpec.ofChange fnExactPlainLengthSpec)

/-- ITS FALSE NEIGHBOUR: 'it returns false'. Refute it at one input. -/
def fnExactPlainLengthWrong : ChangeSpec := { name := "fnExactPlainLength", fn := fun _ => fun
  | [d1, d2] => { results := [.lit (.bool false)], args := [d1, d2] }
  | _ => none }
def FnExactPlainLengthWrongFalsely : Prop := fnExactPlainLengthRow.holds Try.pinned (OpenSpec.ofChange fnExactPlainLengthWrong)

/-- 'laws.FnExactSingleSizes': WHATEVER THE INPUT: true; the input reads as it did. -/
def fnExactSingleSizesSpec : ChangeSpec := { name := "fnExactSingleSizes", fn := fun _ => fun
  | [d] => { results := [.lit (.bool true)], args := [d] }
  | _ => none }
def fnExactSingleSizesRow : OpenClaim := { program := "ytcjjkiajgkicnaa", sum := "f85cce7ffbe6a1b7ea431f86f7cfc56c27014d8c2058e1640495dd3d0110778f", func := "loop.example/g00931/laws.FnExactSingleSizes", spec := "fnExactSingleSizes", apart := false }
def FnExactSingleSizesSaid : Prop := fnExactSingleSizesRow.holds Try.pinned (OpenSpec.ofChange fnExactSingleSizesSpec)

/-- ITS FALSE NEIGHBOUR: 'it returns false'. Refute it at one input. -/
def fnExactSingleSizesWrong : ChangeSpec := { name := "fnExactSingleSizes", fn := fun _ => fun
  | [d] => { results := [.lit (.bool false)], args := [d] }
  | _ => none }
def FnExactSingleSizesWrongFalsely : Prop := fnExactSingleSizesRow.holds Try.pinned (OpenSpec.ofChange fnExactSingleSizesWrong)

/-- 'laws.FnExactPlainReturn': WHATEVER THE INPUT: true; the input reads as it did. -/
def fnExactPlainReturnSpec : ChangeSpec := { name := "fnExactPlainReturn", fn := fun _ => fun
  | [d1, d2, d3] => { results := [.lit (.bool true)], args := [d1, d2, d3] }
  | _ => none }
def fnExactPlainReturnRow : OpenClaim := { program := "ytcjjkiajgkicnaa", sum := "f85cce7ffbe6a1b7ea431f86f7cfc56c27014d8c2058e1640495dd3d0110778f", func := "loop.example/g00931/laws.FnExactPlainReturn", spec := "fnExactPlainReturn", apart := false }
def FnExactPlainReturnSaid : Prop := fnExactPlainReturnRow.holds Try.pinned (OpenSpec.ofChange fnExactPlainReturnSpec)

/-- ITS FALSE NEIGHBOUR: 'it returns false'. Refute it at one input. -/
def fnExactPlainReturnWrong : ChangeSpec := { name := "fnExactPlainReturn", fn := fun _ => fun
  | [d1, d2, d3] => { results := [.lit (.bool false)], args := [d1, d2, d3] }
  | _ => none }
def FnExactPlainReturnWrongFalsely : Prop := fnExactPlainReturnRow.holds Try.pinned (OpenSpec.ofChange fnExactPlainReturnWrong)

/-- 'laws.FnExactStripCurves': WHATEVER THE INPUT: true; the input reads as it did. -/
def fnExactStripCurvesSpec : ChangeSpec := { name := "fnExactStripCurves", fn := fun _ => fun
  | [d] => { results := [.lit (.bool true)], args := [d] }
  | _ => none }
def fnExactStripCurvesRow : OpenClaim := { program := "ytcjjkiajgkicnaa", sum := "f85cce7ffbe6a1b7ea431f86f7cfc56c27014d8c2058e1640495dd3d0110778f", func := "loop.example/g00931/laws.FnExactStripCurves", spec := "fnExactStripCurves", apart := false }
def FnExactStripCurvesSaid : Prop := fnExactStripCurvesRow.holds Try.pinned (OpenSpec.ofChange fnExactStripCurvesSpec)

/-- ITS FALSE NEIGHBOUR: 'it returns false'. Refute it at one input. -/
def fnExactStripCurvesWrong : ChangeSpec := { name := "fnExactStripCurves", fn := fun _ => fun
  | [d] => { results := [.lit (.bool false)], args := [d] }
  | _ => none }
def FnExactStripCurvesWrongFalsely : Prop := fnExactStripCurvesRow.holds Try.pinned (OpenSpec.ofChange fnExactStripCurvesWrong)

/-- 'laws.FnExactPlainWalk': WHATEVER THE INPUT: true; the input reads as it did. -/
def fnExactPlainWalkSpec : ChangeSpec := { name := "fnExactPlainWalk", fn := fun _ => fun
  | [d1, d2, d3, d4] => { results := [.lit (.bool true)], args := [d1, d2, d3, d4] }
  | _ => none }
def fnExactPlainWalkRow : OpenClaim := { program := "ytcjjkiajgkicnaa", sum := "f85cce7ffbe6a1b7ea431f86f7cfc56c27014d8c2058e1640495dd3d0110778f", func := "loop.example/g00931/laws.FnExactPlainWalk", spec := "fnExactPlainWalk", apart := false }
def FnExactPlainWalkSaid : Prop := fnExactPlainWalkRow.holds Try.pinned (OpenSpec.ofChange fnExactPlainWalkSpec)

/-- ITS FALSE NEIGHBOUR: 'it returns false'. Refute it at one input. -/
def fnExactPlainWalkWrong : ChangeSpec := { name := "fnExactPlainWalk", fn := fun _ => fun
  | [d1, d2, d3, d4] => { results := [.lit (.bool false)], args := [d1, d2, d3, d4] }
  | _ => none }
def FnExactPlainWalkWrongFalsely : Prop := fnExactPlainWalkRow.holds Try.pinned (OpenSpec.ofChange fnExactPlainWalkWrong)

/-- 'laws.FnStrips': WHATEVER THE INPUT: true; the input reads as it did. -/
def fnStripsSpec : ChangeSpec := { name := "fnStrips", fn := fun _ => fun
  | [d] => { results := [.lit (.bool true)], args := [d] }
  | _ => none }
def fnStripsRow : OpenClaim := { program := "ytcjjkiajgkicnaa", sum := "f85cce7ffbe6a1b7ea431f86f7cfc56c27014d8c2058e1640495dd3d0110778f", func := "loop.example/g00931/laws.FnStrips", spec := "fnStrips", apart := false }
def FnStripsSaid : Prop := fnStripsRow.holds Try.pinned (OpenSpec.ofChange fnStripsSpec)

/-- ITS FALSE NEIGHBOUR: 'it returns false'. Refute it at one input. -/
def fnStripsWrong : ChangeSpec := { name := "fnStrips", fn := fun _ => fun
  | [d] => { results := [.lit (.bool false)], args := [d] }
  | _ => none }
def FnStripsWrongFalsely : Prop := fnStripsRow.holds Try.pinned (OpenSpec.ofChange fnStripsWrong)

/-- 'laws.FnPlain': WHATEVER THE INPUT: true; the input reads as it did. -/
def fnPlainSpec : ChangeSpec := { name := "fnPlain", fn := fun _ => fun
  | [d] => { results := [.lit (.bool true)], args := [d] }
  | _ => none }
def fnPlainRow : OpenClaim := { program := "ytcjjkiajgkicnaa", sum := "f85cce7ffbe6a1b7ea431f86f7cfc56c27014d8c2058e1640495dd3d0110778f", func := "loop.example/g00931/laws.FnPlain", spec := "fnPlain", apart := false }
def FnPlainSaid : Prop := fnPlainRow.holds Try.pinned (OpenSpec.ofChange fnPlainSpec)

/-- ITS FALSE NEIGHBOUR: 'it returns false'. Refute it at one input. -/
def fnPlainWrong : ChangeSpec := { name := "fnPlain", fn := fun _ => fun
  | [d] => { results := [.lit (.bool false)], args := [d] }
  | _ => none }
def FnPlainWrongFalsely : Prop := fnPlainRow.holds Try.pinned (OpenSpec.ofChange fnPlainWrong)

/-- 'laws.FnPlainWalks': WHATEVER THE INPUT: true; the input reads as it did. -/
def fnPlainWalksSpec : ChangeSpec := { name := "fnPlainWalks", fn := fun _ => fun
  | [d1, d2] => { results := [.lit (.bool true)], args := [d1, d2] }
  | _ => none }
def fnPlainWalksRow : OpenClaim := { program := "ytcjjkiajgkicnaa", sum := "f85cce7ffbe6a1b7ea431f86f7cfc56c27014d8c2058e1640495dd3d0110778f", func := "loop.example/g00931/laws.FnPlainWalks", spec := "fnPlainWalks", apart := false }
def FnPlainWalksSaid : Prop := fnPlainWalksRow.holds Try.pinned (OpenSpec.ofChange fnPlainWalksSpec)

/-- ITS FALSE NEIGHBOUR: 'it returns false'. Refute it at one input. -/
def fnPlainWalksWrong : ChangeSpec := { name := "fnPlainWalks", fn := fun _ => fun
  | [d1, d2] => { results := [.lit (.bool false)], args := [d1, d2] }
  | _ => none }
def FnPlainWalksWrongFalsely : Prop := fnPlainWalksRow.holds Try.pinned (OpenSpec.ofChange fnPlainWalksWrong)

/- THE SECOND FORM. 'bulk': how many values and letters a reading holds, each counted each time it is reached (what is shared counts as often as it is met; a slice's spare places count too). A statement '..UptoSaid' is the law's where the arguments, and the package variables that the reading takes, are together of bulk at most 1048576: NARROWER than '..Said'. Prove '..Said' where nothing that the law and all that it calls make is longer than what came in: it says more and counts as full. Else prove '..UptoSaid'. A law counts once. -/
mutual
def uptoBulk {H : Type} : DataW H → Nat
  | .lit (.string bytes) => bytes.length + 1
  | .lit _ => 1
  | .nil => 1
  | .ptr d => uptoBulk d + 1
  | .slice elems spare => uptoBulkAll elems + uptoBulkAll spare + 1
  | .agg parts => uptoBulkAll parts + 1
  | .iface _ d => uptoBulk d + 1
  | .map entries => uptoBulkEntries entries + 1
  | .held _ => 1
def uptoBulkAll {H : Type} : List (DataW H) → Nat
  | [] => 0
  | d :: r => uptoBulk d + uptoBulkAll r
def uptoBulkEntries {H : Type} : List (Lit × DataW H) → Nat
  | [] => 0
  | x :: r => uptoBulkEntry x + uptoBulkEntries r
def uptoBulkEntry {H : Type} : Lit × DataW H → Nat
  | (.string bytes, d) => bytes.length + uptoBulk d + 1
  | (_, d) => uptoBulk d + 1
 end
def uptoSmall : (H : Type) → List (DataW H) → Bool := fun _ ds => decide (uptoBulkAll ds ≤ 1048576)
def OpenSpec.upto (s : _root_.Go.ChangeSpec) : _root_.Go.OpenSpec := { _root_.Go.OpenSpec.ofChange s with cond := some uptoSmall }

/-- 'laws.FnExactGreatestDivisor', WHERE WHAT IT READS IS OF BULK AT MOST 1048576: true; the input reads as it did. -/
def fnExactGreatestDivisorUptoRow : OpenClaim := { program := "ytcjjkiajgkicnaa", sum := "f85cce7ffbe6a1b7ea431f86f7cfc56c27014d8c2058e1640495dd3d0110778f", func := "loop.example/g00931/laws.FnExactGreatestDivisor", spec := "fnExactGreatestDivisor", apart := false, narrowed := true }
def FnExactGreatestDivisorUptoSaid : Prop := fnExactGreatestDivisorUptoRow.holds Try.pinned (OpenSpec.upto fnExactGreatestDivisorSpec)

/-- 'laws.FnExactLeastMultiple', WHERE WHAT IT READS IS OF BULK AT MOST 1048576: true; the input reads as it did. -/
def fnExactLeastMultipleUptoRow : OpenClaim := { program := "ytcjjkiajgkicnaa", sum := "f85cce7ffbe6a1b7ea431f86f7cfc56c27014d8c2058e1640495dd3d0110778f", func := "loop.example/g00931/laws.FnExactLeastMultiple", spec := "fnExactLeastMultiple", apart := false, narrowed := true }
def FnExactLeastMultipleUptoSaid : Prop := fnExactLeastMultipleUptoRow.holds Try.pinned (OpenSpec.upto fnExactLeastMultipleSpec)

/-- 'laws.FnExactPlainCurves', WHERE WHAT IT READS IS OF BULK AT MOST 1048576: true; the input reads as it did. -/
def fnExactPlainCurvesUptoRow : OpenClaim := { program := "ytcjjkiajgkicnaa", sum := "f85cce7ffbe6a1b7ea431f86f7cfc56c27014d8c2058e1640495dd3d0110778f", func := "loop.example/g00931/laws.FnExactPlainCurves", spec := "fnExactPlainCurves", apart := false, narrowed := true }
def FnExactPlainCurvesUptoSaid : Prop := fnExactPlainCurvesUptoRow.holds Try.pinned (OpenSpec.upto fnExactPlainCurvesSpec)

/-- 'laws.FnExactPlainTouches', WHERE WHAT IT READS IS OF BULK AT MOST 1048576: true; the input reads as it did. -/
def fnExactPlainTouchesUptoRow : OpenClaim := { program := "ytcjjkiajgkicnaa", sum := "f85cce7ffbe6a1b7ea431f86f7cfc56c27014d8c2058e1640495dd3d0110778f", func := "loop.example/g00931/laws.FnExactPlainTouches", spec := "fnExactPlainTouches", apart := false, narrowed := true }
def FnExactPlainTouchesUptoSaid : Prop := fnExactPlainTouchesUptoRow.holds Try.pinned (OpenSpec.upto fnExactPlainTouchesSpec)

/-- 'laws.FnExactPlainLength', WHERE WHAT IT READS IS OF BULK AT MOST 1048576: true; the input reads as it did. -/
def fnExactPlainLengthUptoRow : OpenClaim := { program := "ytcjjkiajgkicnaa", sum := "f85cce7ffbe6a1b7ea431f86f7cfc56c27014d8c2058e1640495dd3d0110778f", func := "loop.example/g00931/laws.FnExactPlainLength", spec := "fnExactPlainLength", apart := false, narrowed := true }
def FnExactPlainLengthUptoSaid : Prop := fnExactPlainLengthUptoRow.holds Try.pinned (OpenSpec.upto fnExactPlainLengthSpec)

/-- 'laws.FnExactSingleSizes', WHERE WHAT IT READS IS OF BULK AT MOST 1048576: true; the input reads as it did. -/
def fnExactSingleSizesUptoRow : OpenClaim := { program := "ytcjjkiajgkicnaa", sum := "f85cce7ffbe6a1b7ea431f86f7cfc56c27014d8c2058e1640495dd3d0110778f", func := "loop.example/g00931/laws.FnExactSingleSizes", spec := "fnExactSingleSizes", apart := false, narrowed := true }
def FnExactSingleSizesUptoSaid : Prop := fnExactSingleSizesUptoRow.holds Try.pinned (OpenSpec.upto fnExactSingleSizesSpec)

/-- 'laws.FnExactPlainReturn', WHERE WHAT IT READS IS OF BULK AT MOST 1048576: true; the input reads as it did. -/
def fnExactPlainReturnUptoRow : OpenClaim := { program := "ytcjjkiajgkicnaa", sum := "f85cce7ffbe6a1b7ea431f86f7cfc56c27014d8c2058e1640495dd3d0110778f", func := "loop.example/g00931/laws.FnExactPlainReturn", spec := "fnExactPlainReturn", apart := false, narrowed := true }
def FnExactPlainReturnUptoSaid : Prop := fnExactPlainReturnUptoRow.holds Try.pinned (OpenSpec.upto fnExactPlainReturnSpec)

/-- 'laws.FnExactStripCurves', WHERE WHAT IT READS IS OF BULK AT MOST 1048576: true; the input reads as it did. -/
def fnExactStripCurvesUptoRow : OpenClaim := { program := "ytcjjkiajgkicnaa", sum := "f85cce7ffbe6a1b7ea431f86f7cfc56c27014d8c2058e1640495dd3d0110778f", func := "loop.example/g00931/laws.FnExactStripCurves", spec := "fnExactStripCurves", apart := false, narrowed := true }
def FnExactStripCurvesUptoSaid : Prop := fnExactStripCurvesUptoRow.holds Try.pinned (OpenSpec.upto fnExactStripCurvesSpec)

/-- 'laws.FnExactPlainWalk', WHERE WHAT IT READS IS OF BULK AT MOST 1048576: true; the input reads as it did. -/
def fnExactPlainWalkUptoRow : OpenClaim := { program := "ytcjjkiajgkicnaa", sum := "f85cce7ffbe6a1b7ea431f86f7cfc56c27014d8c2058e1640495dd3d0110778f", func := "loop.example/g00931/laws.FnExactPlainWalk", spec := "fnExactPlainWalk", apart := false, narrowed := true }
def FnExactPlainWalkUptoSaid : Prop := fnExactPlainWalkUptoRow.holds Try.pinned (OpenSpec.upto fnExactPlainWalkSpec)

/-- 'laws.FnStrips', WHERE WHAT IT READS IS OF BULK AT MOST 1048576: true; the input reads as it did. -/
def fnStripsUptoRow : OpenClaim := { program := "ytcjjkiajgkicnaa", sum := "f85cce7ffbe6a1b7ea431f86f7cfc56c27014d8c2058e1640495dd3d0110778f", func := "loop.example/g00931/laws.FnStrips", spec := "fnStrips", apart := false, narrowed := true }
def FnStripsUptoSaid : Prop := fnStripsUptoRow.holds Try.pinned (OpenSpec.upto fnStripsSpec)

/-- 'laws.FnPlain', WHERE WHAT IT READS IS OF BULK AT MOST 1048576: true; the input reads as it did. -/
def fnPlainUptoRow : OpenClaim := { program := "ytcjjkiajgkicnaa", sum := "f85cce7ffbe6a1b7ea431f86f7cfc56c27014d8c2058e1640495dd3d0110778f", func := "loop.example/g00931/laws.FnPlain", spec := "fnPlain", apart := false, narrowed := true }
def FnPlainUptoSaid : Prop := fnPlainUptoRow.holds Try.pinned (OpenSpec.upto fnPlainSpec)

/-- 'laws.FnPlainWalks', WHERE WHAT IT READS IS OF BULK AT MOST 1048576: true; the input reads as it did. -/
def fnPlainWalksUptoRow : OpenClaim := { program := "ytcjjkiajgkicnaa", sum := "f85cce7ffbe6a1b7ea431f86f7cfc56c27014d8c2058e1640495dd3d0110778f", func := "loop.example/g00931/laws.FnPlainWalks", spec := "fnPlainWalks", apart := false, narrowed := true }
def FnPlainWalksUptoSaid : Prop := fnPlainWalksUptoRow.holds Try.pinned (OpenSpec.upto fnPlainWalksSpec)

end Rows
end Go.Proofs.Ytcjjkiajgkicnaa
