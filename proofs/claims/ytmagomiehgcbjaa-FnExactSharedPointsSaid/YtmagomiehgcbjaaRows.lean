/-
  No cell of these rows narrows 'for every input' (looked for: loops, veiled, ifaces, maps, wideKeys, modest, calm, conditions, laid).
  DERIVED. THE GIVEN ROWS OF THIS SEAT. 7 by the template 'for every input the law returns true; each argument reads behind the call as it read before'; 0 by the template 'total and deterministic' (their statements: YtmagomiehgcbjaaTotals.lean).
  GIVEN WITH THE SEED: the statements are not yours to turn. If you find one false, say at which input.
  Laid BY PROGRAM, IN A SANDBOX (cutbox-rows.mjs): the forced cells as the released guide's own fill.sh prints them over the translation f98345e534b4254a… (all of the seat's roots in one cut). By AI agents, Wed Nov 11 2026. No macro, syntax, notation, axiom, sorry.
-/
import Derived.Test.YtmagomiehgcbjaaChecked
import GoSem.Claim
import GoSem.ClaimJoined
import GoSem.ClaimMapViews
import Derived.JoinedTies
import Derived.KernelRfl
namespace Go.Proofs.Ytmagomiehgcbjaa
/- THE CELL 'sum', in the pinned program and in every row, IS THE sha256 OF THE DUMP (.gsa) THAT YtmagomiehgcbjaaProg.lean LOADS. Nothing in Lean hashes anything: it is a label: what it is worth is what the hold of that sum in a sandbox is worth. -/
noncomputable def Try.pinned : Pinned := { name := "ytmagomiehgcbjaa", sum := "f98345e534b4254a109463e7746b711c3b25468e72050f6964c38614243e27bf", checked := Try.checked }
namespace Rows
def none {H : Type} : Left H := { results := [], args := [] }

/-- 'laws.FnExactDistanceOf': WHATEVER THE INPUT: true; the input reads as it did. -/
def fnExactDistanceOfSpec : ChangeSpec := { name := "fnExactDistanceOf", fn := fun _ => fun
  | [d1, d2] => { results := [.lit (.bool true)], args := [d1, d2] }
  | _ => none }
def fnExactDistanceOfRow : OpenClaim := { program := "ytmagomiehgcbjaa", sum := "f98345e534b4254a109463e7746b711c3b25468e72050f6964c38614243e27bf", func := "loop.example/g00931/laws.FnExactDistanceOf", spec := "fnExactDistanceOf", apart := false }
def FnExactDistanceOfSaid : Prop := fnExactDistanceOfRow.holds Try.pinned (OpenSpec.ofChange fnExactDistanceOfSpec)

/-- ITS FALSE NEIGHBOUR: 'it returns false'. Refute it at one input. -/
def fnExactDistanceOfWrong : ChangeSpec := { name := "fnExactDistanceOf", fn := fun _ => fun
  | [d1, d2] => { results := [.lit (.bool false)], args := [d1, d2] }
  | _ => none }
def FnExactDistanceOfWrongFalsely : Prop := fnExactDistanceOfRow.holds Try.pinned (OpenSpec.ofChange fnExactDistanceOfWrong)

/-- 'laws.FnExactEffectOf': WHATEVER THE INPUT: true; the input reads as it did. -/
def fnExactEffectOfSpec : ChangeSpec := { name := "fnExactEffectOf", fn := fun _ => fun
  | [d1, d2, d3] => { results := [.lit (.bool true)], args := [d1, d2, d3] }
  | _ => none }
def fnExactEffectOfRow : OpenClaim := { program := "ytmagomiehgcbjaa", sum := "f98345e534b4254a109463e7746b711c3b25468e72050f6964c38614243e27bf", func := "loop.example/g00931/laws.FnExactEffectOf", spec := "fnExactEffectOf", apart := false }
def FnExactEffectOfSaid : Prop := fnExactEffectOfRow.holds Try.pinned (OpenSpec.ofChange fnExactEffectOfSpec)

/-- ITS FALSE NEIGHBOUR: 'it returns false'. Refute it at one input. -/
def fnExactEffectOfWrong : ChangeSpec := { name := "fnExactEffectOf", fn := fun _ => fun
  | [d1, d2, d3] => { results := [.lit (.bool false)], args := [d1, d2, d3] }
  | _ => none }
def FnExactEffectOfWrongFalsely : Prop := fnExactEffectOfRow.holds Try.pinned (OpenSpec.ofChange fnExactEffectOfWrong)

/-- 'laws.FnExactDividingPoints': WHATEVER THE INPUT: true; the input reads as it did. -/
def fnExactDividingPointsSpec : ChangeSpec := { name := "fnExactDividingPoints", fn := fun _ => fun
  | [d] => { results := [.lit (.bool true)], args := [d] }
  | _ => none }
def fnExactDividingPointsRow : OpenClaim := { program := "ytmagomiehgcbjaa", sum := "f98345e534b4254a109463e7746b711c3b25468e72050f6964c38614243e27bf", func := "loop.example/g00931/laws.FnExactDividingPoints", spec := "fnExactDividingPoints", unfollowed := true, recurses := true, apart := false }
def FnExactDividingPointsSaid : Prop := fnExactDividingPointsRow.holds Try.pinned (OpenSpec.ofChange fnExactDividingPointsSpec)

/-- ITS FALSE NEIGHBOUR: 'it returns false'. Refute it at one input. -/
def fnExactDividingPointsWrong : ChangeSpec := { name := "fnExactDividingPoints", fn := fun _ => fun
  | [d] => { results := [.lit (.bool false)], args := [d] }
  | _ => none }
def FnExactDividingPointsWrongFalsely : Prop := fnExactDividingPointsRow.holds Try.pinned (OpenSpec.ofChange fnExactDividingPointsWrong)

/-- 'laws.FnExactJoiningPoints': WHATEVER THE INPUT: true; the input reads as it did. -/
def fnExactJoiningPointsSpec : ChangeSpec := { name := "fnExactJoiningPoints", fn := fun _ => fun
  | [d] => { results := [.lit (.bool true)], args := [d] }
  | _ => none }
def fnExactJoiningPointsRow : OpenClaim := { program := "ytmagomiehgcbjaa", sum := "f98345e534b4254a109463e7746b711c3b25468e72050f6964c38614243e27bf", func := "loop.example/g00931/laws.FnExactJoiningPoints", spec := "fnExactJoiningPoints", unfollowed := true, recurses := true, apart := false }
def FnExactJoiningPointsSaid : Prop := fnExactJoiningPointsRow.holds Try.pinned (OpenSpec.ofChange fnExactJoiningPointsSpec)

/-- ITS FALSE NEIGHBOUR: 'it returns false'. Refute it at one input. -/
def fnExactJoiningPointsWrong : ChangeSpec := { name := "fnExactJoiningPoints", fn := fun _ => fun
  | [d] => { results := [.lit (.bool false)], args := [d] }
  | _ => none }
def FnExactJoiningPointsWrongFalsely : Prop := fnExactJoiningPointsRow.holds Try.pinned (OpenSpec.ofChange fnExactJoiningPointsWrong)

/-- 'laws.FnExactEffectsAt': WHATEVER THE INPUT: true; the input reads as it did. -/
def fnExactEffectsAtSpec : ChangeSpec := { name := "fnExactEffectsAt", fn := fun _ => fun
  | [d1, d2] => { results := [.lit (.bool true)], args := [d1, d2] }
  | _ => none }
def fnExactEffectsAtRow : OpenClaim := { program := "ytmagomiehgcbjaa", sum := "f98345e534b4254a109463e7746b711c3b25468e72050f6964c38614243e27bf", func := "loop.example/g00931/laws.FnExactEffectsAt", spec := "fnExactEffectsAt", apart := false }
def FnExactEffectsAtSaid : Prop := fnExactEffectsAtRow.holds Try.pinned (OpenSpec.ofChange fnExactEffectsAtSpec)

/-- ITS FALSE NEIGHBOUR: 'it returns false'. Refute it at one input. -/
def fnExactEffectsAtWrong : ChangeSpec := { name := "fnExactEffectsAt", fn := fun _ => fun
  | [d1, d2] => { results := [.lit (.bool false)], args := [d1, d2] }
  | _ => none }
def FnExactEffectsAtWrongFalsely : Prop := fnExactEffectsAtRow.holds Try.pinned (OpenSpec.ofChange fnExactEffectsAtWrong)

/-- 'laws.FnExactCurvePoints': WHATEVER THE INPUT: true; the input reads as it did. -/
def fnExactCurvePointsSpec : ChangeSpec := { name := "fnExactCurvePoints", fn := fun _ => fun
  | [d1, d2] => { results := [.lit (.bool true)], args := [d1, d2] }
  | _ => none }
def fnExactCurvePointsRow : OpenClaim := { program := "ytmagomiehgcbjaa", sum := "f98345e534b4254a109463e7746b711c3b25468e72050f6964c38614243e27bf", func := "loop.example/g00931/laws.FnExactCurvePoints", spec := "fnExactCurvePoints", apart := false }
def FnExactCurvePointsSaid : Prop := fnExactCurvePointsRow.holds Try.pinned (OpenSpec.ofChange fnExactCurvePointsSpec)

/-- ITS FALSE NEIGHBOUR: 'it returns false'. Refute it at one input. -/
def fnExactCurvePointsWrong : ChangeSpec := { name := "fnExactCurvePoints", fn := fun _ => fun
  | [d1, d2] => { results := [.lit (.bool false)], args := [d1, d2] }
  | _ => none }
def FnExactCurvePointsWrongFalsely : Prop := fnExactCurvePointsRow.holds Try.pinned (OpenSpec.ofChange fnExactCurvePointsWrong)

/-- 'laws.FnExactSharedPoints': WHATEVER THE INPUT: true; the input reads as it did. -/
def fnExactSharedPointsSpec : ChangeSpec := { name := "fnExactSharedPoints", fn := fun _ => fun
  | [d1, d2, d3] => { results := [.lit (.bool true)], args := [d1, d2, d3] }
  | _ => none }
def fnExactSharedPointsRow : OpenClaim := { program := "ytmagomiehgcbjaa", sum := "f98345e534b4254a109463e7746b711c3b25468e72050f6964c38614243e27bf", func := "loop.example/g00931/laws.FnExactSharedPoints", spec := "fnExactSharedPoints", apart := false }
def FnExactSharedPointsSaid : Prop := fnExactSharedPointsRow.holds Try.pinned (OpenSpec.ofChange fnExactSharedPointsSpec)

/-- ITS FALSE NEIGHBOUR: 'it returns false'. Refute it at one input. -/
def fnExactSharedPointsWrong : ChangeSpec := { name := "fnExactSharedPoints", fn := fun _ => fun
  | [d1, d2, d3] => { results := [.lit (.bool false)], args := [d1, d2, d3] }
  | _ => none }
def FnExactSharedPointsWrongFalsely : Prop := fnExactSharedPointsRow.holds Try.pinned (OpenSpec.ofChange fnExactSharedPointsWrong)

/- THE SECOND FORM. 'bulk': how many values and letters a reading holds, each counted each time it is reached (what is shared counts as often as it is met; a slice's spare places count too). A statement '..UptoSaid' is the law's where the arguments, and the package variables that the reading takes, are together of bulk at most 1048576: NARROWER than '..Said'. Prove '..Said' where nothing that the law and all that it calls make is longer than what came in: it says more and counts as full. Else prove '..UptoSaid'. A law counts once. -/
mutual
def uptoBulk {H : Type} : DataW H → Nat
  | .lit (.string bytes) => bytes.length + 1
  | .lit _ => 1
  | .nil => 1
  | .ptr d => uptoBulk d + 1
  | .slice elems spare => uptoBulkAll elems + uptoBulkAll spare + 1
  | .agg parts => uptoBulkAll parts + 1
  | .iface _ d => uptoBulk d + 1
  | .map entries => uptoBulkEntries entries + 1
  | .held _ => 1
def uptoBulkAll {H : Type} : List (DataW H) → Nat
  | [] => 0
  | d :: r => uptoBulk d + uptoBulkAll r
def uptoBulkEntries {H : Type} : List (Lit × DataW H) → Nat
  | [] => 0
  | x :: r => uptoBulkEntry x + uptoBulkEntries r
def uptoBulkEntry {H : Type} : Lit × DataW H → Nat
  | (.string bytes, d) => bytes.length + uptoBulk d + 1
  | (_, d) => uptoBulk d + 1
 end
def uptoSmall : (H : Type) → List (DataW H) → Bool := fun _ ds => decide (uptoBulkAll ds ≤ 1048576)
def OpenSpec.upto (s : _root_.Go.ChangeSpec) : _root_.Go.OpenSpec := { _root_.Go.OpenSpec.ofChange s with cond := some uptoSmall }

/-- 'laws.FnExactDistanceOf', WHERE WHAT IT READS IS OF BULK AT MOST 1048576: true; the input reads as it did. -/
def fnExactDistanceOfUptoRow : OpenClaim := { program := "ytmagomiehgcbjaa", sum := "f98345e534b4254a109463e7746b711c3b25468e72050f6964c38614243e27bf", func := "loop.example/g00931/laws.FnExactDistanceOf", spec := "fnExactDistanceOf", apart := false, narrowed := true }
def FnExactDistanceOfUptoSaid : Prop := fnExactDistanceOfUptoRow.holds Try.pinned (OpenSpec.upto fnExactDistanceOfSpec)

/-- 'laws.FnExactEffectOf', WHERE WHAT IT READS IS OF BULK AT MOST 1048576: true; the input reads as it did. -/
def fnExactEffectOfUptoRow : OpenClaim := { program := "ytmagomiehgcbjaa", sum := "f98345e534b4254a109463e7746b711c3b25468e72050f6964c38614243e27bf", func := "loop.example/g00931/laws.FnExactEffectOf", spec := "fnExactEffectOf", apart := false, narrowed := true }
def FnExactEffectOfUptoSaid : Prop := fnExactEffectOfUptoRow.holds Try.pinned (OpenSpec.upto fnExactEffectOfSpec)

/-- 'laws.FnExactDividingPoints', WHERE WHAT IT READS IS OF BULK AT MOST 1048576: true; the input reads as it did. -/
def fnExactDividingPointsUptoRow : OpenClaim := { program := "ytmagomiehgcbjaa", sum := "f98345e534b4254a109463e7746b711c3b25468e72050f6964c38614243e27bf", func := "loop.example/g00931/laws.FnExactDividingPoints", spec := "fnExactDividingPoints", unfollowed := true, recurses := true, apart := false, narrowed := true }
def FnExactDividingPointsUptoSaid : Prop := fnExactDividingPointsUptoRow.holds Try.pinned (OpenSpec.upto fnExactDividingPointsSpec)

/-- 'laws.FnExactJoiningPoints', WHERE WHAT IT READS IS OF BULK AT MOST 1048576: true; the input reads as it did. -/
def fnExactJoiningPointsUptoRow : OpenClaim := { program := "ytmagomiehgcbjaa", sum := "f98345e534b4254a109463e7746b711c3b25468e72050f6964c38614243e27bf", func := "loop.example/g00931/laws.FnExactJoiningPoints", spec := "fnExactJoiningPoints", unfollowed := true, recurses := true, apart := false, narrowed := true }
def FnExactJoiningPointsUptoSaid : Prop := fnExactJoiningPointsUptoRow.holds Try.pinned (OpenSpec.upto fnExactJoiningPointsSpec)

/-- 'laws.FnExactEffectsAt', WHERE WHAT IT READS IS OF BULK AT MOST 1048576: true; the input reads as it did. -/
def fnExactEffectsAtUptoRow : OpenClaim := { program := "ytmagomiehgcbjaa", sum := "f98345e534b4254a109463e7746b711c3b25468e72050f6964c38614243e27bf", func := "loop.example/g00931/laws.FnExactEffectsAt", spec := "fnExactEffectsAt", apart := false, narrowed := true }
def FnExactEffectsAtUptoSaid : Prop := fnExactEffectsAtUptoRow.holds Try.pinned (OpenSpec.upto fnExactEffectsAtSpec)

/-- 'laws.FnExactCurvePoints', WHERE WHAT IT READS IS OF BULK AT MOST 1048576: true; the input reads as it did. -/
def fnExactCurvePointsUptoRow : OpenClaim := { program := "ytmagomiehgcbjaa", sum := "f98345e534b4254a109463e7746b711c3b25468e72050f6964c38614243e27bf", func := "loop.example/g00931/laws.FnExactCurvePoints", spec := "fnExactCurvePoints", apart := false, narrowed := true }
def FnExactCurvePointsUptoSaid : Prop := fnExactCurvePointsUptoRow.holds Try.pinned (OpenSpec.upto fnExactCurvePointsSpec)

/-- 'laws.FnExactSharedPoints', WHERE WHAT IT READS IS OF BULK AT MOST 1048576: true; the input reads as it did. -/
def fnExactSharedPointsUptoRow : OpenClaim := { program := "ytmagomiehgcbjaa", sum := "f98345e534b4254a109463e7746b711c3b25468e72050f6964c38614243e27bf", func := "loop.example/g00931/laws.FnExactSharedPoints", spec := "fnExactSharedPoints", apart := false, narrowed := true }
def FnExactSharedPointsUptoSaid : Prop := fnExactSharedPointsUptoRow.holds Try.pinned (OpenSpec.upto fnExactSharedPointsSpec)

end Rows
end Go.Proofs.Ytmagomiehgcbjaa
