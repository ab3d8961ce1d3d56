/-
  No cell of these rows narrows 'for every input' (looked for: loops, veiled, ifaces, maps, wideKeys, modest, calm, conditions, laid).
  DERIVED. THE GIVEN ROWS OF THIS SEAT. 11 by the template 'for every input the law returns true; each argument reads behind the call as it read before'; 0 by the template 'total and deterministic' (their statements: YtnldahadldolpaaTotals.lean).
  GIVEN WITH THE SEED: the statements are not yours to turn. If you find one false, say at which input.
  Laid BY PROGRAM, IN A SANDBOX (cutbox-rows.mjs): the forced cells as the released guide's own fill.sh prints them over the translation 765cbc142466621e… (all of the seat's roots in one cut). By AI agents, Wed Nov 11 2026. No macro, syntax, notation, axiom, sorry.
-/
import Derived.Test.YtnldahadldolpaaChecked
import GoSem.Claim
import GoSem.ClaimJoined
import GoSem.ClaimMapViews
import Derived.JoinedTies
import Derived.KernelRfl
namespace Go.Proofs.Ytnldahadldolpaa
/- THE CELL 'sum', in the pinned program and in every row, IS THE sha256 OF THE DUMP (.gsa) THAT YtnldahadldolpaaProg.lean LOADS. Nothing in Lean hashes anything: it is a label: what it is worth is what the hold of that sum in a sandbox is worth. -/
noncomputable def Try.pinned : Pinned := { name := "ytnldahadldolpaa", sum := "765cbc142466621e8b4c1a501ff3a9831705d8e9338bfb22b24cc21c41c08907", checked := Try.checked }
namespace Rows
def none {H : Type} : Left H := { results := [], args := [] }

/-- 'laws.FnExactIsPairing': WHATEVER THE INPUT: true; the input reads as it did. -/
def fnExactIsPairingSpec : ChangeSpec := { name := "fnExactIsPairing", fn := fun _ => fun
  | [d] => { results := [.lit (.bool true)], args := [d] }
  | _ => none }
def fnExactIsPairingRow : OpenClaim := { program := "ytnldahadldolpaa", sum := "765cbc142466621e8b4c1a501ff3a9831705d8e9338bfb22b24cc21c41c08907", func := "loop.example/g00931/laws.FnExactIsPairing", spec := "fnExactIsPairing", apart := false }
def FnExactIsPairingSaid : Prop := fnExactIsPairingRow.holds Try.pinned (OpenSpec.ofChange fnExactIsPairingSpec)

/-- ITS FALSE NEIGHBOUR: 'it returns false'. Refute it at one input. -/
def fnExactIsPairingWrong : ChangeSpec := { name := "fnExactIsPairing", fn := fun _ => fun
  | [d] => { results := [.lit (.bool false)], args := [d] }
  | _ => none }
def FnExactIsPairingWrongFalsely : Prop := fnExactIsPairingRow.holds Try.pinned (OpenSpec.ofChange fnExactIsPairingWrong)

/-- 'laws.FnExactIsNested': WHATEVER THE INPUT: true; the input reads as it did. -/
def fnExactIsNestedSpec : ChangeSpec := { name := "fnExactIsNested", fn := fun _ => fun
  | [d] => { results := [.lit (.bool true)], args := [d] }
  | _ => none }
def fnExactIsNestedRow : OpenClaim := { program := "ytnldahadldolpaa", sum := "765cbc142466621e8b4c1a501ff3a9831705d8e9338bfb22b24cc21c41c08907", func := "loop.example/g00931/laws.FnExactIsNested", spec := "fnExactIsNested", unfollowed := true, recurses := true, apart := false }
def FnExactIsNestedSaid : Prop := fnExactIsNestedRow.holds Try.pinned (OpenSpec.ofChange fnExactIsNestedSpec)

/-- ITS FALSE NEIGHBOUR: 'it returns false'. Refute it at one input. -/
def fnExactIsNestedWrong : ChangeSpec := { name := "fnExactIsNested", fn := fun _ => fun
  | [d] => { results := [.lit (.bool false)], args := [d] }
  | _ => none }
def FnExactIsNestedWrongFalsely : Prop := fnExactIsNestedRow.holds Try.pinned (OpenSpec.ofChange fnExactIsNestedWrong)

/-- 'laws.FnExactLoopsOf': WHATEVER THE INPUT: true; the input reads as it did. -/
def fnExactLoopsOfSpec : ChangeSpec := { name := "fnExactLoopsOf", fn := fun _ => fun
  | [d1, d2] => { results := [.lit (.bool true)], args := [d1, d2] }
  | _ => none }
def fnExactLoopsOfRow : OpenClaim := { program := "ytnldahadldolpaa", sum := "765cbc142466621e8b4c1a501ff3a9831705d8e9338bfb22b24cc21c41c08907", func := "loop.example/g00931/laws.FnExactLoopsOf", spec := "fnExactLoopsOf", apart := false }
def FnExactLoopsOfSaid : Prop := fnExactLoopsOfRow.holds Try.pinned (OpenSpec.ofChange fnExactLoopsOfSpec)

/-- ITS FALSE NEIGHBOUR: 'it returns false'. Refute it at one input. -/
def fnExactLoopsOfWrong : ChangeSpec := { name := "fnExactLoopsOf", fn := fun _ => fun
  | [d1, d2] => { results := [.lit (.bool false)], args := [d1, d2] }
  | _ => none }
def FnExactLoopsOfWrongFalsely : Prop := fnExactLoopsOfRow.holds Try.pinned (OpenSpec.ofChange fnExactLoopsOfWrong)

/-- 'laws.FnExactPairingText': WHATEVER THE INPUT: true; the input reads as it did. -/
def fnExactPairingTextSpec : ChangeSpec := { name := "fnExactPairingText", fn := fun _ => fun
  | [d] => { results := [.lit (.bool true)], args := [d] }
  | _ => none }
def fnExactPairingTextRow : OpenClaim := { program := "ytnldahadldolpaa", sum := "765cbc142466621e8b4c1a501ff3a9831705d8e9338bfb22b24cc21c41c08907", func := "loop.example/g00931/laws.FnExactPairingText", spec := "fnExactPairingText", apart := false }
def FnExactPairingTextSaid : Prop := fnExactPairingTextRow.holds Try.pinned (OpenSpec.ofChange fnExactPairingTextSpec)

/-- ITS FALSE NEIGHBOUR: 'it returns false'. Refute it at one input. -/
def fnExactPairingTextWrong : ChangeSpec := { name := "fnExactPairingText", fn := fun _ => fun
  | [d] => { results := [.lit (.bool false)], args := [d] }
  | _ => none }
def FnExactPairingTextWrongFalsely : Prop := fnExactPairingTextRow.holds Try.pinned (OpenSpec.ofChange fnExactPairingTextWrong)

/-- 'laws.FnLoops': WHATEVER THE INPUT: true; the input reads as it did. -/
def fnLoopsSpec : ChangeSpec := { name := "fnLoops", fn := fun _ => fun
  | [d] => { results := [.lit (.bool true)], args := [d] }
  | _ => none }
def fnLoopsRow : OpenClaim := { program := "ytnldahadldolpaa", sum := "765cbc142466621e8b4c1a501ff3a9831705d8e9338bfb22b24cc21c41c08907", func := "loop.example/g00931/laws.FnLoops", spec := "fnLoops", apart := false }
def FnLoopsSaid : Prop := fnLoopsRow.holds Try.pinned (OpenSpec.ofChange fnLoopsSpec)

/-- ITS FALSE NEIGHBOUR: 'it returns false'. Refute it at one input. -/
def fnLoopsWrong : ChangeSpec := { name := "fnLoops", fn := fun _ => fun
  | [d] => { results := [.lit (.bool false)], args := [d] }
  | _ => none }
def FnLoopsWrongFalsely : Prop := fnLoopsRow.holds Try.pinned (OpenSpec.ofChange fnLoopsWrong)

/-- 'laws.FnExactFirstColumn': WHATEVER THE INPUT: true; the input reads as it did. -/
def fnExactFirstColumnSpec : ChangeSpec := { name := "fnExactFirstColumn", fn := fun _ => fun
  | [d] => { results := [.lit (.bool true)], args := [d] }
  | _ => none }
def fnExactFirstColumnRow : OpenClaim := { program := "ytnldahadldolpaa", sum := "765cbc142466621e8b4c1a501ff3a9831705d8e9338bfb22b24cc21c41c08907", func := "loop.example/g00931/laws.FnExactFirstColumn", spec := "fnExactFirstColumn", apart := false }
def FnExactFirstColumnSaid : Prop := fnExactFirstColumnRow.holds Try.pinned (OpenSpec.ofChange fnExactFirstColumnSpec)

/-- ITS FALSE NEIGHBOUR: 'it returns false'. Refute it at one input. -/
def fnExactFirstColumnWrong : ChangeSpec := { name := "fnExactFirstColumn", fn := fun _ => fun
  | [d] => { results := [.lit (.bool false)], args := [d] }
  | _ => none }
def FnExactFirstColumnWrongFalsely : Prop := fnExactFirstColumnRow.holds Try.pinned (OpenSpec.ofChange fnExactFirstColumnWrong)

/-- 'laws.FnExactCountByColumns': WHATEVER THE INPUT: true; the input reads as it did. -/
def fnExactCountByColumnsSpec : ChangeSpec := { name := "fnExactCountByColumns", fn := fun _ => fun
  | [d] => { results := [.lit (.bool true)], args := [d] }
  | _ => none }
def fnExactCountByColumnsRow : OpenClaim := { program := "ytnldahadldolpaa", sum := "765cbc142466621e8b4c1a501ff3a9831705d8e9338bfb22b24cc21c41c08907", func := "loop.example/g00931/laws.FnExactCountByColumns", spec := "fnExactCountByColumns", unfollowed := true, recurses := true, apart := false }
def FnExactCountByColumnsSaid : Prop := fnExactCountByColumnsRow.holds Try.pinned (OpenSpec.ofChange fnExactCountByColumnsSpec)

/-- ITS FALSE NEIGHBOUR: 'it returns false'. Refute it at one input. -/
def fnExactCountByColumnsWrong : ChangeSpec := { name := "fnExactCountByColumns", fn := fun _ => fun
  | [d] => { results := [.lit (.bool false)], args := [d] }
  | _ => none }
def FnExactCountByColumnsWrongFalsely : Prop := fnExactCountByColumnsRow.holds Try.pinned (OpenSpec.ofChange fnExactCountByColumnsWrong)

/-- 'laws.FnExactFromRight': WHATEVER THE INPUT: true; the input reads as it did. -/
def fnExactFromRightSpec : ChangeSpec := { name := "fnExactFromRight", fn := fun _ => fun
  | [d1, d2] => { results := [.lit (.bool true)], args := [d1, d2] }
  | _ => none }
def fnExactFromRightRow : OpenClaim := { program := "ytnldahadldolpaa", sum := "765cbc142466621e8b4c1a501ff3a9831705d8e9338bfb22b24cc21c41c08907", func := "loop.example/g00931/laws.FnExactFromRight", spec := "fnExactFromRight", unfollowed := true, recurses := true, apart := false }
def FnExactFromRightSaid : Prop := fnExactFromRightRow.holds Try.pinned (OpenSpec.ofChange fnExactFromRightSpec)

/-- ITS FALSE NEIGHBOUR: 'it returns false'. Refute it at one input. -/
def fnExactFromRightWrong : ChangeSpec := { name := "fnExactFromRight", fn := fun _ => fun
  | [d1, d2] => { results := [.lit (.bool false)], args := [d1, d2] }
  | _ => none }
def FnExactFromRightWrongFalsely : Prop := fnExactFromRightRow.holds Try.pinned (OpenSpec.ofChange fnExactFromRightWrong)

/-- 'laws.FnExactColumnsOf': WHATEVER THE INPUT: true; the input reads as it did. -/
def fnExactColumnsOfSpec : ChangeSpec := { name := "fnExactColumnsOf", fn := fun _ => fun
  | [d] => { results := [.lit (.bool true)], args := [d] }
  | _ => none }
def fnExactColumnsOfRow : OpenClaim := { program := "ytnldahadldolpaa", sum := "765cbc142466621e8b4c1a501ff3a9831705d8e9338bfb22b24cc21c41c08907", func := "loop.example/g00931/laws.FnExactColumnsOf", spec := "fnExactColumnsOf", unfollowed := true, recurses := true, apart := false }
def FnExactColumnsOfSaid : Prop := fnExactColumnsOfRow.holds Try.pinned (OpenSpec.ofChange fnExactColumnsOfSpec)

/-- ITS FALSE NEIGHBOUR: 'it returns false'. Refute it at one input. -/
def fnExactColumnsOfWrong : ChangeSpec := { name := "fnExactColumnsOf", fn := fun _ => fun
  | [d] => { results := [.lit (.bool false)], args := [d] }
  | _ => none }
def FnExactColumnsOfWrongFalsely : Prop := fnExactColumnsOfRow.holds Try.pinned (OpenSpec.ofChange fnExactColumnsOfWrong)

/-- 'laws.FnExactNextColumn': WHATEVER THE INPUT: true; the input reads as it did. -/
def fnExactNextColumnSpec : ChangeSpec := { name := "fnExactNextColumn", fn := fun _ => fun
  | [d1, d2, d3] => { results := [.lit (.bool true)], args := [d1, d2, d3] }
  | _ => none }
def fnExactNextColumnRow : OpenClaim := { program := "ytnldahadldolpaa", sum := "765cbc142466621e8b4c1a501ff3a9831705d8e9338bfb22b24cc21c41c08907", func := "loop.example/g00931/laws.FnExactNextColumn", spec := "fnExactNextColumn", unfollowed := true, recurses := true, apart := false }
def FnExactNextColumnSaid : Prop := fnExactNextColumnRow.holds Try.pinned (OpenSpec.ofChange fnExactNextColumnSpec)

/-- ITS FALSE NEIGHBOUR: 'it returns false'. Refute it at one input. -/
def fnExactNextColumnWrong : ChangeSpec := { name := "fnExactNextColumn", fn := fun _ => fun
  | [d1, d2, d3] => { results := [.lit (.bool false)], args := [d1, d2, d3] }
  | _ => none }
def FnExactNextColumnWrongFalsely : Prop := fnExactNextColumnRow.holds Try.pinned (OpenSpec.ofChange fnExactNextColumnWrong)

/-- 'laws.FnColumns': WHATEVER THE INPUT: true; the input reads as it did. -/
def fnColumnsSpec : ChangeSpec := { name := "fnColumns", fn := fun _ => fun
  | [d] => { results := [.lit (.bool true)], args := [d] }
  | _ => none }
def fnColumnsRow : OpenClaim := { program := "ytnldahadldolpaa", sum := "765cbc142466621e8b4c1a501ff3a9831705d8e9338bfb22b24cc21c41c08907", func := "loop.example/g00931/laws.FnColumns", spec := "fnColumns", unfollowed := true, recurses := true, apart := false }
def FnColumnsSaid : Prop := fnColumnsRow.holds Try.pinned (OpenSpec.ofChange fnColumnsSpec)

/-- ITS FALSE NEIGHBOUR: 'it returns false'. Refute it at one input. -/
def fnColumnsWrong : ChangeSpec := { name := "fnColumns", fn := fun _ => fun
  | [d] => { results := [.lit (.bool false)], args := [d] }
  | _ => none }
def FnColumnsWrongFalsely : Prop := fnColumnsRow.holds Try.pinned (OpenSpec.ofChange fnColumnsWrong)

/- THE SECOND FORM. 'bulk': how many values and letters a reading holds, each counted each time it is reached (what is shared counts as often as it is met; a slice's spare places count too). A statement '..UptoSaid' is the law's where the arguments, and the package variables that the reading takes, are together of bulk at most 1048576: NARROWER than '..Said'. Prove '..Said' where nothing that the law and all that it calls make is longer than what came in: it says more and counts as full. Else prove '..UptoSaid'. A law counts once. -/
mutual
def uptoBulk {H : Type} : DataW H → Nat
  | .lit (.string bytes) => bytes.length + 1
  | .lit _ => 1
  | .nil => 1
  | .ptr d => uptoBulk d + 1
  | .slice elems spare => uptoBulkAll elems + uptoBulkAll spare + 1
  | .agg parts => uptoBulkAll parts + 1
  | .iface _ d => uptoBulk d + 1
  | .map entries => uptoBulkEntries entries + 1
  | .held _ => 1
def uptoBulkAll {H : Type} : List (DataW H) → Nat
  | [] => 0
  | d :: r => uptoBulk d + uptoBulkAll r
def uptoBulkEntries {H : Type} : List (Lit × DataW H) → Nat
  | [] => 0
  | x :: r => uptoBulkEntry x + uptoBulkEntries r
def uptoBulkEntry {H : Type} : Lit × DataW H → Nat
  | (.string bytes, d) => bytes.length + uptoBulk d + 1
  | (_, d) => uptoBulk d + 1
 end
def uptoSmall : (H : Type) → List (DataW H) → Bool := fun _ ds => decide (uptoBulkAll ds ≤ 1048576)
def OpenSpec.upto (s : _root_.Go.ChangeSpec) : _root_.Go.OpenSpec := { _root_.Go.OpenSpec.ofChange s with cond := some uptoSmall }

/-- 'laws.FnExactIsPairing', WHERE WHAT IT READS IS OF BULK AT MOST 1048576: true; the input reads as it did. -/
def fnExactIsPairingUptoRow : OpenClaim := { program := "ytnldahadldolpaa", sum := "765cbc142466621e8b4c1a501ff3a9831705d8e9338bfb22b24cc21c41c08907", func := "loop.example/g00931/laws.FnExactIsPairing", spec := "fnExactIsPairing", apart := false, narrowed := true }
def FnExactIsPairingUptoSaid : Prop := fnExactIsPairingUptoRow.holds Try.pinned (OpenSpec.upto fnExactIsPairingSpec)

/-- 'laws.FnExactIsNested', WHERE WHAT IT READS IS OF BULK AT MOST 1048576: true; the input reads as it did. -/
def fnExactIsNestedUptoRow : OpenClaim := { program := "ytnldahadldolpaa", sum := "765cbc142466621e8b4c1a501ff3a9831705d8e9338bfb22b24cc21c41c08907", func := "loop.example/g00931/laws.FnExactIsNested", spec := "fnExactIsNested", unfollowed := true, recurses := true, apart := false, narrowed := true }
def FnExactIsNestedUptoSaid : Prop := fnExactIsNestedUptoRow.holds Try.pinned (OpenSpec.upto fnExactIsNestedSpec)

/-- 'laws.FnExactLoopsOf', WHERE WHAT IT READS IS OF BULK AT MOST 1048576: true; the input reads as it did. -/
def fnExactLoopsOfUptoRow : OpenClaim := { program := "ytnldahadldolpaa", sum := "765cbc142466621e8b4c1a501ff3a9831705d8e9338bfb22b24cc21c41c08907", func := "loop.example/g00931/laws.FnExactLoopsOf", spec := "fnExactLoopsOf", apart := false, narrowed := true }
def FnExactLoopsOfUptoSaid : Prop := fnExactLoopsOfUptoRow.holds Try.pinned (OpenSpec.upto fnExactLoopsOfSpec)

/-- 'laws.FnExactPairingText', WHERE WHAT IT READS IS OF BULK AT MOST 1048576: true; the input reads as it did. -/
def fnExactPairingTextUptoRow : OpenClaim := { program := "ytnldahadldolpaa", sum := "765cbc142466621e8b4c1a501ff3a9831705d8e9338bfb22b24cc21c41c08907", func := "loop.example/g00931/laws.FnExactPairingText", spec := "fnExactPairingText", apart := false, narrowed := true }
def FnExactPairingTextUptoSaid : Prop := fnExactPairingTextUptoRow.holds Try.pinned (OpenSpec.upto fnExactPairingTextSpec)

/-- 'laws.FnLoops', WHERE WHAT IT READS IS OF BULK AT MOST 1048576: true; the input reads as it did. -/
def fnLoopsUptoRow : OpenClaim := { program := "ytnldahadldolpaa", sum := "765cbc142466621e8b4c1a501ff3a9831705d8e9338bfb22b24cc21c41c08907", func := "loop.example/g00931/laws.FnLoops", spec := "fnLoops", apart := false, narrowed := true }
def FnLoopsUptoSaid : Prop := fnLoopsUptoRow.holds Try.pinned (OpenSpec.upto fnLoopsSpec)

/-- 'laws.FnExactFirstColumn', WHERE WHAT IT READS IS OF BULK AT MOST 1048576: true; the input reads as it did. -/
def fnExactFirstColumnUptoRow : OpenClaim := { program := "ytnldahadldolpaa", sum := "765cbc142466621e8b4c1a501ff3a9831705d8e9338bfb22b24cc21c41c08907", func := "loop.example/g00931/laws.FnExactFirstColumn", spec := "fnExactFirstColumn", apart := false, narrowed := true }
def FnExactFirstColumnUptoSaid : Prop := fnExactFirstColumnUptoRow.holds Try.pinned (OpenSpec.upto fnExactFirstColumnSpec)

/-- 'laws.FnExactCountByColumns', WHERE WHAT IT READS IS OF BULK AT MOST 1048576: true; the input reads as it did. -/
def fnExactCountByColumnsUptoRow : OpenClaim := { program := "ytnldahadldolpaa", sum := "765cbc142466621e8b4c1a501ff3a9831705d8e9338bfb22b24cc21c41c08907", func := "loop.example/g00931/laws.FnExactCountByColumns", spec := "fnExactCountByColumns", unfollowed := true, recurses := true, apart := false, narrowed := true }
def FnExactCountByColumnsUptoSaid : Prop := fnExactCountByColumnsUptoRow.holds Try.pinned (OpenSpec.upto fnExactCountByColumnsSpec)

/-- 'laws.FnExactFromRight', WHERE WHAT IT READS IS OF BULK AT MOST 1048576: true; the input reads as it did. -/
def fnExactFromRightUptoRow : OpenClaim := { program := "ytnldahadldolpaa", sum := "765cbc142466621e8b4c1a501ff3a9831705d8e9338bfb22b24cc21c41c08907", func := "loop.example/g00931/laws.FnExactFromRight", spec := "fnExactFromRight", unfollowed := true, recurses := true, apart := false, narrowed := true }
def FnExactFromRightUptoSaid : Prop := fnExactFromRightUptoRow.holds Try.pinned (OpenSpec.upto fnExactFromRightSpec)

/-- 'laws.FnExactColumnsOf', WHERE WHAT IT READS IS OF BULK AT MOST 1048576: true; the input reads as it did. -/
def fnExactColumnsOfUptoRow : OpenClaim := { program := "ytnldahadldolpaa", sum := "765cbc142466621e8b4c1a501ff3a9831705d8e9338bfb22b24cc21c41c08907", func := "loop.example/g00931/laws.FnExactColumnsOf", spec := "fnExactColumnsOf", unfollowed := true, recurses := true, apart := false, narrowed := true }
def FnExactColumnsOfUptoSaid : Prop := fnExactColumnsOfUptoRow.holds Try.pinned (OpenSpec.upto fnExactColumnsOfSpec)

/-- 'laws.FnExactNextColumn', WHERE WHAT IT READS IS OF BULK AT MOST 1048576: true; the input reads as it did. -/
def fnExactNextColumnUptoRow : OpenClaim := { program := "ytnldahadldolpaa", sum := "765cbc142466621e8b4c1a501ff3a9831705d8e9338bfb22b24cc21c41c08907", func := "loop.example/g00931/laws.FnExactNextColumn", spec := "fnExactNextColumn", unfollowed := true, recurses := true, apart := false, narrowed := true }
def FnExactNextColumnUptoSaid : Prop := fnExactNextColumnUptoRow.holds Try.pinned (OpenSpec.upto fnExactNextColumnSpec)

/-- 'laws.FnColumns', WHERE WHAT IT READS IS OF BULK AT MOST 1048576: true; the input reads as it did. -/
def fnColumnsUptoRow : OpenClaim := { program := "ytnldahadldolpaa", sum := "765cbc142466621e8b4c1a501ff3a9831705d8e9338bfb22b24cc21c41c08907", func := "loop.example/g00931/laws.FnColumns", spec := "fnColumns", unfollowed := true, recurses := true, apart := false, narrowed := true }
def FnColumnsUptoSaid : Prop := fnColumnsUptoRow.holds Try.pinned (OpenSpec.upto fnColumnsSpec)

end Rows
end Go.Proofs.Ytnldahadldolpaa
