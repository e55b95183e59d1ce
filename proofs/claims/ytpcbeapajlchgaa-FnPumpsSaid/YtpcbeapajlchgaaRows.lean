/-
  No cell of these rows narrows 'for every input' (looked for: loops, veiled, ifaces, maps, wideKeys, modest, calm, conditions, laid).
  DERIVED. THE GIVEN ROWS OF THIS SEAT. 12 by the template 'for every input the law returns true; each argument reads behind the call as it read before'; 0 by the template 'total and deterministic' (their statements: YtpcbeapajlchgaaTotals.lean).
  GIVEN WITH THE SEED: the statements are not yours to turn. If you find one false, say at which input.
  Laid BY PROGRAM, IN A SANDBOX (cutbox-rows.mjs): the forced cells as the released guide's own fill.sh prints them over the translation 0e19b0ed99aae43a… (all of the seat's roots in one cut). By AI agents, Wed Nov 11 2026. No macro, syntax, notation, axiom, sorry.
-/
import Derived.Test.YtpcbeapajlchgaaChecked
import GoSem.Claim
import GoSem.ClaimJoined
import GoSem.ClaimMapViews
import Derived.JoinedTies
import Derived.KernelRfl
namespace Go.Proofs.Ytpcbeapajlchgaa
/- THE CELL 'sum', in the pinned program and in every row, IS THE sha256 OF THE DUMP (.gsa) THAT YtpcbeapajlchgaaProg.lean LOADS. Nothing in Lean hashes anything: it is a label: what it is worth is what the hold of that sum in a sandbox is worth. -/
noncomputable def Try.pinned : Pinned := { name := "ytpcbeapajlchgaa", sum := "0e19b0ed99aae43a573245935bba2935ecca873ed7de0e6241142f0b5fad8725", checked := Try.checked }
namespace Rows
def none {H : Type} : Left H := { results := [], args := [] }

/-- 'laws.FnExactIsValidCurve': WHATEVER THE INPUT: true; the input reads as it did. -/
def fnExactIsValidCurveSpec : ChangeSpec := { name := "fnExactIsValidCurve", fn := fun _ => fun
  | [d] => { results := [.lit (.bool true)], args := [d] }
  | _ => none }
def fnExactIsValidCurveRow : OpenClaim := { program := "ytpcbeapajlchgaa", sum := "0e19b0ed99aae43a573245935bba2935ecca873ed7de0e6241142f0b5fad8725", func := "loop.example/g00853/laws.FnExactIsValidCurve", spec := "fnExactIsValidCurve", apart := false }
def FnExactIsValidCurveSaid : Prop := fnExactIsValidCurveRow.holds Try.pinned (OpenSpec.ofChange fnExactIsValidCurveSpec)

/-- ITS FALSE NEIGHBOUR: 'it returns false'. Refute it at one input. -/
def fnExactIsValidCurveWrong : ChangeSpec := { name := "fnExactIsValidCurve", fn := fun _ => fun
  | [d] => { results := [.lit (.bool false)], args := [d] }
  | _ => none }
def FnExactIsValidCurveWrongFalsely : Prop := fnExactIsValidCurveRow.holds Try.pinned (OpenSpec.ofChange fnExactIsValidCurveWrong)

/-- 'laws.FnExactRaiseCurve': WHATEVER THE INPUT: true; the input reads as it did. -/
def fnExactRaiseCurveSpec : ChangeSpec := { name := "fnExactRaiseCurve", fn := fun _ => fun
  | [d1, d2] => { results := [.lit (.bool true)], args := [d1, d2] }
  | _ => none }
def fnExactRaiseCurveRow : OpenClaim := { program := "ytpcbeapajlchgaa", sum := "0e19b0ed99aae43a573245935bba2935ecca873ed7de0e6241142f0b5fad8725", func := "loop.example/g00853/laws.FnExactRaiseCurve", spec := "fnExactRaiseCurve", apart := false }
def FnExactRaiseCurveSaid : Prop := fnExactRaiseCurveRow.holds Try.pinned (OpenSpec.ofChange fnExactRaiseCurveSpec)

/-- ITS FALSE NEIGHBOUR: 'it returns false'. Refute it at one input. -/
def fnExactRaiseCurveWrong : ChangeSpec := { name := "fnExactRaiseCurve", fn := fun _ => fun
  | [d1, d2] => { results := [.lit (.bool false)], args := [d1, d2] }
  | _ => none }
def FnExactRaiseCurveWrongFalsely : Prop := fnExactRaiseCurveRow.holds Try.pinned (OpenSpec.ofChange fnExactRaiseCurveWrong)

/-- 'laws.FnExactFlowAt': WHATEVER THE INPUT: true; the input reads as it did. -/
def fnExactFlowAtSpec : ChangeSpec := { name := "fnExactFlowAt", fn := fun _ => fun
  | [d1, d2] => { results := [.lit (.bool true)], args := [d1, d2] }
  | _ => none }
def fnExactFlowAtRow : OpenClaim := { program := "ytpcbeapajlchgaa", sum := "0e19b0ed99aae43a573245935bba2935ecca873ed7de0e6241142f0b5fad8725", func := "loop.example/g00853/laws.FnExactFlowAt", spec := "fnExactFlowAt", apart := false }
def FnExactFlowAtSaid : Prop := fnExactFlowAtRow.holds Try.pinned (OpenSpec.ofChange fnExactFlowAtSpec)

/-- ITS FALSE NEIGHBOUR: 'it returns false'. Refute it at one input. -/
def fnExactFlowAtWrong : ChangeSpec := { name := "fnExactFlowAt", fn := fun _ => fun
  | [d1, d2] => { results := [.lit (.bool false)], args := [d1, d2] }
  | _ => none }
def FnExactFlowAtWrongFalsely : Prop := fnExactFlowAtRow.holds Try.pinned (OpenSpec.ofChange fnExactFlowAtWrong)

/-- 'laws.FnExactHeadAt': WHATEVER THE INPUT: true; the input reads as it did. -/
def fnExactHeadAtSpec : ChangeSpec := { name := "fnExactHeadAt", fn := fun _ => fun
  | [d1, d2] => { results := [.lit (.bool true)], args := [d1, d2] }
  | _ => none }
def fnExactHeadAtRow : OpenClaim := { program := "ytpcbeapajlchgaa", sum := "0e19b0ed99aae43a573245935bba2935ecca873ed7de0e6241142f0b5fad8725", func := "loop.example/g00853/laws.FnExactHeadAt", spec := "fnExactHeadAt", apart := false }
def FnExactHeadAtSaid : Prop := fnExactHeadAtRow.holds Try.pinned (OpenSpec.ofChange fnExactHeadAtSpec)

/-- ITS FALSE NEIGHBOUR: 'it returns false'. Refute it at one input. -/
def fnExactHeadAtWrong : ChangeSpec := { name := "fnExactHeadAt", fn := fun _ => fun
  | [d1, d2] => { results := [.lit (.bool false)], args := [d1, d2] }
  | _ => none }
def FnExactHeadAtWrongFalsely : Prop := fnExactHeadAtRow.holds Try.pinned (OpenSpec.ofChange fnExactHeadAtWrong)

/-- 'laws.FnExactWorkingPoint': WHATEVER THE INPUT: true; the input reads as it did. -/
def fnExactWorkingPointSpec : ChangeSpec := { name := "fnExactWorkingPoint", fn := fun _ => fun
  | [d1, d2, d3] => { results := [.lit (.bool true)], args := [d1, d2, d3] }
  | _ => none }
def fnExactWorkingPointRow : OpenClaim := { program := "ytpcbeapajlchgaa", sum := "0e19b0ed99aae43a573245935bba2935ecca873ed7de0e6241142f0b5fad8725", func := "loop.example/g00853/laws.FnExactWorkingPoint", spec := "fnExactWorkingPoint", apart := false }
def FnExactWorkingPointSaid : Prop := fnExactWorkingPointRow.holds Try.pinned (OpenSpec.ofChange fnExactWorkingPointSpec)

/-- ITS FALSE NEIGHBOUR: 'it returns false'. Refute it at one input. -/
def fnExactWorkingPointWrong : ChangeSpec := { name := "fnExactWorkingPoint", fn := fun _ => fun
  | [d1, d2, d3] => { results := [.lit (.bool false)], args := [d1, d2, d3] }
  | _ => none }
def FnExactWorkingPointWrongFalsely : Prop := fnExactWorkingPointRow.holds Try.pinned (OpenSpec.ofChange fnExactWorkingPointWrong)

/-- 'laws.FnExactWorkingHead': WHATEVER THE INPUT: true; the input reads as it did. -/
def fnExactWorkingHeadSpec : ChangeSpec := { name := "fnExactWorkingHead", fn := fun _ => fun
  | [d1, d2, d3] => { results := [.lit (.bool true)], args := [d1, d2, d3] }
  | _ => none }
def fnExactWorkingHeadRow : OpenClaim := { program := "ytpcbeapajlchgaa", sum := "0e19b0ed99aae43a573245935bba2935ecca873ed7de0e6241142f0b5fad8725", func := "loop.example/g00853/laws.FnExactWorkingHead", spec := "fnExactWorkingHead", apart := false }
def FnExactWorkingHeadSaid : Prop := fnExactWorkingHeadRow.holds Try.pinned (OpenSpec.ofChange fnExactWorkingHeadSpec)

/-- ITS FALSE NEIGHBOUR: 'it returns false'. Refute it at one input. -/
def fnExactWorkingHeadWrong : ChangeSpec := { name := "fnExactWorkingHead", fn := fun _ => fun
  | [d1, d2, d3] => { results := [.lit (.bool false)], args := [d1, d2, d3] }
  | _ => none }
def FnExactWorkingHeadWrongFalsely : Prop := fnExactWorkingHeadRow.holds Try.pinned (OpenSpec.ofChange fnExactWorkingHeadWrong)

/-- 'laws.FnExactIsAbove': WHATEVER THE INPUT: true; the input reads as it did. -/
def fnExactIsAboveSpec : ChangeSpec := { name := "fnExactIsAbove", fn := fun _ => fun
  | [d1, d2] => { results := [.lit (.bool true)], args := [d1, d2] }
  | _ => none }
def fnExactIsAboveRow : OpenClaim := { program := "ytpcbeapajlchgaa", sum := "0e19b0ed99aae43a573245935bba2935ecca873ed7de0e6241142f0b5fad8725", func := "loop.example/g00853/laws.FnExactIsAbove", spec := "fnExactIsAbove", apart := false }
def FnExactIsAboveSaid : Prop := fnExactIsAboveRow.holds Try.pinned (OpenSpec.ofChange fnExactIsAboveSpec)

/-- ITS FALSE NEIGHBOUR: 'it returns false'. Refute it at one input. -/
def fnExactIsAboveWrong : ChangeSpec := { name := "fnExactIsAbove", fn := fun _ => fun
  | [d1, d2] => { results := [.lit (.bool false)], args := [d1, d2] }
  | _ => none }
def FnExactIsAboveWrongFalsely : Prop := fnExactIsAboveRow.holds Try.pinned (OpenSpec.ofChange fnExactIsAboveWrong)

/-- 'laws.FnExactSeriesHead': WHATEVER THE INPUT: true; the input reads as it did. -/
def fnExactSeriesHeadSpec : ChangeSpec := { name := "fnExactSeriesHead", fn := fun _ => fun
  | [d1, d2] => { results := [.lit (.bool true)], args := [d1, d2] }
  | _ => none }
def fnExactSeriesHeadRow : OpenClaim := { program := "ytpcbeapajlchgaa", sum := "0e19b0ed99aae43a573245935bba2935ecca873ed7de0e6241142f0b5fad8725", func := "loop.example/g00853/laws.FnExactSeriesHead", spec := "fnExactSeriesHead", apart := false }
def FnExactSeriesHeadSaid : Prop := fnExactSeriesHeadRow.holds Try.pinned (OpenSpec.ofChange fnExactSeriesHeadSpec)

/-- ITS FALSE NEIGHBOUR: 'it returns false'. Refute it at one input. -/
def fnExactSeriesHeadWrong : ChangeSpec := { name := "fnExactSeriesHead", fn := fun _ => fun
  | [d1, d2] => { results := [.lit (.bool false)], args := [d1, d2] }
  | _ => none }
def FnExactSeriesHeadWrongFalsely : Prop := fnExactSeriesHeadRow.holds Try.pinned (OpenSpec.ofChange fnExactSeriesHeadWrong)

/-- 'laws.FnExactParallelFlow': WHATEVER THE INPUT: true; the input reads as it did. -/
def fnExactParallelFlowSpec : ChangeSpec := { name := "fnExactParallelFlow", fn := fun _ => fun
  | [d1, d2] => { results := [.lit (.bool true)], args := [d1, d2] }
  | _ => none }
def fnExactParallelFlowRow : OpenClaim := { program := "ytpcbeapajlchgaa", sum := "0e19b0ed99aae43a573245935bba2935ecca873ed7de0e6241142f0b5fad8725", func := "loop.example/g00853/laws.FnExactParallelFlow", spec := "fnExactParallelFlow", apart := false }
def FnExactParallelFlowSaid : Prop := fnExactParallelFlowRow.holds Try.pinned (OpenSpec.ofChange fnExactParallelFlowSpec)

/-- ITS FALSE NEIGHBOUR: 'it returns false'. Refute it at one input. -/
def fnExactParallelFlowWrong : ChangeSpec := { name := "fnExactParallelFlow", fn := fun _ => fun
  | [d1, d2] => { results := [.lit (.bool false)], args := [d1, d2] }
  | _ => none }
def FnExactParallelFlowWrongFalsely : Prop := fnExactParallelFlowRow.holds Try.pinned (OpenSpec.ofChange fnExactParallelFlowWrong)

/-- 'laws.FnCurves': WHATEVER THE INPUT: true; the input reads as it did. -/
def fnCurvesSpec : ChangeSpec := { name := "fnCurves", fn := fun _ => fun
  | [d] => { results := [.lit (.bool true)], args := [d] }
  | _ => none }
def fnCurvesRow : OpenClaim := { program := "ytpcbeapajlchgaa", sum := "0e19b0ed99aae43a573245935bba2935ecca873ed7de0e6241142f0b5fad8725", func := "loop.example/g00853/laws.FnCurves", spec := "fnCurves", apart := false }
def FnCurvesSaid : Prop := fnCurvesRow.holds Try.pinned (OpenSpec.ofChange fnCurvesSpec)

/-- ITS FALSE NEIGHBOUR: 'it returns false'. Refute it at one input. -/
def fnCurvesWrong : ChangeSpec := { name := "fnCurves", fn := fun _ => fun
  | [d] => { results := [.lit (.bool false)], args := [d] }
  | _ => none }
def FnCurvesWrongFalsely : Prop := fnCurvesRow.holds Try.pinned (OpenSpec.ofChange fnCurvesWrong)

/-- 'laws.FnPumps': WHATEVER THE INPUT: true; the input reads as it did. -/
def fnPumpsSpec : ChangeSpec := { name := "fnPumps", fn := fun _ => fun
  | [d] => { results := [.lit (.bool true)], args := [d] }
  | _ => none }
def fnPumpsRow : OpenClaim := { program := "ytpcbeapajlchgaa", sum := "0e19b0ed99aae43a573245935bba2935ecca873ed7de0e6241142f0b5fad8725", func := "loop.example/g00853/laws.FnPumps", spec := "fnPumps", apart := false }
def FnPumpsSaid : Prop := fnPumpsRow.holds Try.pinned (OpenSpec.ofChange fnPumpsSpec)

/-- ITS FALSE NEIGHBOUR: 'it returns false'. Refute it at one input. -/
def fnPumpsWrong : ChangeSpec := { name := "fnPumps", fn := fun _ => fun
  | [d] => { results := [.lit (.bool false)], args := [d] }
  | _ => none }
def FnPumpsWrongFalsely : Prop := fnPumpsRow.holds Try.pinned (OpenSpec.ofChange fnPumpsWrong)

/-- 'laws.FnExactReducerFor': WHATEVER THE INPUT: true; the input reads as it did. -/
def fnExactReducerForSpec : ChangeSpec := { name := "fnExactReducerFor", fn := fun _ => fun
  | [d1, d2, d3] => { results := [.lit (.bool true)], args := [d1, d2, d3] }
  | _ => none }
def fnExactReducerForRow : OpenClaim := { program := "ytpcbeapajlchgaa", sum := "0e19b0ed99aae43a573245935bba2935ecca873ed7de0e6241142f0b5fad8725", func := "loop.example/g00853/laws.FnExactReducerFor", spec := "fnExactReducerFor", apart := false }
def FnExactReducerForSaid : Prop := fnExactReducerForRow.holds Try.pinned (OpenSpec.ofChange fnExactReducerForSpec)

/-- ITS FALSE NEIGHBOUR: 'it returns false'. Refute it at one input. -/
def fnExactReducerForWrong : ChangeSpec := { name := "fnExactReducerFor", fn := fun _ => fun
  | [d1, d2, d3] => { results := [.lit (.bool false)], args := [d1, d2, d3] }
  | _ => none }
def FnExactReducerForWrongFalsely : Prop := fnExactReducerForRow.holds Try.pinned (OpenSpec.ofChange fnExactReducerForWrong)

/- THE SECOND FORM. 'bulk': how many values and letters a reading holds, each counted each time it is reached (what is shared counts as often as it is met; a slice's spare places count too). A statement '..UptoSaid' is the law's where the arguments, and the package variables that the reading takes, are together of bulk at most 1048576: NARROWER than '..Said'. Prove '..Said' where nothing that the law and all that it calls make is longer than what came in: it says more and counts as full. Else prove '..UptoSaid'. A law counts once. -/
mutual
def uptoBulk {H : Type} : DataW H → Nat
  | .lit (.string bytes) => bytes.length + 1
  | .lit _ => 1
  | .nil => 1
  | .ptr d => uptoBulk d + 1
  | .slice elems spare => uptoBulkAll elems + uptoBulkAll spare + 1
  | .agg parts => uptoBulkAll parts + 1
  | .iface _ d => uptoBulk d + 1
  | .map entries => uptoBulkEntries entries + 1
  | .held _ => 1
def uptoBulkAll {H : Type} : List (DataW H) → Nat
  | [] => 0
  | d :: r => uptoBulk d + uptoBulkAll r
def uptoBulkEntries {H : Type} : List (Lit × DataW H) → Nat
  | [] => 0
  | x :: r => uptoBulkEntry x + uptoBulkEntries r
def uptoBulkEntry {H : Type} : Lit × DataW H → Nat
  | (.string bytes, d) => bytes.length + uptoBulk d + 1
  | (_, d) => uptoBulk d + 1
 end
def uptoSmall : (H : Type) → List (DataW H) → Bool := fun _ ds => decide (uptoBulkAll ds ≤ 1048576)
def OpenSpec.upto (s : _root_.Go.ChangeSpec) : _root_.Go.OpenSpec := { _root_.Go.OpenSpec.ofChange s with cond := some uptoSmall }

/-- 'laws.FnExactIsValidCurve', WHERE WHAT IT READS IS OF BULK AT MOST 1048576: true; the input reads as it did. -/
def fnExactIsValidCurveUptoRow : OpenClaim := { program := "ytpcbeapajlchgaa", sum := "0e19b0ed99aae43a573245935bba2935ecca873ed7de0e6241142f0b5fad8725", func := "loop.example/g00853/laws.FnExactIsValidCurve", spec := "fnExactIsValidCurve", apart := false, narrowed := true }
def FnExactIsValidCurveUptoSaid : Prop := fnExactIsValidCurveUptoRow.holds Try.pinned (OpenSpec.upto fnExactIsValidCurveSpec)

/-- 'laws.FnExactRaiseCurve', WHERE WHAT IT READS IS OF BULK AT MOST 1048576: true; the input reads as it did. -/
def fnExactRaiseCurveUptoRow : OpenClaim := { program := "ytpcbeapajlchgaa", sum := "0e19b0ed99aae43a573245935bba2935ecca873ed7de0e6241142f0b5fad8725", func := "loop.example/g00853/laws.FnExactRaiseCurve", spec := "fnExactRaiseCurve", apart := false, narrowed := true }
def FnExactRaiseCurveUptoSaid : Prop := fnExactRaiseCurveUptoRow.holds Try.pinned (OpenSpec.upto fnExactRaiseCurveSpec)

/-- 'laws.FnExactFlowAt', WHERE WHAT IT READS IS OF BULK AT MOST 1048576: true; the input reads as it did. -/
def fnExactFlowAtUptoRow : OpenClaim := { program := "ytpcbeapajlchgaa", sum := "0e19b0ed99aae43a573245935bba2935ecca873ed7de0e6241142f0b5fad8725", func := "loop.example/g00853/laws.FnExactFlowAt", spec := "fnExactFlowAt", apart := false, narrowed := true }
def FnExactFlowAtUptoSaid : Prop := fnExactFlowAtUptoRow.holds Try.pinned (OpenSpec.upto fnExactFlowAtSpec)

/-- 'laws.FnExactHeadAt', WHERE WHAT IT READS IS OF BULK AT MOST 1048576: true; the input reads as it did. -/
def fnExactHeadAtUptoRow : OpenClaim := { program := "ytpcbeapajlchgaa", sum := "0e19b0ed99aae43a573245935bba2935ecca873ed7de0e6241142f0b5fad8725", func := "loop.example/g00853/laws.FnExactHeadAt", spec := "fnExactHeadAt", apart := false, narrowed := true }
def FnExactHeadAtUptoSaid : Prop := fnExactHeadAtUptoRow.holds Try.pinned (OpenSpec.upto fnExactHeadAtSpec)

/-- 'laws.FnExactWorkingPoint', WHERE WHAT IT READS IS OF BULK AT MOST 1048576: true; the input reads as it did. -/
def fnExactWorkingPointUptoRow : OpenClaim := { program := "ytpcbeapajlchgaa", sum := "0e19b0ed99aae43a573245935bba2935ecca873ed7de0e6241142f0b5fad8725", func := "loop.example/g00853/laws.FnExactWorkingPoint", spec := "fnExactWorkingPoint", apart := false, narrowed := true }
def FnExactWorkingPointUptoSaid : Prop := fnExactWorkingPointUptoRow.holds Try.pinned (OpenSpec.upto fnExactWorkingPointSpec)

/-- 'laws.FnExactWorkingHead', WHERE WHAT IT READS IS OF BULK AT MOST 1048576: true; the input reads as it did. -/
def fnExactWorkingHeadUptoRow : OpenClaim := { program := "ytpcbeapajlchgaa", sum := "0e19b0ed99aae43a573245935bba2935ecca873ed7de0e6241142f0b5fad8725", func := "loop.example/g00853/laws.FnExactWorkingHead", spec := "fnExactWorkingHead", apart := false, narrowed := true }
def FnExactWorkingHeadUptoSaid : Prop := fnExactWorkingHeadUptoRow.holds Try.pinned (OpenSpec.upto fnExactWorkingHeadSpec)

/-- 'laws.FnExactIsAbove', WHERE WHAT IT READS IS OF BULK AT MOST 1048576: true; the input reads as it did. -/
def fnExactIsAboveUptoRow : OpenClaim := { program := "ytpcbeapajlchgaa", sum := "0e19b0ed99aae43a573245935bba2935ecca873ed7de0e6241142f0b5fad8725", func := "loop.example/g00853/laws.FnExactIsAbove", spec := "fnExactIsAbove", apart := false, narrowed := true }
def FnExactIsAboveUptoSaid : Prop := fnExactIsAboveUptoRow.holds Try.pinned (OpenSpec.upto fnExactIsAboveSpec)

/-- 'laws.FnExactSeriesHead', WHERE WHAT IT READS IS OF BULK AT MOST 1048576: true; the input reads as it did. -/
def fnExactSeriesHeadUptoRow : OpenClaim := { program := "ytpcbeapajlchgaa", sum := "0e19b0ed99aae43a573245935bba2935ecca873ed7de0e6241142f0b5fad8725", func := "loop.example/g00853/laws.FnExactSeriesHead", spec := "fnExactSeriesHead", apart := false, narrowed := true }
def FnExactSeriesHeadUptoSaid : Prop := fnExactSeriesHeadUptoRow.holds Try.pinned (OpenSpec.upto fnExactSeriesHeadSpec)

/-- 'laws.FnExactParallelFlow', WHERE WHAT IT READS IS OF BULK AT MOST 1048576: true; the input reads as it did. -/
def fnExactParallelFlowUptoRow : OpenClaim := { program := "ytpcbeapajlchgaa", sum := "0e19b0ed99aae43a573245935bba2935ecca873ed7de0e6241142f0b5fad8725", func := "loop.example/g00853/laws.FnExactParallelFlow", spec := "fnExactParallelFlow", apart := false, narrowed := true }
def FnExactParallelFlowUptoSaid : Prop := fnExactParallelFlowUptoRow.holds Try.pinned (OpenSpec.upto fnExactParallelFlowSpec)

/-- 'laws.FnCurves', WHERE WHAT IT READS IS OF BULK AT MOST 1048576: true; the input reads as it did. -/
def fnCurvesUptoRow : OpenClaim := { program := "ytpcbeapajlchgaa", sum := "0e19b0ed99aae43a573245935bba2935ecca873ed7de0e6241142f0b5fad8725", func := "loop.example/g00853/laws.FnCurves", spec := "fnCurves", apart := false, narrowed := true }
def FnCurvesUptoSaid : Prop := fnCurvesUptoRow.holds Try.pinned (OpenSpec.upto fnCurvesSpec)

/-- 'laws.FnPumps', WHERE WHAT IT READS IS OF BULK AT MOST 1048576: true; the input reads as it did. -/
def fnPumpsUptoRow : OpenClaim := { program := "ytpcbeapajlchgaa", sum := "0e19b0ed99aae43a573245935bba2935ecca873ed7de0e6241142f0b5fad8725", func := "loop.example/g00853/laws.FnPumps", spec := "fnPumps", apart := false, narrowed := true }
def FnPumpsUptoSaid : Prop := fnPumpsUptoRow.holds Try.pinned (OpenSpec.upto fnPumpsSpec)

/-- 'laws.FnExactReducerFor', WHERE WHAT IT READS IS OF BULK AT MOST 1048576: true; the input reads as it did. -/
def fnExactReducerForUptoRow : OpenClaim := { program := "ytpcbeapajlchgaa", sum := "0e19b0ed99aae43a573245935bba2935ecca873ed7de0e6241142f0b5fad8725", func := "loop.example/g00853/laws.FnExactReducerFor", spec := "fnExactReducerFor", apart := false, narrowed := true }
def FnExactReducerForUptoSaid : Prop := fnExactReducerForUptoRow.holds Try.pinned (OpenSpec.upto fnExactReducerForSpec)

end Rows
end Go.Proofs.Ytpcbeapajlchgaa
