/-
  No cell of these rows narrows 'for every input' (looked for: loops, veiled, ifaces, maps, wideKeys, modest, calm, conditions, laid).
  DERIVED. THE GIVEN ROWS OF THIS SEAT. 12 by the template 'for every input the law returns true; each argument reads behind the call as it read before'; 0 by the template 'total and deterministic' (their statements: YtheaagbffphdmaaTotals.lean).
  GIVEN WITH THE SEED: the statements are not yours to turn. If you find one false, say at which input.
  Laid BY PROGRAM, IN A SANDBOX (cutbox-rows.mjs): the forced cells as the released guide's own fill.sh prints them over the translation 7e5ae99f70bd1cf8… (all of the seat's roots in one cut). By AI agents, Wed Nov 11 2026. No macro, syntax, notation, axiom, sorry.
-/
import Derived.Test.YtheaagbffphdmaaChecked
import GoSem.Claim
import GoSem.ClaimJoined
import GoSem.ClaimMapViews
import Derived.JoinedTies
import Derived.KernelRfl
namespace Go.Proofs.Ytheaagbffphdmaa
/- THE CELL 'sum', in the pinned program and in every row, IS THE sha256 OF THE DUMP (.gsa) THAT YtheaagbffphdmaaProg.lean LOADS. Nothing in Lean hashes anything: it is a label: what it is worth is what the hold of that sum in a sandbox is worth. -/
noncomputable def Try.pinned : Pinned := { name := "ytheaagbffphdmaa", sum := "7e5ae99f70bd1cf80dcecb623f22f761eb26fffbcf045e8c373e40a155da39f8", checked := Try.checked }
namespace Rows
def none {H : Type} : Left H := { results := [], args := [] }

/-- 'laws.FnExactSupplyOf': WHATEVER THE INPUT: true; the input reads as it did. -/
def fnExactSupplyOfSpec : ChangeSpec := { name := "fnExactSupplyOf", fn := fun _ => fun
  | [d1, d2] => { results := [.lit (.bool true)], args := [d1, d2] }
  | _ => none }
def fnExactSupplyOfRow : OpenClaim := { program := "ytheaagbffphdmaa", sum := "7e5ae99f70bd1cf80dcecb623f22f761eb26fffbcf045e8c373e40a155da39f8", func := "loop.example/g00853/laws.FnExactSupplyOf", spec := "fnExactSupplyOf", unfollowed := true, recurses := true, apart := false }
def FnExactSupplyOfSaid : Prop := fnExactSupplyOfRow.holds Try.pinned (OpenSpec.ofChange fnExactSupplyOfSpec)

/-- ITS FALSE NEIGHBOUR: 'it returns false'. Refute it at one input. -/
def fnExactSupplyOfWrong : ChangeSpec := { name := "fnExactSupplyOf", fn := fun _ => fun
  | [d1, d2] => { results := [.lit (.bool false)], args := [d1, d2] }
  | _ => none }
def FnExactSupplyOfWrongFalsely : Prop := fnExactSupplyOfRow.holds Try.pinned (OpenSpec.ofChange fnExactSupplyOfWrong)

/-- 'laws.FnExactLossOf': WHATEVER THE INPUT: true; the input reads as it did. -/
def fnExactLossOfSpec : ChangeSpec := { name := "fnExactLossOf", fn := fun _ => fun
  | [d1, d2, d3] => { results := [.lit (.bool true)], args := [d1, d2, d3] }
  | _ => none }
def fnExactLossOfRow : OpenClaim := { program := "ytheaagbffphdmaa", sum := "7e5ae99f70bd1cf80dcecb623f22f761eb26fffbcf045e8c373e40a155da39f8", func := "loop.example/g00853/laws.FnExactLossOf", spec := "fnExactLossOf", unfollowed := true, recurses := true, apart := false }
def FnExactLossOfSaid : Prop := fnExactLossOfRow.holds Try.pinned (OpenSpec.ofChange fnExactLossOfSpec)

/-- ITS FALSE NEIGHBOUR: 'it returns false'. Refute it at one input. -/
def fnExactLossOfWrong : ChangeSpec := { name := "fnExactLossOf", fn := fun _ => fun
  | [d1, d2, d3] => { results := [.lit (.bool false)], args := [d1, d2, d3] }
  | _ => none }
def FnExactLossOfWrongFalsely : Prop := fnExactLossOfRow.holds Try.pinned (OpenSpec.ofChange fnExactLossOfWrong)

/-- 'laws.FnExactHeaviestPipe': WHATEVER THE INPUT: true; the input reads as it did. -/
def fnExactHeaviestPipeSpec : ChangeSpec := { name := "fnExactHeaviestPipe", fn := fun _ => fun
  | [d1, d2] => { results := [.lit (.bool true)], args := [d1, d2] }
  | _ => none }
def fnExactHeaviestPipeRow : OpenClaim := { program := "ytheaagbffphdmaa", sum := "7e5ae99f70bd1cf80dcecb623f22f761eb26fffbcf045e8c373e40a155da39f8", func := "loop.example/g00853/laws.FnExactHeaviestPipe", spec := "fnExactHeaviestPipe", unfollowed := true, recurses := true, apart := false }
def FnExactHeaviestPipeSaid : Prop := fnExactHeaviestPipeRow.holds Try.pinned (OpenSpec.ofChange fnExactHeaviestPipeSpec)

/-- ITS FALSE NEIGHBOUR: 'it returns false'. Refute it at one input. -/
def fnExactHeaviestPipeWrong : ChangeSpec := { name := "fnExactHeaviestPipe", fn := fun _ => fun
  | [d1, d2] => { results := [.lit (.bool false)], args := [d1, d2] }
  | _ => none }
def FnExactHeaviestPipeWrongFalsely : Prop := fnExactHeaviestPipeRow.holds Try.pinned (OpenSpec.ofChange fnExactHeaviestPipeWrong)

/-- 'laws.FnExactEnergyOf': WHATEVER THE INPUT: true; the input reads as it did. -/
def fnExactEnergyOfSpec : ChangeSpec := { name := "fnExactEnergyOf", fn := fun _ => fun
  | [d1, d2] => { results := [.lit (.bool true)], args := [d1, d2] }
  | _ => none }
def fnExactEnergyOfRow : OpenClaim := { program := "ytheaagbffphdmaa", sum := "7e5ae99f70bd1cf80dcecb623f22f761eb26fffbcf045e8c373e40a155da39f8", func := "loop.example/g00853/laws.FnExactEnergyOf", spec := "fnExactEnergyOf", unfollowed := true, recurses := true, apart := false }
def FnExactEnergyOfSaid : Prop := fnExactEnergyOfRow.holds Try.pinned (OpenSpec.ofChange fnExactEnergyOfSpec)

/-- ITS FALSE NEIGHBOUR: 'it returns false'. Refute it at one input. -/
def fnExactEnergyOfWrong : ChangeSpec := { name := "fnExactEnergyOf", fn := fun _ => fun
  | [d1, d2] => { results := [.lit (.bool false)], args := [d1, d2] }
  | _ => none }
def FnExactEnergyOfWrongFalsely : Prop := fnExactEnergyOfRow.holds Try.pinned (OpenSpec.ofChange fnExactEnergyOfWrong)

/-- 'laws.FnExactSteepestPipe': WHATEVER THE INPUT: true; the input reads as it did. -/
def fnExactSteepestPipeSpec : ChangeSpec := { name := "fnExactSteepestPipe", fn := fun _ => fun
  | [d1, d2] => { results := [.lit (.bool true)], args := [d1, d2] }
  | _ => none }
def fnExactSteepestPipeRow : OpenClaim := { program := "ytheaagbffphdmaa", sum := "7e5ae99f70bd1cf80dcecb623f22f761eb26fffbcf045e8c373e40a155da39f8", func := "loop.example/g00853/laws.FnExactSteepestPipe", spec := "fnExactSteepestPipe", unfollowed := true, recurses := true, apart := false }
def FnExactSteepestPipeSaid : Prop := fnExactSteepestPipeRow.holds Try.pinned (OpenSpec.ofChange fnExactSteepestPipeSpec)

/-- ITS FALSE NEIGHBOUR: 'it returns false'. Refute it at one input. -/
def fnExactSteepestPipeWrong : ChangeSpec := { name := "fnExactSteepestPipe", fn := fun _ => fun
  | [d1, d2] => { results := [.lit (.bool false)], args := [d1, d2] }
  | _ => none }
def FnExactSteepestPipeWrongFalsely : Prop := fnExactSteepestPipeRow.holds Try.pinned (OpenSpec.ofChange fnExactSteepestPipeWrong)

/-- 'laws.FnExactIsRing': WHATEVER THE INPUT: true; the input reads as it did. -/
def fnExactIsRingSpec : ChangeSpec := { name := "fnExactIsRing", fn := fun _ => fun
  | [d] => { results := [.lit (.bool true)], args := [d] }
  | _ => none }
def fnExactIsRingRow : OpenClaim := { program := "ytheaagbffphdmaa", sum := "7e5ae99f70bd1cf80dcecb623f22f761eb26fffbcf045e8c373e40a155da39f8", func := "loop.example/g00853/laws.FnExactIsRing", spec := "fnExactIsRing", apart := false }
def FnExactIsRingSaid : Prop := fnExactIsRingRow.holds Try.pinned (OpenSpec.ofChange fnExactIsRingSpec)

/-- ITS FALSE NEIGHBOUR: 'it returns false'. Refute it at one input. -/
def fnExactIsRingWrong : ChangeSpec := { name := "fnExactIsRing", fn := fun _ => fun
  | [d] => { results := [.lit (.bool false)], args := [d] }
  | _ => none }
def FnExactIsRingWrongFalsely : Prop := fnExactIsRingRow.holds Try.pinned (OpenSpec.ofChange fnExactIsRingWrong)

/-- 'laws.FnExactIsTreeNetwork': WHATEVER THE INPUT: true; the input reads as it did. -/
def fnExactIsTreeNetworkSpec : ChangeSpec := { name := "fnExactIsTreeNetwork", fn := fun _ => fun
  | [d] => { results := [.lit (.bool true)], args := [d] }
  | _ => none }
def fnExactIsTreeNetworkRow : OpenClaim := { program := "ytheaagbffphdmaa", sum := "7e5ae99f70bd1cf80dcecb623f22f761eb26fffbcf045e8c373e40a155da39f8", func := "loop.example/g00853/laws.FnExactIsTreeNetwork", spec := "fnExactIsTreeNetwork", apart := false }
def FnExactIsTreeNetworkSaid : Prop := fnExactIsTreeNetworkRow.holds Try.pinned (OpenSpec.ofChange fnExactIsTreeNetworkSpec)

/-- ITS FALSE NEIGHBOUR: 'it returns false'. Refute it at one input. -/
def fnExactIsTreeNetworkWrong : ChangeSpec := { name := "fnExactIsTreeNetwork", fn := fun _ => fun
  | [d] => { results := [.lit (.bool false)], args := [d] }
  | _ => none }
def FnExactIsTreeNetworkWrongFalsely : Prop := fnExactIsTreeNetworkRow.holds Try.pinned (OpenSpec.ofChange fnExactIsTreeNetworkWrong)

/-- 'laws.FnExactImbalanceAt': WHATEVER THE INPUT: true; the input reads as it did. -/
def fnExactImbalanceAtSpec : ChangeSpec := { name := "fnExactImbalanceAt", fn := fun _ => fun
  | [d1, d2, d3, d4, d5] => { results := [.lit (.bool true)], args := [d1, d2, d3, d4, d5] }
  | _ => none }
def fnExactImbalanceAtRow : OpenClaim := { program := "ytheaagbffphdmaa", sum := "7e5ae99f70bd1cf80dcecb623f22f761eb26fffbcf045e8c373e40a155da39f8", func := "loop.example/g00853/laws.FnExactImbalanceAt", spec := "fnExactImbalanceAt", unfollowed := true, recurses := true, apart := false }
def FnExactImbalanceAtSaid : Prop := fnExactImbalanceAtRow.holds Try.pinned (OpenSpec.ofChange fnExactImbalanceAtSpec)

/-- ITS FALSE NEIGHBOUR: 'it returns false'. Refute it at one input. -/
def fnExactImbalanceAtWrong : ChangeSpec := { name := "fnExactImbalanceAt", fn := fun _ => fun
  | [d1, d2, d3, d4, d5] => { results := [.lit (.bool false)], args := [d1, d2, d3, d4, d5] }
  | _ => none }
def FnExactImbalanceAtWrongFalsely : Prop := fnExactImbalanceAtRow.holds Try.pinned (OpenSpec.ofChange fnExactImbalanceAtWrong)

/-- 'laws.FnExactIsBalanced': WHATEVER THE INPUT: true; the input reads as it did. -/
def fnExactIsBalancedSpec : ChangeSpec := { name := "fnExactIsBalanced", fn := fun _ => fun
  | [d1, d2, d3, d4] => { results := [.lit (.bool true)], args := [d1, d2, d3, d4] }
  | _ => none }
def fnExactIsBalancedRow : OpenClaim := { program := "ytheaagbffphdmaa", sum := "7e5ae99f70bd1cf80dcecb623f22f761eb26fffbcf045e8c373e40a155da39f8", func := "loop.example/g00853/laws.FnExactIsBalanced", spec := "fnExactIsBalanced", unfollowed := true, recurses := true, apart := false }
def FnExactIsBalancedSaid : Prop := fnExactIsBalancedRow.holds Try.pinned (OpenSpec.ofChange fnExactIsBalancedSpec)

/-- ITS FALSE NEIGHBOUR: 'it returns false'. Refute it at one input. -/
def fnExactIsBalancedWrong : ChangeSpec := { name := "fnExactIsBalanced", fn := fun _ => fun
  | [d1, d2, d3, d4] => { results := [.lit (.bool false)], args := [d1, d2, d3, d4] }
  | _ => none }
def FnExactIsBalancedWrongFalsely : Prop := fnExactIsBalancedRow.holds Try.pinned (OpenSpec.ofChange fnExactIsBalancedWrong)

/-- 'laws.FnExactReversedPipe': WHATEVER THE INPUT: true; the input reads as it did. -/
def fnExactReversedPipeSpec : ChangeSpec := { name := "fnExactReversedPipe", fn := fun _ => fun
  | [d1, d2, d3] => { results := [.lit (.bool true)], args := [d1, d2, d3] }
  | _ => none }
def fnExactReversedPipeRow : OpenClaim := { program := "ytheaagbffphdmaa", sum := "7e5ae99f70bd1cf80dcecb623f22f761eb26fffbcf045e8c373e40a155da39f8", func := "loop.example/g00853/laws.FnExactReversedPipe", spec := "fnExactReversedPipe", unfollowed := true, recurses := true, apart := false }
def FnExactReversedPipeSaid : Prop := fnExactReversedPipeRow.holds Try.pinned (OpenSpec.ofChange fnExactReversedPipeSpec)

/-- ITS FALSE NEIGHBOUR: 'it returns false'. Refute it at one input. -/
def fnExactReversedPipeWrong : ChangeSpec := { name := "fnExactReversedPipe", fn := fun _ => fun
  | [d1, d2, d3] => { results := [.lit (.bool false)], args := [d1, d2, d3] }
  | _ => none }
def FnExactReversedPipeWrongFalsely : Prop := fnExactReversedPipeRow.holds Try.pinned (OpenSpec.ofChange fnExactReversedPipeWrong)

/-- 'laws.FnExactSpanningTree': WHATEVER THE INPUT: true; the input reads as it did. -/
def fnExactSpanningTreeSpec : ChangeSpec := { name := "fnExactSpanningTree", fn := fun _ => fun
  | [d] => { results := [.lit (.bool true)], args := [d] }
  | _ => none }
def fnExactSpanningTreeRow : OpenClaim := { program := "ytheaagbffphdmaa", sum := "7e5ae99f70bd1cf80dcecb623f22f761eb26fffbcf045e8c373e40a155da39f8", func := "loop.example/g00853/laws.FnExactSpanningTree", spec := "fnExactSpanningTree", apart := false }
def FnExactSpanningTreeSaid : Prop := fnExactSpanningTreeRow.holds Try.pinned (OpenSpec.ofChange fnExactSpanningTreeSpec)

/-- ITS FALSE NEIGHBOUR: 'it returns false'. Refute it at one input. -/
def fnExactSpanningTreeWrong : ChangeSpec := { name := "fnExactSpanningTree", fn := fun _ => fun
  | [d] => { results := [.lit (.bool false)], args := [d] }
  | _ => none }
def FnExactSpanningTreeWrongFalsely : Prop := fnExactSpanningTreeRow.holds Try.pinned (OpenSpec.ofChange fnExactSpanningTreeWrong)

/-- 'laws.FnExactDownstreamNodes': WHATEVER THE INPUT: true; the input reads as it did. -/
def fnExactDownstreamNodesSpec : ChangeSpec := { name := "fnExactDownstreamNodes", fn := fun _ => fun
  | [d1, d2, d3] => { results := [.lit (.bool true)], args := [d1, d2, d3] }
  | _ => none }
def fnExactDownstreamNodesRow : OpenClaim := { program := "ytheaagbffphdmaa", sum := "7e5ae99f70bd1cf80dcecb623f22f761eb26fffbcf045e8c373e40a155da39f8", func := "loop.example/g00853/laws.FnExactDownstreamNodes", spec := "fnExactDownstreamNodes", unfollowed := true, recurses := true, apart := false }
def FnExactDownstreamNodesSaid : Prop := fnExactDownstreamNodesRow.holds Try.pinned (OpenSpec.ofChange fnExactDownstreamNodesSpec)

/-- ITS FALSE NEIGHBOUR: 'it returns false'. Refute it at one input. -/
def fnExactDownstreamNodesWrong : ChangeSpec := { name := "fnExactDownstreamNodes", fn := fun _ => fun
  | [d1, d2, d3] => { results := [.lit (.bool false)], args := [d1, d2, d3] }
  | _ => none }
def FnExactDownstreamNodesWrongFalsely : Prop := fnExactDownstreamNodesRow.holds Try.pinned (OpenSpec.ofChange fnExactDownstreamNodesWrong)

/- THE SECOND FORM. 'bulk': how many values and letters a reading holds, each counted each time it is reached (what is shared counts as often as it is met; a slice's spare places count too). A statement '..UptoSaid' is the law's where the arguments, and the package variables that the reading takes, are together of bulk at most 1048576: NARROWER than '..Said'. Prove '..Said' where nothing that the law and all that it calls make is longer than what came in: it says more and counts as full. Else prove '..UptoSaid'. A law counts once. -/
mutual
def uptoBulk {H : Type} : DataW H → Nat
  | .lit (.string bytes) => bytes.length + 1
  | .lit _ => 1
  | .nil => 1
  | .ptr d => uptoBulk d + 1
  | .slice elems spare => uptoBulkAll elems + uptoBulkAll spare + 1
  | .agg parts => uptoBulkAll parts + 1
  | .iface _ d => uptoBulk d + 1
  | .map entries => uptoBulkEntries entries + 1
  | .held _ => 1
def uptoBulkAll {H : Type} : List (DataW H) → Nat
  | [] => 0
  | d :: r => uptoBulk d + uptoBulkAll r
def uptoBulkEntries {H : Type} : List (Lit × DataW H) → Nat
  | [] => 0
  | x :: r => uptoBulkEntry x + uptoBulkEntries r
def uptoBulkEntry {H : Type} : Lit × DataW H → Nat
  | (.string bytes, d) => bytes.length + uptoBulk d + 1
  | (_, d) => uptoBulk d + 1
 end
def uptoSmall : (H : Type) → List (DataW H) → Bool := fun _ ds => decide (uptoBulkAll ds ≤ 1048576)
def OpenSpec.upto (s : _root_.Go.ChangeSpec) : _root_.Go.OpenSpec := { _root_.Go.OpenSpec.ofChange s with cond := some uptoSmall }

/-- 'laws.FnExactSupplyOf', WHERE WHAT IT READS IS OF BULK AT MOST 1048576: true; the input reads as it did. -/
def fnExactSupplyOfUptoRow : OpenClaim := { program := "ytheaagbffphdmaa", sum := "7e5ae99f70bd1cf80dcecb623f22f761eb26fffbcf045e8c373e40a155da39f8", func := "loop.example/g00853/laws.FnExactSupplyOf", spec := "fnExactSupplyOf", unfollowed := true, recurses := true, apart := false, narrowed := true }
def FnExactSupplyOfUptoSaid : Prop := fnExactSupplyOfUptoRow.holds Try.pinned (OpenSpec.upto fnExactSupplyOfSpec)

/-- 'laws.FnExactLossOf', WHERE WHAT IT READS IS OF BULK AT MOST 1048576: true; the input reads as it did. -/
def fnExactLossOfUptoRow : OpenClaim := { program := "ytheaagbffphdmaa", sum := "7e5ae99f70bd1cf80dcecb623f22f761eb26fffbcf045e8c373e40a155da39f8", func := "loop.example/g00853/laws.FnExactLossOf", spec := "fnExactLossOf", unfollowed := true, recurses := true, apart := false, narrowed := true }
def FnExactLossOfUptoSaid : Prop := fnExactLossOfUptoRow.holds Try.pinned (OpenSpec.upto fnExactLossOfSpec)

/-- 'laws.FnExactHeaviestPipe', WHERE WHAT IT READS IS OF BULK AT MOST 1048576: true; the input reads as it did. -/
def fnExactHeaviestPipeUptoRow : OpenClaim := { program := "ytheaagbffphdmaa", sum := "7e5ae99f70bd1cf80dcecb623f22f761eb26fffbcf045e8c373e40a155da39f8", func := "loop.example/g00853/laws.FnExactHeaviestPipe", spec := "fnExactHeaviestPipe", unfollowed := true, recurses := true, apart := false, narrowed := true }
def FnExactHeaviestPipeUptoSaid : Prop := fnExactHeaviestPipeUptoRow.holds Try.pinned (OpenSpec.upto fnExactHeaviestPipeSpec)

/-- 'laws.FnExactEnergyOf', WHERE WHAT IT READS IS OF BULK AT MOST 1048576: true; the input reads as it did. -/
def fnExactEnergyOfUptoRow : OpenClaim := { program := "ytheaagbffphdmaa", sum := "7e5ae99f70bd1cf80dcecb623f22f761eb26fffbcf045e8c373e40a155da39f8", func := "loop.example/g00853/laws.FnExactEnergyOf", spec := "fnExactEnergyOf", unfollowed := true, recurses := true, apart := false, narrowed := true }
def FnExactEnergyOfUptoSaid : Prop := fnExactEnergyOfUptoRow.holds Try.pinned (OpenSpec.upto fnExactEnergyOfSpec)

/-- 'laws.FnExactSteepestPipe', WHERE WHAT IT READS IS OF BULK AT MOST 1048576: true; the input reads as it did. -/
def fnExactSteepestPipeUptoRow : OpenClaim := { program := "ytheaagbffphdmaa", sum := "7e5ae99f70bd1cf80dcecb623f22f761eb26fffbcf045e8c373e40a155da39f8", func := "loop.example/g00853/laws.FnExactSteepestPipe", spec := "fnExactSteepestPipe", unfollowed := true, recurses := true, apart := false, narrowed := true }
def FnExactSteepestPipeUptoSaid : Prop := fnExactSteepestPipeUptoRow.holds Try.pinned (OpenSpec.upto fnExactSteepestPipeSpec)

/-- 'laws.FnExactIsRing', WHERE WHAT IT READS IS OF BULK AT MOST 1048576: true; the input reads as it did. -/
def fnExactIsRingUptoRow : OpenClaim := { program := "ytheaagbffphdmaa", sum := "7e5ae99f70bd1cf80dcecb623f22f761eb26fffbcf045e8c373e40a155da39f8", func := "loop.example/g00853/laws.FnExactIsRing", spec := "fnExactIsRing", apart := false, narrowed := true }
def FnExactIsRingUptoSaid : Prop := fnExactIsRingUptoRow.holds Try.pinned (OpenSpec.upto fnExactIsRingSpec)

/-- 'laws.FnExactIsTreeNetwork', WHERE WHAT IT READS IS OF BULK AT MOST 1048576: true; the input reads as it did. -/
def fnExactIsTreeNetworkUptoRow : OpenClaim := { program := "ytheaagbffphdmaa", sum := "7e5ae99f70bd1cf80dcecb623f22f761eb26fffbcf045e8c373e40a155da39f8", func := "loop.example/g00853/laws.FnExactIsTreeNetwork", spec := "fnExactIsTreeNetwork", apart := false, narrowed := true }
def FnExactIsTreeNetworkUptoSaid : Prop := fnExactIsTreeNetworkUptoRow.holds Try.pinned (OpenSpec.upto fnExactIsTreeNetworkSpec)

/-- 'laws.FnExactImbalanceAt', WHERE WHAT IT READS IS OF BULK AT MOST 1048576: true; the input reads as it did. -/
def fnExactImbalanceAtUptoRow : OpenClaim := { program := "ytheaagbffphdmaa", sum := "7e5ae99f70bd1cf80dcecb623f22f761eb26fffbcf045e8c373e40a155da39f8", func := "loop.example/g00853/laws.FnExactImbalanceAt", spec := "fnExactImbalanceAt", unfollowed := true, recurses := true, apart := false, narrowed := true }
def FnExactImbalanceAtUptoSaid : Prop := fnExactImbalanceAtUptoRow.holds Try.pinned (OpenSpec.upto fnExactImbalanceAtSpec)

/-- 'laws.FnExactIsBalanced', WHERE WHAT IT READS IS OF BULK AT MOST 1048576: true; the input reads as it did. -/
def fnExactIsBalancedUptoRow : OpenClaim := { program := "ytheaagbffphdmaa", sum := "7e5ae99f70bd1cf80dcecb623f22f761eb26fffbcf045e8c373e40a155da39f8", func := "loop.example/g00853/laws.FnExactIsBalanced", spec := "fnExactIsBalanced", unfollowed := true, recurses := true, apart := false, narrowed := true }
def FnExactIsBalancedUptoSaid : Prop := fnExactIsBalancedUptoRow.holds Try.pinned (OpenSpec.upto fnExactIsBalancedSpec)

/-- 'laws.FnExactReversedPipe', WHERE WHAT IT READS IS OF BULK AT MOST 1048576: true; the input reads as it did. -/
def fnExactReversedPipeUptoRow : OpenClaim := { program := "ytheaagbffphdmaa", sum := "7e5ae99f70bd1cf80dcecb623f22f761eb26fffbcf045e8c373e40a155da39f8", func := "loop.example/g00853/laws.FnExactReversedPipe", spec := "fnExactReversedPipe", unfollowed := true, recurses := true, apart := false, narrowed := true }
def FnExactReversedPipeUptoSaid : Prop := fnExactReversedPipeUptoRow.holds Try.pinned (OpenSpec.upto fnExactReversedPipeSpec)

/-- 'laws.FnExactSpanningTree', WHERE WHAT IT READS IS OF BULK AT MOST 1048576: true; the input reads as it did. -/
def fnExactSpanningTreeUptoRow : OpenClaim := { program := "ytheaagbffphdmaa", sum := "7e5ae99f70bd1cf80dcecb623f22f761eb26fffbcf045e8c373e40a155da39f8", func := "loop.example/g00853/laws.FnExactSpanningTree", spec := "fnExactSpanningTree", apart := false, narrowed := true }
def FnExactSpanningTreeUptoSaid : Prop := fnExactSpanningTreeUptoRow.holds Try.pinned (OpenSpec.upto fnExactSpanningTreeSpec)

/-- 'laws.FnExactDownstreamNodes', WHERE WHAT IT READS IS OF BULK AT MOST 1048576: true; the input reads as it did. -/
def fnExactDownstreamNodesUptoRow : OpenClaim := { program := "ytheaagbffphdmaa", sum := "7e5ae99f70bd1cf80dcecb623f22f761eb26fffbcf045e8c373e40a155da39f8", func := "loop.example/g00853/laws.FnExactDownstreamNodes", spec := "fnExactDownstreamNodes", unfollowed := true, recurses := true, apart := false, narrowed := true }
def FnExactDownstreamNodesUptoSaid : Prop := fnExactDownstreamNodesUptoRow.holds Try.pinned (OpenSpec.upto fnExactDownstreamNodesSpec)

end Rows
end Go.Proofs.Ytheaagbffphdmaa
