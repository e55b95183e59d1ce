/-
  No cell of these rows narrows 'for every input' (looked for: loops, veiled, ifaces, maps, wideKeys, modest, calm, conditions, laid).
  DERIVED. THE GIVEN ROWS OF THIS SEAT. 11 by the template 'for every input the law returns true; each argument reads behind the call as it read before'; 0 by the template 'total and deterministic' (their statements: YthhogblnndmenaaTotals.lean).
  GIVEN WITH THE SEED: the statements are not yours to turn. If you find one false, say at which input.
  Laid BY PROGRAM, IN A SANDBOX (cutbox-rows.mjs): the forced cells as the released guide's own fill.sh prints them over the translation 1797d1874d8a77d0… (all of the seat's roots in one cut). By AI agents, Wed Nov 11 2026. No macro, syntax, notation, axiom, sorry.
-/
import Derived.Test.YthhogblnndmenaaChecked
import GoSem.Claim
import GoSem.ClaimJoined
import GoSem.ClaimMapViews
import Derived.JoinedTies
import Derived.KernelRfl
namespace Go.Proofs.Ythhogblnndmenaa
/- THE CELL 'sum', in the pinned program and in every row, IS THE sha256 OF THE DUMP (.gsa) THAT YthhogblnndmenaaProg.lean LOADS. Nothing in Lean hashes anything: it is a label: what it is worth is what the hold of that sum in a sandbox is worth. -/
noncomputable def Try.pinned : Pinned := { name := "ythhogblnndmenaa", sum := "1797d1874d8a77d0a609b402db3d3f9b640928007b5c2eccc1351ae6c0e71324", checked := Try.checked }
namespace Rows
def none {H : Type} : Left H := { results := [], args := [] }

/-- 'laws.FnExactTreeFlows': WHATEVER THE INPUT: true; the input reads as it did. -/
def fnExactTreeFlowsSpec : ChangeSpec := { name := "fnExactTreeFlows", fn := fun _ => fun
  | [d1, d2, d3] => { results := [.lit (.bool true)], args := [d1, d2, d3] }
  | _ => none }
def fnExactTreeFlowsRow : OpenClaim := { program := "ythhogblnndmenaa", sum := "1797d1874d8a77d0a609b402db3d3f9b640928007b5c2eccc1351ae6c0e71324", func := "loop.example/g00853/laws.FnExactTreeFlows", spec := "fnExactTreeFlows", unfollowed := true, recurses := true, apart := false }
def FnExactTreeFlowsSaid : Prop := fnExactTreeFlowsRow.holds Try.pinned (OpenSpec.ofChange fnExactTreeFlowsSpec)

/-- ITS FALSE NEIGHBOUR: 'it returns false'. Refute it at one input. -/
def fnExactTreeFlowsWrong : ChangeSpec := { name := "fnExactTreeFlows", fn := fun _ => fun
  | [d1, d2, d3] => { results := [.lit (.bool false)], args := [d1, d2, d3] }
  | _ => none }
def FnExactTreeFlowsWrongFalsely : Prop := fnExactTreeFlowsRow.holds Try.pinned (OpenSpec.ofChange fnExactTreeFlowsWrong)

/-- 'laws.FnExactLossAlong': WHATEVER THE INPUT: true; the input reads as it did. -/
def fnExactLossAlongSpec : ChangeSpec := { name := "fnExactLossAlong", fn := fun _ => fun
  | [d1, d2, d3, d4] => { results := [.lit (.bool true)], args := [d1, d2, d3, d4] }
  | _ => none }
def fnExactLossAlongRow : OpenClaim := { program := "ythhogblnndmenaa", sum := "1797d1874d8a77d0a609b402db3d3f9b640928007b5c2eccc1351ae6c0e71324", func := "loop.example/g00853/laws.FnExactLossAlong", spec := "fnExactLossAlong", unfollowed := true, recurses := true, apart := false }
def FnExactLossAlongSaid : Prop := fnExactLossAlongRow.holds Try.pinned (OpenSpec.ofChange fnExactLossAlongSpec)

/-- ITS FALSE NEIGHBOUR: 'it returns false'. Refute it at one input. -/
def fnExactLossAlongWrong : ChangeSpec := { name := "fnExactLossAlong", fn := fun _ => fun
  | [d1, d2, d3, d4] => { results := [.lit (.bool false)], args := [d1, d2, d3, d4] }
  | _ => none }
def FnExactLossAlongWrongFalsely : Prop := fnExactLossAlongRow.holds Try.pinned (OpenSpec.ofChange fnExactLossAlongWrong)

/-- 'laws.FnExactLoopOf': WHATEVER THE INPUT: true; the input reads as it did. -/
def fnExactLoopOfSpec : ChangeSpec := { name := "fnExactLoopOf", fn := fun _ => fun
  | [d] => { results := [.lit (.bool true)], args := [d] }
  | _ => none }
def fnExactLoopOfRow : OpenClaim := { program := "ythhogblnndmenaa", sum := "1797d1874d8a77d0a609b402db3d3f9b640928007b5c2eccc1351ae6c0e71324", func := "loop.example/g00853/laws.FnExactLoopOf", spec := "fnExactLoopOf", apart := false }
def FnExactLoopOfSaid : Prop := fnExactLoopOfRow.holds Try.pinned (OpenSpec.ofChange fnExactLoopOfSpec)

/-- ITS FALSE NEIGHBOUR: 'it returns false'. Refute it at one input. -/
def fnExactLoopOfWrong : ChangeSpec := { name := "fnExactLoopOf", fn := fun _ => fun
  | [d] => { results := [.lit (.bool false)], args := [d] }
  | _ => none }
def FnExactLoopOfWrongFalsely : Prop := fnExactLoopOfRow.holds Try.pinned (OpenSpec.ofChange fnExactLoopOfWrong)

/-- 'laws.FnExactLoopLoss': WHATEVER THE INPUT: true; the input reads as it did. -/
def fnExactLoopLossSpec : ChangeSpec := { name := "fnExactLoopLoss", fn := fun _ => fun
  | [d1, d2] => { results := [.lit (.bool true)], args := [d1, d2] }
  | _ => none }
def fnExactLoopLossRow : OpenClaim := { program := "ythhogblnndmenaa", sum := "1797d1874d8a77d0a609b402db3d3f9b640928007b5c2eccc1351ae6c0e71324", func := "loop.example/g00853/laws.FnExactLoopLoss", spec := "fnExactLoopLoss", unfollowed := true, recurses := true, apart := false }
def FnExactLoopLossSaid : Prop := fnExactLoopLossRow.holds Try.pinned (OpenSpec.ofChange fnExactLoopLossSpec)

/-- ITS FALSE NEIGHBOUR: 'it returns false'. Refute it at one input. -/
def fnExactLoopLossWrong : ChangeSpec := { name := "fnExactLoopLoss", fn := fun _ => fun
  | [d1, d2] => { results := [.lit (.bool false)], args := [d1, d2] }
  | _ => none }
def FnExactLoopLossWrongFalsely : Prop := fnExactLoopLossRow.holds Try.pinned (OpenSpec.ofChange fnExactLoopLossWrong)

/-- 'laws.FnExactOpenedRing': WHATEVER THE INPUT: true; the input reads as it did. -/
def fnExactOpenedRingSpec : ChangeSpec := { name := "fnExactOpenedRing", fn := fun _ => fun
  | [d1, d2] => { results := [.lit (.bool true)], args := [d1, d2] }
  | _ => none }
def fnExactOpenedRingRow : OpenClaim := { program := "ythhogblnndmenaa", sum := "1797d1874d8a77d0a609b402db3d3f9b640928007b5c2eccc1351ae6c0e71324", func := "loop.example/g00853/laws.FnExactOpenedRing", spec := "fnExactOpenedRing", unfollowed := true, recurses := true, apart := false }
def FnExactOpenedRingSaid : Prop := fnExactOpenedRingRow.holds Try.pinned (OpenSpec.ofChange fnExactOpenedRingSpec)

/-- ITS FALSE NEIGHBOUR: 'it returns false'. Refute it at one input. -/
def fnExactOpenedRingWrong : ChangeSpec := { name := "fnExactOpenedRing", fn := fun _ => fun
  | [d1, d2] => { results := [.lit (.bool false)], args := [d1, d2] }
  | _ => none }
def FnExactOpenedRingWrongFalsely : Prop := fnExactOpenedRingRow.holds Try.pinned (OpenSpec.ofChange fnExactOpenedRingWrong)

/-- 'laws.FnExactTurnFlows': WHATEVER THE INPUT: true; the input reads as it did. -/
def fnExactTurnFlowsSpec : ChangeSpec := { name := "fnExactTurnFlows", fn := fun _ => fun
  | [d1, d2, d3] => { results := [.lit (.bool true)], args := [d1, d2, d3] }
  | _ => none }
def fnExactTurnFlowsRow : OpenClaim := { program := "ythhogblnndmenaa", sum := "1797d1874d8a77d0a609b402db3d3f9b640928007b5c2eccc1351ae6c0e71324", func := "loop.example/g00853/laws.FnExactTurnFlows", spec := "fnExactTurnFlows", unfollowed := true, recurses := true, apart := false }
def FnExactTurnFlowsSaid : Prop := fnExactTurnFlowsRow.holds Try.pinned (OpenSpec.ofChange fnExactTurnFlowsSpec)

/-- ITS FALSE NEIGHBOUR: 'it returns false'. Refute it at one input. -/
def fnExactTurnFlowsWrong : ChangeSpec := { name := "fnExactTurnFlows", fn := fun _ => fun
  | [d1, d2, d3] => { results := [.lit (.bool false)], args := [d1, d2, d3] }
  | _ => none }
def FnExactTurnFlowsWrongFalsely : Prop := fnExactTurnFlowsRow.holds Try.pinned (OpenSpec.ofChange fnExactTurnFlowsWrong)

/-- 'laws.FnExactHeadsOf': WHATEVER THE INPUT: true; the input reads as it did. -/
def fnExactHeadsOfSpec : ChangeSpec := { name := "fnExactHeadsOf", fn := fun _ => fun
  | [d1, d2, d3, d4] => { results := [.lit (.bool true)], args := [d1, d2, d3, d4] }
  | _ => none }
def fnExactHeadsOfRow : OpenClaim := { program := "ythhogblnndmenaa", sum := "1797d1874d8a77d0a609b402db3d3f9b640928007b5c2eccc1351ae6c0e71324", func := "loop.example/g00853/laws.FnExactHeadsOf", spec := "fnExactHeadsOf", unfollowed := true, recurses := true, apart := false }
def FnExactHeadsOfSaid : Prop := fnExactHeadsOfRow.holds Try.pinned (OpenSpec.ofChange fnExactHeadsOfSpec)

/-- ITS FALSE NEIGHBOUR: 'it returns false'. Refute it at one input. -/
def fnExactHeadsOfWrong : ChangeSpec := { name := "fnExactHeadsOf", fn := fun _ => fun
  | [d1, d2, d3, d4] => { results := [.lit (.bool false)], args := [d1, d2, d3, d4] }
  | _ => none }
def FnExactHeadsOfWrongFalsely : Prop := fnExactHeadsOfRow.holds Try.pinned (OpenSpec.ofChange fnExactHeadsOfWrong)

/-- 'laws.FnExactHeadNeeded': WHATEVER THE INPUT: true; the input reads as it did. -/
def fnExactHeadNeededSpec : ChangeSpec := { name := "fnExactHeadNeeded", fn := fun _ => fun
  | [d1, d2, d3, d4, d5] => { results := [.lit (.bool true)], args := [d1, d2, d3, d4, d5] }
  | _ => none }
def fnExactHeadNeededRow : OpenClaim := { program := "ythhogblnndmenaa", sum := "1797d1874d8a77d0a609b402db3d3f9b640928007b5c2eccc1351ae6c0e71324", func := "loop.example/g00853/laws.FnExactHeadNeeded", spec := "fnExactHeadNeeded", unfollowed := true, recurses := true, apart := false }
def FnExactHeadNeededSaid : Prop := fnExactHeadNeededRow.holds Try.pinned (OpenSpec.ofChange fnExactHeadNeededSpec)

/-- ITS FALSE NEIGHBOUR: 'it returns false'. Refute it at one input. -/
def fnExactHeadNeededWrong : ChangeSpec := { name := "fnExactHeadNeeded", fn := fun _ => fun
  | [d1, d2, d3, d4, d5] => { results := [.lit (.bool false)], args := [d1, d2, d3, d4, d5] }
  | _ => none }
def FnExactHeadNeededWrongFalsely : Prop := fnExactHeadNeededRow.holds Try.pinned (OpenSpec.ofChange fnExactHeadNeededWrong)

/-- 'laws.FnExactPressuresOf': WHATEVER THE INPUT: true; the input reads as it did. -/
def fnExactPressuresOfSpec : ChangeSpec := { name := "fnExactPressuresOf", fn := fun _ => fun
  | [d1, d2, d3, d4, d5] => { results := [.lit (.bool true)], args := [d1, d2, d3, d4, d5] }
  | _ => none }
def fnExactPressuresOfRow : OpenClaim := { program := "ythhogblnndmenaa", sum := "1797d1874d8a77d0a609b402db3d3f9b640928007b5c2eccc1351ae6c0e71324", func := "loop.example/g00853/laws.FnExactPressuresOf", spec := "fnExactPressuresOf", unfollowed := true, recurses := true, apart := false }
def FnExactPressuresOfSaid : Prop := fnExactPressuresOfRow.holds Try.pinned (OpenSpec.ofChange fnExactPressuresOfSpec)

/-- ITS FALSE NEIGHBOUR: 'it returns false'. Refute it at one input. -/
def fnExactPressuresOfWrong : ChangeSpec := { name := "fnExactPressuresOf", fn := fun _ => fun
  | [d1, d2, d3, d4, d5] => { results := [.lit (.bool false)], args := [d1, d2, d3, d4, d5] }
  | _ => none }
def FnExactPressuresOfWrongFalsely : Prop := fnExactPressuresOfRow.holds Try.pinned (OpenSpec.ofChange fnExactPressuresOfWrong)

/-- 'laws.FnExactWeakNodes': WHATEVER THE INPUT: true; the input reads as it did. -/
def fnExactWeakNodesSpec : ChangeSpec := { name := "fnExactWeakNodes", fn := fun _ => fun
  | [d1, d2, d3, d4, d5, d6] => { results := [.lit (.bool true)], args := [d1, d2, d3, d4, d5, d6] }
  | _ => none }
def fnExactWeakNodesRow : OpenClaim := { program := "ythhogblnndmenaa", sum := "1797d1874d8a77d0a609b402db3d3f9b640928007b5c2eccc1351ae6c0e71324", func := "loop.example/g00853/laws.FnExactWeakNodes", spec := "fnExactWeakNodes", unfollowed := true, recurses := true, apart := false }
def FnExactWeakNodesSaid : Prop := fnExactWeakNodesRow.holds Try.pinned (OpenSpec.ofChange fnExactWeakNodesSpec)

/-- ITS FALSE NEIGHBOUR: 'it returns false'. Refute it at one input. -/
def fnExactWeakNodesWrong : ChangeSpec := { name := "fnExactWeakNodes", fn := fun _ => fun
  | [d1, d2, d3, d4, d5, d6] => { results := [.lit (.bool false)], args := [d1, d2, d3, d4, d5, d6] }
  | _ => none }
def FnExactWeakNodesWrongFalsely : Prop := fnExactWeakNodesRow.holds Try.pinned (OpenSpec.ofChange fnExactWeakNodesWrong)

/-- 'laws.FnExactRingFlows': WHATEVER THE INPUT: true; the input reads as it did. -/
def fnExactRingFlowsSpec : ChangeSpec := { name := "fnExactRingFlows", fn := fun _ => fun
  | [d1, d2, d3] => { results := [.lit (.bool true)], args := [d1, d2, d3] }
  | _ => none }
def fnExactRingFlowsRow : OpenClaim := { program := "ythhogblnndmenaa", sum := "1797d1874d8a77d0a609b402db3d3f9b640928007b5c2eccc1351ae6c0e71324", func := "loop.example/g00853/laws.FnExactRingFlows", spec := "fnExactRingFlows", inPlace := ["slices.overlaps[int]"], unfollowed := true, recurses := true, apart := false }
def FnExactRingFlowsSaid : Prop := fnExactRingFlowsRow.holds Try.pinned (OpenSpec.ofChange fnExactRingFlowsSpec)

/-- ITS FALSE NEIGHBOUR: 'it returns false'. Refute it at one input. -/
def fnExactRingFlowsWrong : ChangeSpec := { name := "fnExactRingFlows", fn := fun _ => fun
  | [d1, d2, d3] => { results := [.lit (.bool false)], args := [d1, d2, d3] }
  | _ => none }
def FnExactRingFlowsWrongFalsely : Prop := fnExactRingFlowsRow.holds Try.pinned (OpenSpec.ofChange fnExactRingFlowsWrong)

/- THE SECOND FORM. 'bulk': how many values and letters a reading holds, each counted each time it is reached (what is shared counts as often as it is met; a slice's spare places count too). A statement '..UptoSaid' is the law's where the arguments, and the package variables that the reading takes, are together of bulk at most 1048576: NARROWER than '..Said'. Prove '..Said' where nothing that the law and all that it calls make is longer than what came in: it says more and counts as full. Else prove '..UptoSaid'. A law counts once. -/
mutual
def uptoBulk {H : Type} : DataW H → Nat
  | .lit (.string bytes) => bytes.length + 1
  | .lit _ => 1
  | .nil => 1
  | .ptr d => uptoBulk d + 1
  | .slice elems spare => uptoBulkAll elems + uptoBulkAll spare + 1
  | .agg parts => uptoBulkAll parts + 1
  | .iface _ d => uptoBulk d + 1
  | .map entries => uptoBulkEntries entries + 1
  | .held _ => 1
def uptoBulkAll {H : Type} : List (DataW H) → Nat
  | [] => 0
  | d :: r => uptoBulk d + uptoBulkAll r
def uptoBulkEntries {H : Type} : List (Lit × DataW H) → Nat
  | [] => 0
  | x :: r => uptoBulkEntry x + uptoBulkEntries r
def uptoBulkEntry {H : Type} : Lit × DataW H → Nat
  | (.string bytes, d) => bytes.length + uptoBulk d + 1
  | (_, d) => uptoBulk d + 1
 end
def uptoSmall : (H : Type) → List (DataW H) → Bool := fun _ ds => decide (uptoBulkAll ds ≤ 1048576)
def OpenSpec.upto (s : _root_.Go.ChangeSpec) : _root_.Go.OpenSpec := { _root_.Go.OpenSpec.ofChange s with cond := some uptoSmall }

/-- 'laws.FnExactTreeFlows', WHERE WHAT IT READS IS OF BULK AT MOST 1048576: true; the input reads as it did. -/
def fnExactTreeFlowsUptoRow : OpenClaim := { program := "ythhogblnndmenaa", sum := "1797d1874d8a77d0a609b402db3d3f9b640928007b5c2eccc1351ae6c0e71324", func := "loop.example/g00853/laws.FnExactTreeFlows", spec := "fnExactTreeFlows", unfollowed := true, recurses := true, apart := false, narrowed := true }
def FnExactTreeFlowsUptoSaid : Prop := fnExactTreeFlowsUptoRow.holds Try.pinned (OpenSpec.upto fnExactTreeFlowsSpec)

/-- 'laws.FnExactLossAlong', WHERE WHAT IT READS IS OF BULK AT MOST 1048576: true; the input reads as it did. -/
def fnExactLossAlongUptoRow : OpenClaim := { program := "ythhogblnndmenaa", sum := "1797d1874d8a77d0a609b402db3d3f9b640928007b5c2eccc1351ae6c0e71324", func := "loop.example/g00853/laws.FnExactLossAlong", spec := "fnExactLossAlong", unfollowed := true, recurses := true, apart := false, narrowed := true }
def FnExactLossAlongUptoSaid : Prop := fnExactLossAlongUptoRow.holds Try.pinned (OpenSpec.upto fnExactLossAlongSpec)

/-- 'laws.FnExactLoopOf', WHERE WHAT IT READS IS OF BULK AT MOST 1048576: true; the input reads as it did. -/
def fnExactLoopOfUptoRow : OpenClaim := { program := "ythhogblnndmenaa", sum := "1797d1874d8a77d0a609b402db3d3f9b640928007b5c2eccc1351ae6c0e71324", func := "loop.example/g00853/laws.FnExactLoopOf", spec := "fnExactLoopOf", apart := false, narrowed := true }
def FnExactLoopOfUptoSaid : Prop := fnExactLoopOfUptoRow.holds Try.pinned (OpenSpec.upto fnExactLoopOfSpec)

/-- 'laws.FnExactLoopLoss', WHERE WHAT IT READS IS OF BULK AT MOST 1048576: true; the input reads as it did. -/
def fnExactLoopLossUptoRow : OpenClaim := { program := "ythhogblnndmenaa", sum := "1797d1874d8a77d0a609b402db3d3f9b640928007b5c2eccc1351ae6c0e71324", func := "loop.example/g00853/laws.FnExactLoopLoss", spec := "fnExactLoopLoss", unfollowed := true, recurses := true, apart := false, narrowed := true }
def FnExactLoopLossUptoSaid : Prop := fnExactLoopLossUptoRow.holds Try.pinned (OpenSpec.upto fnExactLoopLossSpec)

/-- 'laws.FnExactOpenedRing', WHERE WHAT IT READS IS OF BULK AT MOST 1048576: true; the input reads as it did. -/
def fnExactOpenedRingUptoRow : OpenClaim := { program := "ythhogblnndmenaa", sum := "1797d1874d8a77d0a609b402db3d3f9b640928007b5c2eccc1351ae6c0e71324", func := "loop.example/g00853/laws.FnExactOpenedRing", spec := "fnExactOpenedRing", unfollowed := true, recurses := true, apart := false, narrowed := true }
def FnExactOpenedRingUptoSaid : Prop := fnExactOpenedRingUptoRow.holds Try.pinned (OpenSpec.upto fnExactOpenedRingSpec)

/-- 'laws.FnExactTurnFlows', WHERE WHAT IT READS IS OF BULK AT MOST 1048576: true; the input reads as it did. -/
def fnExactTurnFlowsUptoRow : OpenClaim := { program := "ythhogblnndmenaa", sum := "1797d1874d8a77d0a609b402db3d3f9b640928007b5c2eccc1351ae6c0e71324", func := "loop.example/g00853/laws.FnExactTurnFlows", spec := "fnExactTurnFlows", unfollowed := true, recurses := true, apart := false, narrowed := true }
def FnExactTurnFlowsUptoSaid : Prop := fnExactTurnFlowsUptoRow.holds Try.pinned (OpenSpec.upto fnExactTurnFlowsSpec)

/-- 'laws.FnExactHeadsOf', WHERE WHAT IT READS IS OF BULK AT MOST 1048576: true; the input reads as it did. -/
def fnExactHeadsOfUptoRow : OpenClaim := { program := "ythhogblnndmenaa", sum := "1797d1874d8a77d0a609b402db3d3f9b640928007b5c2eccc1351ae6c0e71324", func := "loop.example/g00853/laws.FnExactHeadsOf", spec := "fnExactHeadsOf", unfollowed := true, recurses := true, apart := false, narrowed := true }
def FnExactHeadsOfUptoSaid : Prop := fnExactHeadsOfUptoRow.holds Try.pinned (OpenSpec.upto fnExactHeadsOfSpec)

/-- 'laws.FnExactHeadNeeded', WHERE WHAT IT READS IS OF BULK AT MOST 1048576: true; the input reads as it did. -/
def fnExactHeadNeededUptoRow : OpenClaim := { program := "ythhogblnndmenaa", sum := "1797d1874d8a77d0a609b402db3d3f9b640928007b5c2eccc1351ae6c0e71324", func := "loop.example/g00853/laws.FnExactHeadNeeded", spec := "fnExactHeadNeeded", unfollowed := true, recurses := true, apart := false, narrowed := true }
def FnExactHeadNeededUptoSaid : Prop := fnExactHeadNeededUptoRow.holds Try.pinned (OpenSpec.upto fnExactHeadNeededSpec)

/-- 'laws.FnExactPressuresOf', WHERE WHAT IT READS IS OF BULK AT MOST 1048576: true; the input reads as it did. -/
def fnExactPressuresOfUptoRow : OpenClaim := { program := "ythhogblnndmenaa", sum := "1797d1874d8a77d0a609b402db3d3f9b640928007b5c2eccc1351ae6c0e71324", func := "loop.example/g00853/laws.FnExactPressuresOf", spec := "fnExactPressuresOf", unfollowed := true, recurses := true, apart := false, narrowed := true }
def FnExactPressuresOfUptoSaid : Prop := fnExactPressuresOfUptoRow.holds Try.pinned (OpenSpec.upto fnExactPressuresOfSpec)

/-- 'laws.FnExactWeakNodes', WHERE WHAT IT READS IS OF BULK AT MOST 1048576: true; the input reads as it did. -/
def fnExactWeakNodesUptoRow : OpenClaim := { program := "ythhogblnndmenaa", sum := "1797d1874d8a77d0a609b402db3d3f9b640928007b5c2eccc1351ae6c0e71324", func := "loop.example/g00853/laws.FnExactWeakNodes", spec := "fnExactWeakNodes", unfollowed := true, recurses := true, apart := false, narrowed := true }
def FnExactWeakNodesUptoSaid : Prop := fnExactWeakNodesUptoRow.holds Try.pinned (OpenSpec.upto fnExactWeakNodesSpec)

/-- 'laws.FnExactRingFlows', WHERE WHAT IT READS IS OF BULK AT MOST 1048576: true; the input reads as it did. -/
def fnExactRingFlowsUptoRow : OpenClaim := { program := "ythhogblnndmenaa", sum := "1797d1874d8a77d0a609b402db3d3f9b640928007b5c2eccc1351ae6c0e71324", func := "loop.example/g00853/laws.FnExactRingFlows", spec := "fnExactRingFlows", inPlace := ["slices.overlaps[int]"], unfollowed := true, recurses := true, apart := false, narrowed := true }
def FnExactRingFlowsUptoSaid : Prop := fnExactRingFlowsUptoRow.holds Try.pinned (OpenSpec.upto fnExactRingFlowsSpec)

end Rows
end Go.Proofs.Ythhogblnndmenaa
