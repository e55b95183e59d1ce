/-
  No cell of these rows narrows 'for every input' (looked for: loops, veiled, ifaces, maps, wideKeys, modest, calm, conditions, laid).
  DERIVED. THE GIVEN ROWS OF THIS SEAT. 5 by the template 'for every input the law returns true; each argument reads behind the call as it read before'; 0 by the template 'total and deterministic' (their statements: YtlnhikhpkcgegaaTotals.lean).
  GIVEN WITH THE SEED: the statements are not yours to turn. If you find one false, say at which input.
  Laid BY PROGRAM, IN A SANDBOX (cutbox-rows.mjs): the forced cells as the released guide's own fill.sh prints them over the translation f0c0939b7eaa839e… (all of the seat's roots in one cut). By AI agents, Wed Nov 11 2026. No macro, syntax, notation, axiom, sorry.
-/
import Derived.Test.YtlnhikhpkcgegaaChecked
import GoSem.Claim
import GoSem.ClaimJoined
import GoSem.ClaimMapViews
import Derived.JoinedTies
import Derived.KernelRfl
namespace Go.Proofs.Ytlnhikhpkcgegaa
/- THE CELL 'sum', in the pinned program and in every row, IS THE sha256 OF THE DUMP (.gsa) THAT YtlnhikhpkcgegaaProg.lean LOADS. Nothing in Lean hashes anything: it is a label: what it is worth is what the hold of that sum in a sandbox is worth. -/
noncomputable def Try.pinned : Pinned := { name := "ytlnhikhpkcgegaa", sum := "f0c0939b7eaa839e33ecd09a1894187da269d8dee7557fa49efac9cb0f0945b4", checked := Try.checked }
namespace Rows
def none {H : Type} : Left H := { results := [], args := [] }

/-- 'laws.FnTreeFlows': WHATEVER THE INPUT: true; the input reads as it did. -/
def fnTreeFlowsSpec : ChangeSpec := { name := "fnTreeFlows", fn := fun _ => fun
  | [d] => { results := [.lit (.bool true)], args := [d] }
  | _ => none }
def fnTreeFlowsRow : OpenClaim := { program := "ytlnhikhpkcgegaa", sum := "f0c0939b7eaa839e33ecd09a1894187da269d8dee7557fa49efac9cb0f0945b4", func := "loop.example/g00853/laws.FnTreeFlows", spec := "fnTreeFlows", unfollowed := true, recurses := true, apart := false }
def FnTreeFlowsSaid : Prop := fnTreeFlowsRow.holds Try.pinned (OpenSpec.ofChange fnTreeFlowsSpec)

/-- ITS FALSE NEIGHBOUR: 'it returns false'. Refute it at one input. -/
def fnTreeFlowsWrong : ChangeSpec := { name := "fnTreeFlows", fn := fun _ => fun
  | [d] => { results := [.lit (.bool false)], args := [d] }
  | _ => none }
def FnTreeFlowsWrongFalsely : Prop := fnTreeFlowsRow.holds Try.pinned (OpenSpec.ofChange fnTreeFlowsWrong)

/-- 'laws.FnPipes': WHATEVER THE INPUT: true; the input reads as it did. -/
def fnPipesSpec : ChangeSpec := { name := "fnPipes", fn := fun _ => fun
  | [d] => { results := [.lit (.bool true)], args := [d] }
  | _ => none }
def fnPipesRow : OpenClaim := { program := "ytlnhikhpkcgegaa", sum := "f0c0939b7eaa839e33ecd09a1894187da269d8dee7557fa49efac9cb0f0945b4", func := "loop.example/g00853/laws.FnPipes", spec := "fnPipes", unfollowed := true, recurses := true, apart := false }
def FnPipesSaid : Prop := fnPipesRow.holds Try.pinned (OpenSpec.ofChange fnPipesSpec)

/-- ITS FALSE NEIGHBOUR: 'it returns false'. Refute it at one input. -/
def fnPipesWrong : ChangeSpec := { name := "fnPipes", fn := fun _ => fun
  | [d] => { results := [.lit (.bool false)], args := [d] }
  | _ => none }
def FnPipesWrongFalsely : Prop := fnPipesRow.holds Try.pinned (OpenSpec.ofChange fnPipesWrong)

/-- 'laws.FnHeads': WHATEVER THE INPUT: true; the input reads as it did. -/
def fnHeadsSpec : ChangeSpec := { name := "fnHeads", fn := fun _ => fun
  | [d] => { results := [.lit (.bool true)], args := [d] }
  | _ => none }
def fnHeadsRow : OpenClaim := { program := "ytlnhikhpkcgegaa", sum := "f0c0939b7eaa839e33ecd09a1894187da269d8dee7557fa49efac9cb0f0945b4", func := "loop.example/g00853/laws.FnHeads", spec := "fnHeads", unfollowed := true, recurses := true, apart := false }
def FnHeadsSaid : Prop := fnHeadsRow.holds Try.pinned (OpenSpec.ofChange fnHeadsSpec)

/-- ITS FALSE NEIGHBOUR: 'it returns false'. Refute it at one input. -/
def fnHeadsWrong : ChangeSpec := { name := "fnHeads", fn := fun _ => fun
  | [d] => { results := [.lit (.bool false)], args := [d] }
  | _ => none }
def FnHeadsWrongFalsely : Prop := fnHeadsRow.holds Try.pinned (OpenSpec.ofChange fnHeadsWrong)

/-- 'laws.FnLosses': WHATEVER THE INPUT: true; the input reads as it did. -/
def fnLossesSpec : ChangeSpec := { name := "fnLosses", fn := fun _ => fun
  | [d] => { results := [.lit (.bool true)], args := [d] }
  | _ => none }
def fnLossesRow : OpenClaim := { program := "ytlnhikhpkcgegaa", sum := "f0c0939b7eaa839e33ecd09a1894187da269d8dee7557fa49efac9cb0f0945b4", func := "loop.example/g00853/laws.FnLosses", spec := "fnLosses", unfollowed := true, recurses := true, apart := false }
def FnLossesSaid : Prop := fnLossesRow.holds Try.pinned (OpenSpec.ofChange fnLossesSpec)

/-- ITS FALSE NEIGHBOUR: 'it returns false'. Refute it at one input. -/
def fnLossesWrong : ChangeSpec := { name := "fnLosses", fn := fun _ => fun
  | [d] => { results := [.lit (.bool false)], args := [d] }
  | _ => none }
def FnLossesWrongFalsely : Prop := fnLossesRow.holds Try.pinned (OpenSpec.ofChange fnLossesWrong)

/-- 'laws.FnRings': WHATEVER THE INPUT: true; the input reads as it did. -/
def fnRingsSpec : ChangeSpec := { name := "fnRings", fn := fun _ => fun
  | [d] => { results := [.lit (.bool true)], args := [d] }
  | _ => none }
def fnRingsRow : OpenClaim := { program := "ytlnhikhpkcgegaa", sum := "f0c0939b7eaa839e33ecd09a1894187da269d8dee7557fa49efac9cb0f0945b4", func := "loop.example/g00853/laws.FnRings", spec := "fnRings", inPlace := ["slices.overlaps[int]"], unfollowed := true, recurses := true, apart := false }
def FnRingsSaid : Prop := fnRingsRow.holds Try.pinned (OpenSpec.ofChange fnRingsSpec)

/-- ITS FALSE NEIGHBOUR: 'it returns false'. Refute it at one input. -/
def fnRingsWrong : ChangeSpec := { name := "fnRings", fn := fun _ => fun
  | [d] => { results := [.lit (.bool false)], args := [d] }
  | _ => none }
def FnRingsWrongFalsely : Prop := fnRingsRow.holds Try.pinned (OpenSpec.ofChange fnRingsWrong)

/- THE SECOND FORM. 'bulk': how many values and letters a reading holds, each counted each time it is reached (what is shared counts as often as it is met; a slice's spare places count too). A statement '..UptoSaid' is the law's where the arguments, and the package variables that the reading takes, are together of bulk at most 1048576: NARROWER than '..Said'. Prove '..Said' where nothing that the law and all that it calls make is longer than what came in: it says more and counts as full. Else prove '..UptoSaid'. A law counts once. -/
mutual
def uptoBulk {H : Type} : DataW H → Nat
  | .lit (.string bytes) => bytes.length + 1
  | .lit _ => 1
  | .nil => 1
  | .ptr d => uptoBulk d + 1
  | .slice elems spare => uptoBulkAll elems + uptoBulkAll spare + 1
  | .agg parts => uptoBulkAll parts + 1
  | .iface _ d => uptoBulk d + 1
  | .map entries => uptoBulkEntries entries + 1
  | .held _ => 1
def uptoBulkAll {H : Type} : List (DataW H) → Nat
  | [] => 0
  | d :: r => uptoBulk d + uptoBulkAll r
def uptoBulkEntries {H : Type} : List (Lit × DataW H) → Nat
  | [] => 0
  | x :: r => uptoBulkEntry x + uptoBulkEntries r
def uptoBulkEntry {H : Type} : Lit × DataW H → Nat
  | (.string bytes, d) => bytes.length + uptoBulk d + 1
  | (_, d) => uptoBulk d + 1
 end
def uptoSmall : (H : Type) → List (DataW H) → Bool := fun _ ds => decide (uptoBulkAll ds ≤ 1048576)
def OpenSpec.upto (s : _root_.Go.ChangeSpec) : _root_.Go.OpenSpec := { _root_.Go.OpenSpec.ofChange s with cond := some uptoSmall }

/-- 'laws.FnTreeFlows', WHERE WHAT IT READS IS OF BULK AT MOST 1048576: true; the input reads as it did. -/
def fnTreeFlowsUptoRow : OpenClaim := { program := "ytlnhikhpkcgegaa", sum := "f0c0939b7eaa839e33ecd09a1894187da269d8dee7557fa49efac9cb0f0945b4", func := "loop.example/g00853/laws.FnTreeFlows", spec := "fnTreeFlows", unfollowed := true, recurses := true, apart := false, narrowed := true }
def FnTreeFlowsUptoSaid : Prop := fnTreeFlowsUptoRow.holds Try.pinned (OpenSpec.upto fnTreeFlowsSpec)

/-- 'laws.FnPipes', WHERE WHAT IT READS IS OF BULK AT MOST 1048576: true; the input reads as it did. -/
def fnPipesUptoRow : OpenClaim := { program := "ytlnhikhpkcgegaa", sum := "f0c0939b7eaa839e33ecd09a1894187da269d8dee7557fa49efac9cb0f0945b4", func := "loop.example/g00853/laws.FnPipes", spec := "fnPipes", unfollowed := true, recurses := true, apart := false, narrowed := true }
def FnPipesUptoSaid : Prop := fnPipesUptoRow.holds Try.pinned (OpenSpec.upto fnPipesSpec)

/-- 'laws.FnHeads', WHERE WHAT IT READS IS OF BULK AT MOST 1048576: true; the input reads as it did. -/
def fnHeadsUptoRow : OpenClaim := { program := "ytlnhikhpkcgegaa", sum := "f0c0939b7eaa839e33ecd09a1894187da269d8dee7557fa49efac9cb0f0945b4", func := "loop.example/g00853/laws.FnHeads", spec := "fnHeads", unfollowed := true, recurses := true, apart := false, narrowed := true }
def FnHeadsUptoSaid : Prop := fnHeadsUptoRow.holds Try.pinned (OpenSpec.upto fnHeadsSpec)

/-- 'laws.FnLosses', WHERE WHAT IT READS IS OF BULK AT MOST 1048576: true; the input reads as it did. -/
def fnLossesUptoRow : OpenClaim := { program := "ytlnhikhpkcgegaa", sum := "f0c0939b7eaa839e33ecd09a1894187da269d8dee7557fa49efac9cb0f0945b4", func := "loop.example/g00853/laws.FnLosses", spec := "fnLosses", unfollowed := true, recurses := true, apart := false, narrowed := true }
def FnLossesUptoSaid : Prop := fnLossesUptoRow.holds Try.pinned (OpenSpec.upto fnLossesSpec)

/-- 'laws.FnRings', WHERE WHAT IT READS IS OF BULK AT MOST 1048576: true; the input reads as it did. -/
def fnRingsUptoRow : OpenClaim := { program := "ytlnhikhpkcgegaa", sum := "f0c0939b7eaa839e33ecd09a1894187da269d8dee7557fa49efac9cb0f0945b4", func := "loop.example/g00853/laws.FnRings", spec := "fnRings", inPlace := ["slices.overlaps[int]"], unfollowed := true, recurses := true, apart := false, narrowed := true }
def FnRingsUptoSaid : Prop := fnRingsUptoRow.holds Try.pinned (OpenSpec.upto fnRingsSpec)

end Rows
end Go.Proofs.Ytlnhikhpkcgegaa
