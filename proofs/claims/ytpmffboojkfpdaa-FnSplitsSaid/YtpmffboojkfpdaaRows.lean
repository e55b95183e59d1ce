/-
  No cell of these rows narrows 'for every input' (looked for: loops, veiled, ifaces, maps, wideKeys, modest, calm, conditions, laid).
  DERIVED. THE GIVEN ROWS OF THIS SEAT. 10 by the template 'for every input the law returns true; each argument reads behind the call as it read before'; 0 by the template 'total and deterministic' (their statements: YtpmffboojkfpdaaTotals.lean).
  GIVEN WITH THE SEED: the statements are not yours to turn. If you find one false, say at which input.
  Laid BY PROGRAM, IN A SANDBOX (cutbox-rows.mjs): the forced cells as the released guide's own fill.sh prints them over the translation 229e1b470f1a2ca9… (all of the seat's roots in one cut). By AI agents, Wed Nov 11 2026. No macro, syntax, notation, axiom, sorry.
-/
import Derived.Test.YtpmffboojkfpdaaChecked
import GoSem.Claim
import GoSem.ClaimJoined
import GoSem.ClaimMapViews
import Derived.JoinedTies
import Derived.KernelRfl
namespace Go.Proofs.Ytpmffboojkfpdaa
/- THE CELL 'sum', in the pinned program and in every row, IS THE sha256 OF THE DUMP (.gsa) THAT YtpmffboojkfpdaaProg.lean LOADS. Nothing in Lean hashes anything: it is a label: what it is worth is what the hold of that sum in a sandbox is worth. -/
noncomputable def Try.pinned : Pinned := { name := "ytpmffboojkfpdaa", sum := "229e1b470f1a2ca90e91521c31e53b46b440c2f79df32342920cc5c3275a354e", checked := Try.checked }
namespace Rows
def none {H : Type} : Left H := { results := [], args := [] }

/-- 'laws.FnExactShiftProfile': WHATEVER THE INPUT: true; the input reads as it did. -/
def fnExactShiftProfileSpec : ChangeSpec := { name := "fnExactShiftProfile", fn := fun _ => fun
  | [d1, d2] => { results := [.lit (.bool true)], args := [d1, d2] }
  | _ => none }
def fnExactShiftProfileRow : OpenClaim := { program := "ytpmffboojkfpdaa", sum := "229e1b470f1a2ca90e91521c31e53b46b440c2f79df32342920cc5c3275a354e", func := "loop.example/g00853/laws.FnExactShiftProfile", spec := "fnExactShiftProfile", unfollowed := true, recurses := true, apart := false }
def FnExactShiftProfileSaid : Prop := fnExactShiftProfileRow.holds Try.pinned (OpenSpec.ofChange fnExactShiftProfileSpec)

/-- ITS FALSE NEIGHBOUR: 'it returns false'. Refute it at one input. -/
def fnExactShiftProfileWrong : ChangeSpec := { name := "fnExactShiftProfile", fn := fun _ => fun
  | [d1, d2] => { results := [.lit (.bool false)], args := [d1, d2] }
  | _ => none }
def FnExactShiftProfileWrongFalsely : Prop := fnExactShiftProfileRow.holds Try.pinned (OpenSpec.ofChange fnExactShiftProfileWrong)

/-- 'laws.FnExactUseAt': WHATEVER THE INPUT: true; the input reads as it did. -/
def fnExactUseAtSpec : ChangeSpec := { name := "fnExactUseAt", fn := fun _ => fun
  | [d1, d2, d3] => { results := [.lit (.bool true)], args := [d1, d2, d3] }
  | _ => none }
def fnExactUseAtRow : OpenClaim := { program := "ytpmffboojkfpdaa", sum := "229e1b470f1a2ca90e91521c31e53b46b440c2f79df32342920cc5c3275a354e", func := "loop.example/g00853/laws.FnExactUseAt", spec := "fnExactUseAt", unfollowed := true, recurses := true, apart := false }
def FnExactUseAtSaid : Prop := fnExactUseAtRow.holds Try.pinned (OpenSpec.ofChange fnExactUseAtSpec)

/-- ITS FALSE NEIGHBOUR: 'it returns false'. Refute it at one input. -/
def fnExactUseAtWrong : ChangeSpec := { name := "fnExactUseAt", fn := fun _ => fun
  | [d1, d2, d3] => { results := [.lit (.bool false)], args := [d1, d2, d3] }
  | _ => none }
def FnExactUseAtWrongFalsely : Prop := fnExactUseAtRow.holds Try.pinned (OpenSpec.ofChange fnExactUseAtWrong)

/-- 'laws.FnExactVolumeBetween': WHATEVER THE INPUT: true; the input reads as it did. -/
def fnExactVolumeBetweenSpec : ChangeSpec := { name := "fnExactVolumeBetween", fn := fun _ => fun
  | [d1, d2, d3, d4] => { results := [.lit (.bool true)], args := [d1, d2, d3, d4] }
  | _ => none }
def fnExactVolumeBetweenRow : OpenClaim := { program := "ytpmffboojkfpdaa", sum := "229e1b470f1a2ca90e91521c31e53b46b440c2f79df32342920cc5c3275a354e", func := "loop.example/g00853/laws.FnExactVolumeBetween", spec := "fnExactVolumeBetween", unfollowed := true, recurses := true, apart := false }
def FnExactVolumeBetweenSaid : Prop := fnExactVolumeBetweenRow.holds Try.pinned (OpenSpec.ofChange fnExactVolumeBetweenSpec)

/-- ITS FALSE NEIGHBOUR: 'it returns false'. Refute it at one input. -/
def fnExactVolumeBetweenWrong : ChangeSpec := { name := "fnExactVolumeBetween", fn := fun _ => fun
  | [d1, d2, d3, d4] => { results := [.lit (.bool false)], args := [d1, d2, d3, d4] }
  | _ => none }
def FnExactVolumeBetweenWrongFalsely : Prop := fnExactVolumeBetweenRow.holds Try.pinned (OpenSpec.ofChange fnExactVolumeBetweenWrong)

/-- 'laws.FnExactStorageFor': WHATEVER THE INPUT: true; the input reads as it did. -/
def fnExactStorageForSpec : ChangeSpec := { name := "fnExactStorageFor", fn := fun _ => fun
  | [d1, d2] => { results := [.lit (.bool true)], args := [d1, d2] }
  | _ => none }
def fnExactStorageForRow : OpenClaim := { program := "ytpmffboojkfpdaa", sum := "229e1b470f1a2ca90e91521c31e53b46b440c2f79df32342920cc5c3275a354e", func := "loop.example/g00853/laws.FnExactStorageFor", spec := "fnExactStorageFor", unfollowed := true, recurses := true, apart := false }
def FnExactStorageForSaid : Prop := fnExactStorageForRow.holds Try.pinned (OpenSpec.ofChange fnExactStorageForSpec)

/-- ITS FALSE NEIGHBOUR: 'it returns false'. Refute it at one input. -/
def fnExactStorageForWrong : ChangeSpec := { name := "fnExactStorageFor", fn := fun _ => fun
  | [d1, d2] => { results := [.lit (.bool false)], args := [d1, d2] }
  | _ => none }
def FnExactStorageForWrongFalsely : Prop := fnExactStorageForRow.holds Try.pinned (OpenSpec.ofChange fnExactStorageForWrong)

/-- 'laws.FnExactFlattenProfile': WHATEVER THE INPUT: true; the input reads as it did. -/
def fnExactFlattenProfileSpec : ChangeSpec := { name := "fnExactFlattenProfile", fn := fun _ => fun
  | [d1, d2] => { results := [.lit (.bool true)], args := [d1, d2] }
  | _ => none }
def fnExactFlattenProfileRow : OpenClaim := { program := "ytpmffboojkfpdaa", sum := "229e1b470f1a2ca90e91521c31e53b46b440c2f79df32342920cc5c3275a354e", func := "loop.example/g00853/laws.FnExactFlattenProfile", spec := "fnExactFlattenProfile", unfollowed := true, recurses := true, apart := false }
def FnExactFlattenProfileSaid : Prop := fnExactFlattenProfileRow.holds Try.pinned (OpenSpec.ofChange fnExactFlattenProfileSpec)

/-- ITS FALSE NEIGHBOUR: 'it returns false'. Refute it at one input. -/
def fnExactFlattenProfileWrong : ChangeSpec := { name := "fnExactFlattenProfile", fn := fun _ => fun
  | [d1, d2] => { results := [.lit (.bool false)], args := [d1, d2] }
  | _ => none }
def FnExactFlattenProfileWrongFalsely : Prop := fnExactFlattenProfileRow.holds Try.pinned (OpenSpec.ofChange fnExactFlattenProfileWrong)

/-- 'laws.FnProfiles': WHATEVER THE INPUT: true; the input reads as it did. -/
def fnProfilesSpec : ChangeSpec := { name := "fnProfiles", fn := fun _ => fun
  | [d] => { results := [.lit (.bool true)], args := [d] }
  | _ => none }
def fnProfilesRow : OpenClaim := { program := "ytpmffboojkfpdaa", sum := "229e1b470f1a2ca90e91521c31e53b46b440c2f79df32342920cc5c3275a354e", func := "loop.example/g00853/laws.FnProfiles", spec := "fnProfiles", unfollowed := true, recurses := true, apart := false }
def FnProfilesSaid : Prop := fnProfilesRow.holds Try.pinned (OpenSpec.ofChange fnProfilesSpec)

/-- ITS FALSE NEIGHBOUR: 'it returns false'. Refute it at one input. -/
def fnProfilesWrong : ChangeSpec := { name := "fnProfiles", fn := fun _ => fun
  | [d] => { results := [.lit (.bool false)], args := [d] }
  | _ => none }
def FnProfilesWrongFalsely : Prop := fnProfilesRow.holds Try.pinned (OpenSpec.ofChange fnProfilesWrong)

/-- 'laws.FnUses': WHATEVER THE INPUT: true; the input reads as it did. -/
def fnUsesSpec : ChangeSpec := { name := "fnUses", fn := fun _ => fun
  | [d] => { results := [.lit (.bool true)], args := [d] }
  | _ => none }
def fnUsesRow : OpenClaim := { program := "ytpmffboojkfpdaa", sum := "229e1b470f1a2ca90e91521c31e53b46b440c2f79df32342920cc5c3275a354e", func := "loop.example/g00853/laws.FnUses", spec := "fnUses", unfollowed := true, recurses := true, apart := false }
def FnUsesSaid : Prop := fnUsesRow.holds Try.pinned (OpenSpec.ofChange fnUsesSpec)

/-- ITS FALSE NEIGHBOUR: 'it returns false'. Refute it at one input. -/
def fnUsesWrong : ChangeSpec := { name := "fnUses", fn := fun _ => fun
  | [d] => { results := [.lit (.bool false)], args := [d] }
  | _ => none }
def FnUsesWrongFalsely : Prop := fnUsesRow.holds Try.pinned (OpenSpec.ofChange fnUsesWrong)

/-- 'laws.FnExactSplitEnergy': WHATEVER THE INPUT: true; the input reads as it did. -/
def fnExactSplitEnergySpec : ChangeSpec := { name := "fnExactSplitEnergy", fn := fun _ => fun
  | [d1, d2] => { results := [.lit (.bool true)], args := [d1, d2] }
  | _ => none }
def fnExactSplitEnergyRow : OpenClaim := { program := "ytpmffboojkfpdaa", sum := "229e1b470f1a2ca90e91521c31e53b46b440c2f79df32342920cc5c3275a354e", func := "loop.example/g00853/laws.FnExactSplitEnergy", spec := "fnExactSplitEnergy", unfollowed := true, recurses := true, apart := false }
def FnExactSplitEnergySaid : Prop := fnExactSplitEnergyRow.holds Try.pinned (OpenSpec.ofChange fnExactSplitEnergySpec)

/-- ITS FALSE NEIGHBOUR: 'it returns false'. Refute it at one input. -/
def fnExactSplitEnergyWrong : ChangeSpec := { name := "fnExactSplitEnergy", fn := fun _ => fun
  | [d1, d2] => { results := [.lit (.bool false)], args := [d1, d2] }
  | _ => none }
def FnExactSplitEnergyWrongFalsely : Prop := fnExactSplitEnergyRow.holds Try.pinned (OpenSpec.ofChange fnExactSplitEnergyWrong)

/-- 'laws.FnExactSplitFlow': WHATEVER THE INPUT: true; the input reads as it did. -/
def fnExactSplitFlowSpec : ChangeSpec := { name := "fnExactSplitFlow", fn := fun _ => fun
  | [d1, d2] => { results := [.lit (.bool true)], args := [d1, d2] }
  | _ => none }
def fnExactSplitFlowRow : OpenClaim := { program := "ytpmffboojkfpdaa", sum := "229e1b470f1a2ca90e91521c31e53b46b440c2f79df32342920cc5c3275a354e", func := "loop.example/g00853/laws.FnExactSplitFlow", spec := "fnExactSplitFlow", unfollowed := true, recurses := true, apart := false }
def FnExactSplitFlowSaid : Prop := fnExactSplitFlowRow.holds Try.pinned (OpenSpec.ofChange fnExactSplitFlowSpec)

/-- ITS FALSE NEIGHBOUR: 'it returns false'. Refute it at one input. -/
def fnExactSplitFlowWrong : ChangeSpec := { name := "fnExactSplitFlow", fn := fun _ => fun
  | [d1, d2] => { results := [.lit (.bool false)], args := [d1, d2] }
  | _ => none }
def FnExactSplitFlowWrongFalsely : Prop := fnExactSplitFlowRow.holds Try.pinned (OpenSpec.ofChange fnExactSplitFlowWrong)

/-- 'laws.FnSplits': WHATEVER THE INPUT: true; the input reads as it did. -/
def fnSplitsSpec : ChangeSpec := { name := "fnSplits", fn := fun _ => fun
  | [d] => { results := [.lit (.bool true)], args := [d] }
  | _ => none }
def fnSplitsRow : OpenClaim := { program := "ytpmffboojkfpdaa", sum := "229e1b470f1a2ca90e91521c31e53b46b440c2f79df32342920cc5c3275a354e", func := "loop.example/g00853/laws.FnSplits", spec := "fnSplits", unfollowed := true, recurses := true, apart := false }
def FnSplitsSaid : Prop := fnSplitsRow.holds Try.pinned (OpenSpec.ofChange fnSplitsSpec)

/-- ITS FALSE NEIGHBOUR: 'it returns false'. Refute it at one input. -/
def fnSplitsWrong : ChangeSpec := { name := "fnSplits", fn := fun _ => fun
  | [d] => { results := [.lit (.bool false)], args := [d] }
  | _ => none }
def FnSplitsWrongFalsely : Prop := fnSplitsRow.holds Try.pinned (OpenSpec.ofChange fnSplitsWrong)

/- THE SECOND FORM. 'bulk': how many values and letters a reading holds, each counted each time it is reached (what is shared counts as often as it is met; a slice's spare places count too). A statement '..UptoSaid' is the law's where the arguments, and the package variables that the reading takes, are together of bulk at most 1048576: NARROWER than '..Said'. Prove '..Said' where nothing that the law and all that it calls make is longer than what came in: it says more and counts as full. Else prove '..UptoSaid'. A law counts once. -/
mutual
def uptoBulk {H : Type} : DataW H → Nat
  | .lit (.string bytes) => bytes.length + 1
  | .lit _ => 1
  | .nil => 1
  | .ptr d => uptoBulk d + 1
  | .slice elems spare => uptoBulkAll elems + uptoBulkAll spare + 1
  | .agg parts => uptoBulkAll parts + 1
  | .iface _ d => uptoBulk d + 1
  | .map entries => uptoBulkEntries entries + 1
  | .held _ => 1
def uptoBulkAll {H : Type} : List (DataW H) → Nat
  | [] => 0
  | d :: r => uptoBulk d + uptoBulkAll r
def uptoBulkEntries {H : Type} : List (Lit × DataW H) → Nat
  | [] => 0
  | x :: r => uptoBulkEntry x + uptoBulkEntries r
def uptoBulkEntry {H : Type} : Lit × DataW H → Nat
  | (.string bytes, d) => bytes.length + uptoBulk d + 1
  | (_, d) => uptoBulk d + 1
 end
def uptoSmall : (H : Type) → List (DataW H) → Bool := fun _ ds => decide (uptoBulkAll ds ≤ 1048576)
def OpenSpec.upto (s : _root_.Go.ChangeSpec) : _root_.Go.OpenSpec := { _root_.Go.OpenSpec.ofChange s with cond := some uptoSmall }

/-- 'laws.FnExactShiftProfile', WHERE WHAT IT READS IS OF BULK AT MOST 1048576: true; the input reads as it did. -/
def fnExactShiftProfileUptoRow : OpenClaim := { program := "ytpmffboojkfpdaa", sum := "229e1b470f1a2ca90e91521c31e53b46b440c2f79df32342920cc5c3275a354e", func := "loop.example/g00853/laws.FnExactShiftProfile", spec := "fnExactShiftProfile", unfollowed := true, recurses := true, apart := false, narrowed := true }
def FnExactShiftProfileUptoSaid : Prop := fnExactShiftProfileUptoRow.holds Try.pinned (OpenSpec.upto fnExactShiftProfileSpec)

/-- 'laws.FnExactUseAt', WHERE WHAT IT READS IS OF BULK AT MOST 1048576: true; the input reads as it did. -/
def fnExactUseAtUptoRow : OpenClaim := { program := "ytpmffboojkfpdaa", sum := "229e1b470f1a2ca90e91521c31e53b46b440c2f79df32342920cc5c3275a354e", func := "loop.example/g00853/laws.FnExactUseAt", spec := "fnExactUseAt", unfollowed := true, recurses := true, apart := false, narrowed := true }
def FnExactUseAtUptoSaid : Prop := fnExactUseAtUptoRow.holds Try.pinned (OpenSpec.upto fnExactUseAtSpec)

/-- 'laws.FnExactVolumeBetween', WHERE WHAT IT READS IS OF BULK AT MOST 1048576: true; the input reads as it did. -/
def fnExactVolumeBetweenUptoRow : OpenClaim := { program := "ytpmffboojkfpdaa", sum := "229e1b470f1a2ca90e91521c31e53b46b440c2f79df32342920cc5c3275a354e", func := "loop.example/g00853/laws.FnExactVolumeBetween", spec := "fnExactVolumeBetween", unfollowed := true, recurses := true, apart := false, narrowed := true }
def FnExactVolumeBetweenUptoSaid : Prop := fnExactVolumeBetweenUptoRow.holds Try.pinned (OpenSpec.upto fnExactVolumeBetweenSpec)

/-- 'laws.FnExactStorageFor', WHERE WHAT IT READS IS OF BULK AT MOST 1048576: true; the input reads as it did. -/
def fnExactStorageForUptoRow : OpenClaim := { program := "ytpmffboojkfpdaa", sum := "229e1b470f1a2ca90e91521c31e53b46b440c2f79df32342920cc5c3275a354e", func := "loop.example/g00853/laws.FnExactStorageFor", spec := "fnExactStorageFor", unfollowed := true, recurses := true, apart := false, narrowed := true }
def FnExactStorageForUptoSaid : Prop := fnExactStorageForUptoRow.holds Try.pinned (OpenSpec.upto fnExactStorageForSpec)

/-- 'laws.FnExactFlattenProfile', WHERE WHAT IT READS IS OF BULK AT MOST 1048576: true; the input reads as it did. -/
def fnExactFlattenProfileUptoRow : OpenClaim := { program := "ytpmffboojkfpdaa", sum := "229e1b470f1a2ca90e91521c31e53b46b440c2f79df32342920cc5c3275a354e", func := "loop.example/g00853/laws.FnExactFlattenProfile", spec := "fnExactFlattenProfile", unfollowed := true, recurses := true, apart := false, narrowed := true }
def FnExactFlattenProfileUptoSaid : Prop := fnExactFlattenProfileUptoRow.holds Try.pinned (OpenSpec.upto fnExactFlattenProfileSpec)

/-- 'laws.FnProfiles', WHERE WHAT IT READS IS OF BULK AT MOST 1048576: true; the input reads as it did. -/
def fnProfilesUptoRow : OpenClaim := { program := "ytpmffboojkfpdaa", sum := "229e1b470f1a2ca90e91521c31e53b46b440c2f79df32342920cc5c3275a354e", func := "loop.example/g00853/laws.FnProfiles", spec := "fnProfiles", unfollowed := true, recurses := true, apart := false, narrowed := true }
def FnProfilesUptoSaid : Prop := fnProfilesUptoRow.holds Try.pinned (OpenSpec.upto fnProfilesSpec)

/-- 'laws.FnUses', WHERE WHAT IT READS IS OF BULK AT MOST 1048576: true; the input reads as it did. -/
def fnUsesUptoRow : OpenClaim := { program := "ytpmffboojkfpdaa", sum := "229e1b470f1a2ca90e91521c31e53b46b440c2f79df32342920cc5c3275a354e", func := "loop.example/g00853/laws.FnUses", spec := "fnUses", unfollowed := true, recurses := true, apart := false, narrowed := true }
def FnUsesUptoSaid : Prop := fnUsesUptoRow.holds Try.pinned (OpenSpec.upto fnUsesSpec)

/-- 'laws.FnExactSplitEnergy', WHERE WHAT IT READS IS OF BULK AT MOST 1048576: true; the input reads as it did. -/
def fnExactSplitEnergyUptoRow : OpenClaim := { program := "ytpmffboojkfpdaa", sum := "229e1b470f1a2ca90e91521c31e53b46b440c2f79df32342920cc5c3275a354e", func := "loop.example/g00853/laws.FnExactSplitEnergy", spec := "fnExactSplitEnergy", unfollowed := true, recurses := true, apart := false, narrowed := true }
def FnExactSplitEnergyUptoSaid : Prop := fnExactSplitEnergyUptoRow.holds Try.pinned (OpenSpec.upto fnExactSplitEnergySpec)

/-- 'laws.FnExactSplitFlow', WHERE WHAT IT READS IS OF BULK AT MOST 1048576: true; the input reads as it did. -/
def fnExactSplitFlowUptoRow : OpenClaim := { program := "ytpmffboojkfpdaa", sum := "229e1b470f1a2ca90e91521c31e53b46b440c2f79df32342920cc5c3275a354e", func := "loop.example/g00853/laws.FnExactSplitFlow", spec := "fnExactSplitFlow", unfollowed := true, recurses := true, apart := false, narrowed := true }
def FnExactSplitFlowUptoSaid : Prop := fnExactSplitFlowUptoRow.holds Try.pinned (OpenSpec.upto fnExactSplitFlowSpec)

/-- 'laws.FnSplits', WHERE WHAT IT READS IS OF BULK AT MOST 1048576: true; the input reads as it did. -/
def fnSplitsUptoRow : OpenClaim := { program := "ytpmffboojkfpdaa", sum := "229e1b470f1a2ca90e91521c31e53b46b440c2f79df32342920cc5c3275a354e", func := "loop.example/g00853/laws.FnSplits", spec := "fnSplits", unfollowed := true, recurses := true, apart := false, narrowed := true }
def FnSplitsUptoSaid : Prop := fnSplitsUptoRow.holds Try.pinned (OpenSpec.upto fnSplitsSpec)

end Rows
end Go.Proofs.Ytpmffboojkfpdaa
