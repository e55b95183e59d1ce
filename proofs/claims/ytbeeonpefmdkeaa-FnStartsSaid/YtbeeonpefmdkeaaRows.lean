/-
  No cell of these rows narrows 'for every input' (looked for: loops, veiled, ifaces, maps, wideKeys, modest, calm, conditions, laid).
  DERIVED. THE GIVEN ROWS OF THIS SEAT. 12 by the template 'for every input the law returns true; each argument reads behind the call as it read before'; 0 by the template 'total and deterministic' (their statements: YtbeeonpefmdkeaaTotals.lean).
  GIVEN WITH THE SEED: the statements are not yours to turn. If you find one false, say at which input.
  Laid BY PROGRAM, IN A SANDBOX (cutbox-rows.mjs): the forced cells as the released guide's own fill.sh prints them over the translation 711ba4b2c71e03f0… (all of the seat's roots in one cut). By AI agents, Wed Nov 11 2026. No macro, syntax, notation, axiom, sorry.
-/
import Derived.Test.YtbeeonpefmdkeaaChecked
import GoSem.Claim
import GoSem.ClaimJoined
import GoSem.ClaimMapViews
import Derived.JoinedTies
import Derived.KernelRfl
namespace Go.Proofs.Ytbeeonpefmdkeaa
/- THE CELL 'sum', in the pinned program and in every row, IS THE sha256 OF THE DUMP (.gsa) THAT YtbeeonpefmdkeaaProg.lean LOADS. Nothing in Lean hashes anything: it is a label: what it is worth is what the hold of that sum in a sandbox is worth. -/
noncomputable def Try.pinned : Pinned := { name := "ytbeeonpefmdkeaa", sum := "711ba4b2c71e03f0fe12ee28f21b7b1f1de0a8aa9d5db8d747e3e2b88f551d5f", checked := Try.checked }
namespace Rows
def none {H : Type} : Left H := { results := [], args := [] }

/-- 'laws.FnExactIsValidTank': WHATEVER THE INPUT: true; the input reads as it did. -/
def fnExactIsValidTankSpec : ChangeSpec := { name := "fnExactIsValidTank", fn := fun _ => fun
  | [d] => { results := [.lit (.bool true)], args := [d] }
  | _ => none }
def fnExactIsValidTankRow : OpenClaim := { program := "ytbeeonpefmdkeaa", sum := "711ba4b2c71e03f0fe12ee28f21b7b1f1de0a8aa9d5db8d747e3e2b88f551d5f", func := "loop.example/g00853/laws.FnExactIsValidTank", spec := "fnExactIsValidTank", apart := false }
def FnExactIsValidTankSaid : Prop := fnExactIsValidTankRow.holds Try.pinned (OpenSpec.ofChange fnExactIsValidTankSpec)

/-- ITS FALSE NEIGHBOUR: 'it returns false'. Refute it at one input. -/
def fnExactIsValidTankWrong : ChangeSpec := { name := "fnExactIsValidTank", fn := fun _ => fun
  | [d] => { results := [.lit (.bool false)], args := [d] }
  | _ => none }
def FnExactIsValidTankWrongFalsely : Prop := fnExactIsValidTankRow.holds Try.pinned (OpenSpec.ofChange fnExactIsValidTankWrong)

/-- 'laws.FnExactStepTank': WHATEVER THE INPUT: true; the input reads as it did. -/
def fnExactStepTankSpec : ChangeSpec := { name := "fnExactStepTank", fn := fun _ => fun
  | [d1, d2, d3] => { results := [.lit (.bool true)], args := [d1, d2, d3] }
  | _ => none }
def fnExactStepTankRow : OpenClaim := { program := "ytbeeonpefmdkeaa", sum := "711ba4b2c71e03f0fe12ee28f21b7b1f1de0a8aa9d5db8d747e3e2b88f551d5f", func := "loop.example/g00853/laws.FnExactStepTank", spec := "fnExactStepTank", apart := false }
def FnExactStepTankSaid : Prop := fnExactStepTankRow.holds Try.pinned (OpenSpec.ofChange fnExactStepTankSpec)

/-- ITS FALSE NEIGHBOUR: 'it returns false'. Refute it at one input. -/
def fnExactStepTankWrong : ChangeSpec := { name := "fnExactStepTank", fn := fun _ => fun
  | [d1, d2, d3] => { results := [.lit (.bool false)], args := [d1, d2, d3] }
  | _ => none }
def FnExactStepTankWrongFalsely : Prop := fnExactStepTankRow.holds Try.pinned (OpenSpec.ofChange fnExactStepTankWrong)

/-- 'laws.FnExactFirstMissing': WHATEVER THE INPUT: true; the input reads as it did. -/
def fnExactFirstMissingSpec : ChangeSpec := { name := "fnExactFirstMissing", fn := fun _ => fun
  | [d1, d2, d3] => { results := [.lit (.bool true)], args := [d1, d2, d3] }
  | _ => none }
def fnExactFirstMissingRow : OpenClaim := { program := "ytbeeonpefmdkeaa", sum := "711ba4b2c71e03f0fe12ee28f21b7b1f1de0a8aa9d5db8d747e3e2b88f551d5f", func := "loop.example/g00853/laws.FnExactFirstMissing", spec := "fnExactFirstMissing", unfollowed := true, recurses := true, apart := false }
def FnExactFirstMissingSaid : Prop := fnExactFirstMissingRow.holds Try.pinned (OpenSpec.ofChange fnExactFirstMissingSpec)

/-- ITS FALSE NEIGHBOUR: 'it returns false'. Refute it at one input. -/
def fnExactFirstMissingWrong : ChangeSpec := { name := "fnExactFirstMissing", fn := fun _ => fun
  | [d1, d2, d3] => { results := [.lit (.bool false)], args := [d1, d2, d3] }
  | _ => none }
def FnExactFirstMissingWrongFalsely : Prop := fnExactFirstMissingRow.holds Try.pinned (OpenSpec.ofChange fnExactFirstMissingWrong)

/-- 'laws.FnExactWaterTaken': WHATEVER THE INPUT: true; the input reads as it did. -/
def fnExactWaterTakenSpec : ChangeSpec := { name := "fnExactWaterTaken", fn := fun _ => fun
  | [d1, d2, d3] => { results := [.lit (.bool true)], args := [d1, d2, d3] }
  | _ => none }
def fnExactWaterTakenRow : OpenClaim := { program := "ytbeeonpefmdkeaa", sum := "711ba4b2c71e03f0fe12ee28f21b7b1f1de0a8aa9d5db8d747e3e2b88f551d5f", func := "loop.example/g00853/laws.FnExactWaterTaken", spec := "fnExactWaterTaken", unfollowed := true, recurses := true, apart := false }
def FnExactWaterTakenSaid : Prop := fnExactWaterTakenRow.holds Try.pinned (OpenSpec.ofChange fnExactWaterTakenSpec)

/-- ITS FALSE NEIGHBOUR: 'it returns false'. Refute it at one input. -/
def fnExactWaterTakenWrong : ChangeSpec := { name := "fnExactWaterTaken", fn := fun _ => fun
  | [d1, d2, d3] => { results := [.lit (.bool false)], args := [d1, d2, d3] }
  | _ => none }
def FnExactWaterTakenWrongFalsely : Prop := fnExactWaterTakenRow.holds Try.pinned (OpenSpec.ofChange fnExactWaterTakenWrong)

/-- 'laws.FnExactIsCalm': WHATEVER THE INPUT: true; the input reads as it did. -/
def fnExactIsCalmSpec : ChangeSpec := { name := "fnExactIsCalm", fn := fun _ => fun
  | [d1, d2, d3] => { results := [.lit (.bool true)], args := [d1, d2, d3] }
  | _ => none }
def fnExactIsCalmRow : OpenClaim := { program := "ytbeeonpefmdkeaa", sum := "711ba4b2c71e03f0fe12ee28f21b7b1f1de0a8aa9d5db8d747e3e2b88f551d5f", func := "loop.example/g00853/laws.FnExactIsCalm", spec := "fnExactIsCalm", unfollowed := true, recurses := true, apart := false }
def FnExactIsCalmSaid : Prop := fnExactIsCalmRow.holds Try.pinned (OpenSpec.ofChange fnExactIsCalmSpec)

/-- ITS FALSE NEIGHBOUR: 'it returns false'. Refute it at one input. -/
def fnExactIsCalmWrong : ChangeSpec := { name := "fnExactIsCalm", fn := fun _ => fun
  | [d1, d2, d3] => { results := [.lit (.bool false)], args := [d1, d2, d3] }
  | _ => none }
def FnExactIsCalmWrongFalsely : Prop := fnExactIsCalmRow.holds Try.pinned (OpenSpec.ofChange fnExactIsCalmWrong)

/-- 'laws.FnExactSteadyLevel': WHATEVER THE INPUT: true; the input reads as it did. -/
def fnExactSteadyLevelSpec : ChangeSpec := { name := "fnExactSteadyLevel", fn := fun _ => fun
  | [d1, d2, d3] => { results := [.lit (.bool true)], args := [d1, d2, d3] }
  | _ => none }
def fnExactSteadyLevelRow : OpenClaim := { program := "ytbeeonpefmdkeaa", sum := "711ba4b2c71e03f0fe12ee28f21b7b1f1de0a8aa9d5db8d747e3e2b88f551d5f", func := "loop.example/g00853/laws.FnExactSteadyLevel", spec := "fnExactSteadyLevel", unfollowed := true, recurses := true, apart := false }
def FnExactSteadyLevelSaid : Prop := fnExactSteadyLevelRow.holds Try.pinned (OpenSpec.ofChange fnExactSteadyLevelSpec)

/-- ITS FALSE NEIGHBOUR: 'it returns false'. Refute it at one input. -/
def fnExactSteadyLevelWrong : ChangeSpec := { name := "fnExactSteadyLevel", fn := fun _ => fun
  | [d1, d2, d3] => { results := [.lit (.bool false)], args := [d1, d2, d3] }
  | _ => none }
def FnExactSteadyLevelWrongFalsely : Prop := fnExactSteadyLevelRow.holds Try.pinned (OpenSpec.ofChange fnExactSteadyLevelWrong)

/-- 'laws.FnExactRepeatDay': WHATEVER THE INPUT: true; the input reads as it did. -/
def fnExactRepeatDaySpec : ChangeSpec := { name := "fnExactRepeatDay", fn := fun _ => fun
  | [d1, d2, d3, d4] => { results := [.lit (.bool true)], args := [d1, d2, d3, d4] }
  | _ => none }
def fnExactRepeatDayRow : OpenClaim := { program := "ytbeeonpefmdkeaa", sum := "711ba4b2c71e03f0fe12ee28f21b7b1f1de0a8aa9d5db8d747e3e2b88f551d5f", func := "loop.example/g00853/laws.FnExactRepeatDay", spec := "fnExactRepeatDay", unfollowed := true, recurses := true, apart := false }
def FnExactRepeatDaySaid : Prop := fnExactRepeatDayRow.holds Try.pinned (OpenSpec.ofChange fnExactRepeatDaySpec)

/-- ITS FALSE NEIGHBOUR: 'it returns false'. Refute it at one input. -/
def fnExactRepeatDayWrong : ChangeSpec := { name := "fnExactRepeatDay", fn := fun _ => fun
  | [d1, d2, d3, d4] => { results := [.lit (.bool false)], args := [d1, d2, d3, d4] }
  | _ => none }
def FnExactRepeatDayWrongFalsely : Prop := fnExactRepeatDayRow.holds Try.pinned (OpenSpec.ofChange fnExactRepeatDayWrong)

/-- 'laws.FnExactLeastStart': WHATEVER THE INPUT: true; the input reads as it did. -/
def fnExactLeastStartSpec : ChangeSpec := { name := "fnExactLeastStart", fn := fun _ => fun
  | [d1, d2, d3] => { results := [.lit (.bool true)], args := [d1, d2, d3] }
  | _ => none }
def fnExactLeastStartRow : OpenClaim := { program := "ytbeeonpefmdkeaa", sum := "711ba4b2c71e03f0fe12ee28f21b7b1f1de0a8aa9d5db8d747e3e2b88f551d5f", func := "loop.example/g00853/laws.FnExactLeastStart", spec := "fnExactLeastStart", unfollowed := true, recurses := true, apart := false }
def FnExactLeastStartSaid : Prop := fnExactLeastStartRow.holds Try.pinned (OpenSpec.ofChange fnExactLeastStartSpec)

/-- ITS FALSE NEIGHBOUR: 'it returns false'. Refute it at one input. -/
def fnExactLeastStartWrong : ChangeSpec := { name := "fnExactLeastStart", fn := fun _ => fun
  | [d1, d2, d3] => { results := [.lit (.bool false)], args := [d1, d2, d3] }
  | _ => none }
def FnExactLeastStartWrongFalsely : Prop := fnExactLeastStartRow.holds Try.pinned (OpenSpec.ofChange fnExactLeastStartWrong)

/-- 'laws.FnExactRunTank': WHATEVER THE INPUT: true; the input reads as it did. -/
def fnExactRunTankSpec : ChangeSpec := { name := "fnExactRunTank", fn := fun _ => fun
  | [d1, d2, d3] => { results := [.lit (.bool true)], args := [d1, d2, d3] }
  | _ => none }
def fnExactRunTankRow : OpenClaim := { program := "ytbeeonpefmdkeaa", sum := "711ba4b2c71e03f0fe12ee28f21b7b1f1de0a8aa9d5db8d747e3e2b88f551d5f", func := "loop.example/g00853/laws.FnExactRunTank", spec := "fnExactRunTank", unfollowed := true, recurses := true, apart := false }
def FnExactRunTankSaid : Prop := fnExactRunTankRow.holds Try.pinned (OpenSpec.ofChange fnExactRunTankSpec)

/-- ITS FALSE NEIGHBOUR: 'it returns false'. Refute it at one input. -/
def fnExactRunTankWrong : ChangeSpec := { name := "fnExactRunTank", fn := fun _ => fun
  | [d1, d2, d3] => { results := [.lit (.bool false)], args := [d1, d2, d3] }
  | _ => none }
def FnExactRunTankWrongFalsely : Prop := fnExactRunTankRow.holds Try.pinned (OpenSpec.ofChange fnExactRunTankWrong)

/-- 'laws.FnTanks': WHATEVER THE INPUT: true; the input reads as it did. -/
def fnTanksSpec : ChangeSpec := { name := "fnTanks", fn := fun _ => fun
  | [d] => { results := [.lit (.bool true)], args := [d] }
  | _ => none }
def fnTanksRow : OpenClaim := { program := "ytbeeonpefmdkeaa", sum := "711ba4b2c71e03f0fe12ee28f21b7b1f1de0a8aa9d5db8d747e3e2b88f551d5f", func := "loop.example/g00853/laws.FnTanks", spec := "fnTanks", unfollowed := true, recurses := true, apart := false }
def FnTanksSaid : Prop := fnTanksRow.holds Try.pinned (OpenSpec.ofChange fnTanksSpec)

/-- ITS FALSE NEIGHBOUR: 'it returns false'. Refute it at one input. -/
def fnTanksWrong : ChangeSpec := { name := "fnTanks", fn := fun _ => fun
  | [d] => { results := [.lit (.bool false)], args := [d] }
  | _ => none }
def FnTanksWrongFalsely : Prop := fnTanksRow.holds Try.pinned (OpenSpec.ofChange fnTanksWrong)

/-- 'laws.FnStarts': WHATEVER THE INPUT: true; the input reads as it did. -/
def fnStartsSpec : ChangeSpec := { name := "fnStarts", fn := fun _ => fun
  | [d] => { results := [.lit (.bool true)], args := [d] }
  | _ => none }
def fnStartsRow : OpenClaim := { program := "ytbeeonpefmdkeaa", sum := "711ba4b2c71e03f0fe12ee28f21b7b1f1de0a8aa9d5db8d747e3e2b88f551d5f", func := "loop.example/g00853/laws.FnStarts", spec := "fnStarts", unfollowed := true, recurses := true, apart := false }
def FnStartsSaid : Prop := fnStartsRow.holds Try.pinned (OpenSpec.ofChange fnStartsSpec)

/-- ITS FALSE NEIGHBOUR: 'it returns false'. Refute it at one input. -/
def fnStartsWrong : ChangeSpec := { name := "fnStarts", fn := fun _ => fun
  | [d] => { results := [.lit (.bool false)], args := [d] }
  | _ => none }
def FnStartsWrongFalsely : Prop := fnStartsRow.holds Try.pinned (OpenSpec.ofChange fnStartsWrong)

/-- 'laws.FnExactIsValidRule': WHATEVER THE INPUT: true; the input reads as it did. -/
def fnExactIsValidRuleSpec : ChangeSpec := { name := "fnExactIsValidRule", fn := fun _ => fun
  | [d] => { results := [.lit (.bool true)], args := [d] }
  | _ => none }
def fnExactIsValidRuleRow : OpenClaim := { program := "ytbeeonpefmdkeaa", sum := "711ba4b2c71e03f0fe12ee28f21b7b1f1de0a8aa9d5db8d747e3e2b88f551d5f", func := "loop.example/g00853/laws.FnExactIsValidRule", spec := "fnExactIsValidRule", apart := false }
def FnExactIsValidRuleSaid : Prop := fnExactIsValidRuleRow.holds Try.pinned (OpenSpec.ofChange fnExactIsValidRuleSpec)

/-- ITS FALSE NEIGHBOUR: 'it returns false'. Refute it at one input. -/
def fnExactIsValidRuleWrong : ChangeSpec := { name := "fnExactIsValidRule", fn := fun _ => fun
  | [d] => { results := [.lit (.bool false)], args := [d] }
  | _ => none }
def FnExactIsValidRuleWrongFalsely : Prop := fnExactIsValidRuleRow.holds Try.pinned (OpenSpec.ofChange fnExactIsValidRuleWrong)

/- THE SECOND FORM. 'bulk': how many values and letters a reading holds, each counted each time it is reached (what is shared counts as often as it is met; a slice's spare places count too). A statement '..UptoSaid' is the law's where the arguments, and the package variables that the reading takes, are together of bulk at most 1048576: NARROWER than '..Said'. Prove '..Said' where nothing that the law and all that it calls make is longer than what came in: it says more and counts as full. Else prove '..UptoSaid'. A law counts once. -/
mutual
def uptoBulk {H : Type} : DataW H → Nat
  | .lit (.string bytes) => bytes.length + 1
  | .lit _ => 1
  | .nil => 1
  | .ptr d => uptoBulk d + 1
  | .slice elems spare => uptoBulkAll elems + uptoBulkAll spare + 1
  | .agg parts => uptoBulkAll parts + 1
  | .iface _ d => uptoBulk d + 1
  | .map entries => uptoBulkEntries entries + 1
  | .held _ => 1
def uptoBulkAll {H : Type} : List (DataW H) → Nat
  | [] => 0
  | d :: r => uptoBulk d + uptoBulkAll r
def uptoBulkEntries {H : Type} : List (Lit × DataW H) → Nat
  | [] => 0
  | x :: r => uptoBulkEntry x + uptoBulkEntries r
def uptoBulkEntry {H : Type} : Lit × DataW H → Nat
  | (.string bytes, d) => bytes.length + uptoBulk d + 1
  | (_, d) => uptoBulk d + 1
 end
def uptoSmall : (H : Type) → List (DataW H) → Bool := fun _ ds => decide (uptoBulkAll ds ≤ 1048576)
def OpenSpec.upto (s : _root_.Go.ChangeSpec) : _root_.Go.OpenSpec := { _root_.Go.OpenSpec.ofChange s with cond := some uptoSmall }

/-- 'laws.FnExactIsValidTank', WHERE WHAT IT READS IS OF BULK AT MOST 1048576: true; the input reads as it did. -/
def fnExactIsValidTankUptoRow : OpenClaim := { program := "ytbeeonpefmdkeaa", sum := "711ba4b2c71e03f0fe12ee28f21b7b1f1de0a8aa9d5db8d747e3e2b88f551d5f", func := "loop.example/g00853/laws.FnExactIsValidTank", spec := "fnExactIsValidTank", apart := false, narrowed := true }
def FnExactIsValidTankUptoSaid : Prop := fnExactIsValidTankUptoRow.holds Try.pinned (OpenSpec.upto fnExactIsValidTankSpec)

/-- 'laws.FnExactStepTank', WHERE WHAT IT READS IS OF BULK AT MOST 1048576: true; the input reads as it did. -/
def fnExactStepTankUptoRow : OpenClaim := { program := "ytbeeonpefmdkeaa", sum := "711ba4b2c71e03f0fe12ee28f21b7b1f1de0a8aa9d5db8d747e3e2b88f551d5f", func := "loop.example/g00853/laws.FnExactStepTank", spec := "fnExactStepTank", apart := false, narrowed := true }
def FnExactStepTankUptoSaid : Prop := fnExactStepTankUptoRow.holds Try.pinned (OpenSpec.upto fnExactStepTankSpec)

/-- 'laws.FnExactFirstMissing', WHERE WHAT IT READS IS OF BULK AT MOST 1048576: true; the input reads as it did. -/
def fnExactFirstMissingUptoRow : OpenClaim := { program := "ytbeeonpefmdkeaa", sum := "711ba4b2c71e03f0fe12ee28f21b7b1f1de0a8aa9d5db8d747e3e2b88f551d5f", func := "loop.example/g00853/laws.FnExactFirstMissing", spec := "fnExactFirstMissing", unfollowed := true, recurses := true, apart := false, narrowed := true }
def FnExactFirstMissingUptoSaid : Prop := fnExactFirstMissingUptoRow.holds Try.pinned (OpenSpec.upto fnExactFirstMissingSpec)

/-- 'laws.FnExactWaterTaken', WHERE WHAT IT READS IS OF BULK AT MOST 1048576: true; the input reads as it did. -/
def fnExactWaterTakenUptoRow : OpenClaim := { program := "ytbeeonpefmdkeaa", sum := "711ba4b2c71e03f0fe12ee28f21b7b1f1de0a8aa9d5db8d747e3e2b88f551d5f", func := "loop.example/g00853/laws.FnExactWaterTaken", spec := "fnExactWaterTaken", unfollowed := true, recurses := true, apart := false, narrowed := true }
def FnExactWaterTakenUptoSaid : Prop := fnExactWaterTakenUptoRow.holds Try.pinned (OpenSpec.upto fnExactWaterTakenSpec)

/-- 'laws.FnExactIsCalm', WHERE WHAT IT READS IS OF BULK AT MOST 1048576: true; the input reads as it did. -/
def fnExactIsCalmUptoRow : OpenClaim := { program := "ytbeeonpefmdkeaa", sum := "711ba4b2c71e03f0fe12ee28f21b7b1f1de0a8aa9d5db8d747e3e2b88f551d5f", func := "loop.example/g00853/laws.FnExactIsCalm", spec := "fnExactIsCalm", unfollowed := true, recurses := true, apart := false, narrowed := true }
def FnExactIsCalmUptoSaid : Prop := fnExactIsCalmUptoRow.holds Try.pinned (OpenSpec.upto fnExactIsCalmSpec)

/-- 'laws.FnExactSteadyLevel', WHERE WHAT IT READS IS OF BULK AT MOST 1048576: true; the input reads as it did. -/
def fnExactSteadyLevelUptoRow : OpenClaim := { program := "ytbeeonpefmdkeaa", sum := "711ba4b2c71e03f0fe12ee28f21b7b1f1de0a8aa9d5db8d747e3e2b88f551d5f", func := "loop.example/g00853/laws.FnExactSteadyLevel", spec := "fnExactSteadyLevel", unfollowed := true, recurses := true, apart := false, narrowed := true }
def FnExactSteadyLevelUptoSaid : Prop := fnExactSteadyLevelUptoRow.holds Try.pinned (OpenSpec.upto fnExactSteadyLevelSpec)

/-- 'laws.FnExactRepeatDay', WHERE WHAT IT READS IS OF BULK AT MOST 1048576: true; the input reads as it did. -/
def fnExactRepeatDayUptoRow : OpenClaim := { program := "ytbeeonpefmdkeaa", sum := "711ba4b2c71e03f0fe12ee28f21b7b1f1de0a8aa9d5db8d747e3e2b88f551d5f", func := "loop.example/g00853/laws.FnExactRepeatDay", spec := "fnExactRepeatDay", unfollowed := true, recurses := true, apart := false, narrowed := true }
def FnExactRepeatDayUptoSaid : Prop := fnExactRepeatDayUptoRow.holds Try.pinned (OpenSpec.upto fnExactRepeatDaySpec)

/-- 'laws.FnExactLeastStart', WHERE WHAT IT READS IS OF BULK AT MOST 1048576: true; the input reads as it did. -/
def fnExactLeastStartUptoRow : OpenClaim := { program := "ytbeeonpefmdkeaa", sum := "711ba4b2c71e03f0fe12ee28f21b7b1f1de0a8aa9d5db8d747e3e2b88f551d5f", func := "loop.example/g00853/laws.FnExactLeastStart", spec := "fnExactLeastStart", unfollowed := true, recurses := true, apart := false, narrowed := true }
def FnExactLeastStartUptoSaid : Prop := fnExactLeastStartUptoRow.holds Try.pinned (OpenSpec.upto fnExactLeastStartSpec)

/-- 'laws.FnExactRunTank', WHERE WHAT IT READS IS OF BULK AT MOST 1048576: true; the input reads as it did. -/
def fnExactRunTankUptoRow : OpenClaim := { program := "ytbeeonpefmdkeaa", sum := "711ba4b2c71e03f0fe12ee28f21b7b1f1de0a8aa9d5db8d747e3e2b88f551d5f", func := "loop.example/g00853/laws.FnExactRunTank", spec := "fnExactRunTank", unfollowed := true, recurses := true, apart := false, narrowed := true }
def FnExactRunTankUptoSaid : Prop := fnExactRunTankUptoRow.holds Try.pinned (OpenSpec.upto fnExactRunTankSpec)

/-- 'laws.FnTanks', WHERE WHAT IT READS IS OF BULK AT MOST 1048576: true; the input reads as it did. -/
def fnTanksUptoRow : OpenClaim := { program := "ytbeeonpefmdkeaa", sum := "711ba4b2c71e03f0fe12ee28f21b7b1f1de0a8aa9d5db8d747e3e2b88f551d5f", func := "loop.example/g00853/laws.FnTanks", spec := "fnTanks", unfollowed := true, recurses := true, apart := false, narrowed := true }
def FnTanksUptoSaid : Prop := fnTanksUptoRow.holds Try.pinned (OpenSpec.upto fnTanksSpec)

/-- 'laws.FnStarts', WHERE WHAT IT READS IS OF BULK AT MOST 1048576: true; the input reads as it did. -/
def fnStartsUptoRow : OpenClaim := { program := "ytbeeonpefmdkeaa", sum := "711ba4b2c71e03f0fe12ee28f21b7b1f1de0a8aa9d5db8d747e3e2b88f551d5f", func := "loop.example/g00853/laws.FnStarts", spec := "fnStarts", unfollowed := true, recurses := true, apart := false, narrowed := true }
def FnStartsUptoSaid : Prop := fnStartsUptoRow.holds Try.pinned (OpenSpec.upto fnStartsSpec)

/-- 'laws.FnExactIsValidRule', WHERE WHAT IT READS IS OF BULK AT MOST 1048576: true; the input reads as it did. -/
def fnExactIsValidRuleUptoRow : OpenClaim := { program := "ytbeeonpefmdkeaa", sum := "711ba4b2c71e03f0fe12ee28f21b7b1f1de0a8aa9d5db8d747e3e2b88f551d5f", func := "loop.example/g00853/laws.FnExactIsValidRule", spec := "fnExactIsValidRule", apart := false, narrowed := true }
def FnExactIsValidRuleUptoSaid : Prop := fnExactIsValidRuleUptoRow.holds Try.pinned (OpenSpec.upto fnExactIsValidRuleSpec)

end Rows
end Go.Proofs.Ytbeeonpefmdkeaa
