/-
  What the lift of the tank laws needs of the types.
-/
import Derived.Test.YtbeeonpefmdkeaaLift
namespace Go.Proofs.Ytbeeonpefmdkeaa

theorem Try.cellsTank : Try.prog.cellsOf 23 = 3 := by kernel_rfl

end Go.Proofs.Ytbeeonpefmdkeaa
