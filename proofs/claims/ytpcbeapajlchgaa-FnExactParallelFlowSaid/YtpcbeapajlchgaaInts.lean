/-
  What the small functions on slices of numbers do: sums, comparisons, copies, marks.
-/
import Derived.Test.YtpcbeapajlchgaaBase
set_option linter.unusedVariables false
namespace Go.Proofs.Ytpcbeapajlchgaa
open Go.RowKit



end Go.Proofs.Ytpcbeapajlchgaa
