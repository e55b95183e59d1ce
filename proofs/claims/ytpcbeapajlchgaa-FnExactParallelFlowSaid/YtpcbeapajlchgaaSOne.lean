/-
  A slice of one struct, new.
-/
import Derived.Test.YtpcbeapajlchgaaSRows
set_option linter.unusedVariables false
namespace Go.Proofs.Ytpcbeapajlchgaa
open Go.RowKit

theorem SAt.one {α : Type} [Inhabited α] {f : α → List Value} {s : Nat} {e : TypeId} {w : World} {x : α} {g : Nat} {cs : Array Value} (hf : ∀ x, (f x).length = s) (hc : cs = (f x).toArray) (hg : g = w.heap.size) : SAt f s (w.alloc (.cells cs e)) (some ⟨g, 0, none⟩) 1 [x] := by
  subst hc hg
  exact SAt.single w x hf

end Go.Proofs.Ytpcbeapajlchgaa
