/-
  What SpanningTree returns.
-/
import Derived.Test.YtheaagbffphdmaaSpan
import Derived.Test.YtheaagbffphdmaaRing
set_option linter.unusedVariables false
set_option linter.unusedSimpArgs false
namespace Go.Proofs.Ytheaagbffphdmaa
open Go.RowKit

/-- What SpanningTree returns. -/
noncomputable def spanR (N : Int) (l : List Pip) : Int × List Pip × Bool := if goodNet N l = true ∧ ((reachL N l 0 1).length : Int) = N then (N, span l l.length, true) else (0, [], false)
theorem spanR_no {N : Int} {l : List Pip} (h : goodNet N l = false ∨ ¬ ((reachL N l 0 1).length : Int) = N) : spanR N l = (0, [], false) := by
  unfold spanR
  rw [if_neg]
  rintro ⟨h1, h2⟩
  rcases h with h | h
  · rw [h] at h1; cases h1
  · exact h h2
theorem spanR_len {N : Int} {l R : List Pip} {X : Int} {b : Bool} (h : spanR N l = (X, R, b)) : R.length ≤ 1000 := by
  unfold spanR at h
  split at h
  · rename_i h1
    cases h
    have := (goodNet_get h1.1).2.1
    have := span_len l (Nat.le_refl l.length)
    omega
  · cases h
    simp

end Go.Proofs.Ytheaagbffphdmaa
