/-
  Two slices' own blocks are not the same, by the worlds in which they were made.
-/
import Derived.Test.YtpmffboojkfpdaaBase
set_option linter.unusedVariables false
namespace Go.Proofs.Ytpmffboojkfpdaa
open Go.RowKit

theorem ne_of_older {x y : Option Nat} {B1 S1 B2 S2 : Nat} (h1 : ∀ k, x = some k → B1 ≤ k ∧ k < S1) (h2 : ∀ k, y = some k → B2 ≤ k ∧ k < S2) (h : S1 ≤ B2) : x = none ∨ x ≠ y := by
  cases x with
  | none => exact .inl rfl
  | some k =>
    refine .inr fun e => ?_
    have := h1 k rfl
    have := h2 k e.symm
    omega
theorem ne_of_younger {x y : Option Nat} {B1 S1 B2 S2 : Nat} (h1 : ∀ k, x = some k → B1 ≤ k ∧ k < S1) (h2 : ∀ k, y = some k → B2 ≤ k ∧ k < S2) (h : S2 ≤ B1) : x = none ∨ x ≠ y := by
  cases x with
  | none => exact .inl rfl
  | some k =>
    refine .inr fun e => ?_
    have := h1 k rfl
    have := h2 k e.symm
    omega

end Go.Proofs.Ytpmffboojkfpdaa
