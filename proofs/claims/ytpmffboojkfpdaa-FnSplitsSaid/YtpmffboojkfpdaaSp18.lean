/-
  Texts of this claim, joined: LawG.
-/
import Derived.Test.YtpmffboojkfpdaaSp2
import Derived.Test.YtpmffboojkfpdaaSp4
/-
  What the laws on codes ask of their own helpers.
-/
set_option linter.unusedVariables false
set_option linter.unusedSimpArgs false
namespace Go.Proofs.Ytpmffboojkfpdaa
open Go.RowKit

theorem l_vBig (a : Option Addr) (n c : Nat) (w : World) : Calls Try.prog 55 #[.slice a n c] w fun e w' => e = .returned (.bool (decide (65536 < n))) ∧ w = w' := by
  go_enter Try.func55, Try.ntmps55
  go_wp2
  go_ret
  exact ⟨ret_bool (by simp <;> omega), rfl⟩
theorem l_rBig (a : Option Addr) (n c : Nat) (w : World) : Calls Try.prog 28 #[.slice a n c] w fun e w' => e = .returned (.bool (decide (65536 < n))) ∧ w = w' := by
  go_enter Try.func28, Try.ntmps28
  go_wp2
  go_ret
  exact ⟨ret_bool (by simp <;> omega), rfl⟩
theorem l_vInts_same (a b : Option Addr) (n c d : Nat) (l : List Int) (w : World) (h : IntsAt w a n l) (h' : IntsAt w b n l) (hn : n ≤ 4194304) :
    Calls Try.prog 57 #[.slice a n c, .slice b n d] w fun e w' => e = .returned (.bool true) ∧ Below w.heap.size w w' := by
  have h1 := l_vInts_eq a b n c d l l w h h' hn
  rwa [decide_eq_true (rfl : l = l)] at h1
theorem l_rInts_same (a b : Option Addr) (n c d : Nat) (l : List Int) (w : World) (h : IntsAt w a n l) (h' : IntsAt w b n l) (hn : n ≤ 4194304) :
    Calls Try.prog 30 #[.slice a n c, .slice b n d] w fun e w' => e = .returned (.bool true) ∧ Below w.heap.size w w' := by
  have h1 := l_rInts_eq a b n c d l l w h h' hn
  rwa [decide_eq_true (rfl : l = l)] at h1

end Go.Proofs.Ytpmffboojkfpdaa

