/-
  Networks: supply, energy.
-/
import Derived.Test.YthhogblnndmenaaNetI
import Derived.Test.YthhogblnndmenaaNetS
import Derived.Test.YthhogblnndmenaaNetD
import Derived.Test.YthhogblnndmenaaNums
set_option linter.unusedVariables false
set_option linter.unusedSimpArgs false
namespace Go.Proofs.Ythhogblnndmenaa
open Go.RowKit


/-- What SupplyOf returns. -/
def supply (N : Int) (l : List Pip) (ds : List Int) : Int × Bool := if goodNet N l = true ∧ goodDem N ds = true then (ds.sum, true) else (0, false)

theorem s_l8Abs (x : Int) (w : World) (h : -4611686018427387904 ≤ x ∧ x ≤ 4611686018427387904) : Calls Try.prog 115 #[.int .i64 x] w fun e w' => e = .returned (.int .i64 (max x (-x))) ∧ w = w' := by
  go_enter Try.func115, Try.ntmps115
  go_wp2_with fail
  refine (s_l1Most _ _ _).mono ?_
  rintro e _ ⟨rfl, rfl⟩
  go_wp2
  go_ret
  exact ⟨rfl, rfl⟩

/-- The energy of flows. -/
def enrg (l : List Pip) (fs : List Int) (k : Nat) : Int := ((List.range k).map fun j => (pp l j).2.2.2 * max (fs[j]?.getD 0) (-(fs[j]?.getD 0)) * fs[j]?.getD 0 * fs[j]?.getD 0).sum
theorem enrg_succ (l : List Pip) (fs : List Int) (k : Nat) : enrg l fs (k + 1) = enrg l fs k + (pp l k).2.2.2 * max (fs[k]?.getD 0) (-(fs[k]?.getD 0)) * fs[k]?.getD 0 * fs[k]?.getD 0 := by simp [enrg, List.range_succ]
theorem enrg_fit {s q : Int} (hs : 1 ≤ s ∧ s ≤ 9) (hq : -2000 ≤ q ∧ q ≤ 2000) : (0 ≤ s * max q (-q) ∧ s * max q (-q) ≤ 18000) ∧ (-36000000 ≤ s * max q (-q) * q ∧ s * max q (-q) * q ≤ 36000000) ∧ (-72000000000 ≤ s * max q (-q) * q * q ∧ s * max q (-q) * q * q ≤ 72000000000) := by
  have hm : 0 ≤ max q (-q) ∧ max q (-q) ≤ 2000 := by omega
  have a1 := mul_in (x := s) (y := max q (-q)) (A := 9) (B := 2000) (by omega) (by omega)
  have a2 := Int.mul_nonneg (a := s) (b := max q (-q)) (by omega) (by omega)
  simp only [Int.reduceMul] at a1
  have b1 := mul_in (x := s * max q (-q)) (y := q) (A := 18000) (B := 2000) (by omega) (by omega)
  simp only [Int.reduceMul] at b1
  have c1 := mul_in (x := s * max q (-q) * q) (y := q) (A := 36000000) (B := 2000) (by omega) (by omega)
  simp only [Int.reduceMul] at c1
  exact ⟨⟨a2, by omega⟩, by omega, by omega⟩

end Go.Proofs.Ythhogblnndmenaa
