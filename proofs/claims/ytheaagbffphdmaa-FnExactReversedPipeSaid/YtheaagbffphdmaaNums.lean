/-
  Numbers: absolute values, the greatest common divisor, fractions in lowest terms.
-/
import Derived.Test.YtheaagbffphdmaaRange
set_option linter.unusedVariables false
set_option linter.unusedSimpArgs false
namespace Go.Proofs.Ytheaagbffphdmaa
open Go.RowKit

/-- A number that products are taken of. -/
abbrev fine (x : Int) : Prop := -1152921504606846976 ≤ x ∧ x ≤ 1152921504606846976

theorem i_absOf (x : Int) (w : World) (h : -4611686018427387904 ≤ x ∧ x ≤ 4611686018427387904) : Calls Try.prog 70 #[.int .i64 x] w fun e w' => e = .returned (.int .i64 (max x (-x))) ∧ w = w' := by
  go_enter Try.func70, Try.ntmps70
  go_wp2
  all_goals go_ret
  all_goals exact ⟨ret_int (by omega), rfl⟩
theorem s_l1Most (a b : Int) (w : World) : Calls Try.prog 103 #[.int .i64 a, .int .i64 b] w fun e w' => e = .returned (.int .i64 (max a b)) ∧ w = w' := by
  by_cases h : a > b
  · go_enter Try.func103, Try.ntmps103
    go_wp2
    go_ret
    exact ⟨ret_int (by omega), rfl⟩
  · go_enter Try.func103, Try.ntmps103
    go_wp2
    go_ret
    exact ⟨ret_int (by omega), rfl⟩

/-- The greatest common divisor. -/
def gd (a b : Int) : Int := (Nat.gcd a.natAbs b.natAbs : Nat)
theorem max_abs (x : Int) : max x (-x) = (x.natAbs : Int) := by omega
theorem gd_pos {a b : Int} (h : 0 < b) : 0 < gd a b := by
  unfold gd
  have : 0 < Nat.gcd a.natAbs b.natAbs := Nat.gcd_pos_of_pos_right _ (by omega)
  omega
theorem gcd_step (x y : Nat) (h : y ≠ 0) : Nat.gcd y (x % y) = Nat.gcd x y := by
  rw [Nat.gcd_comm x y, Nat.gcd_rec y x, Nat.gcd_comm]



/-- The parts of a fraction in lowest terms. -/
def lowN (a b : Int) : Int := a.tdiv (gd a b)
def lowD (a b : Int) : Int := b / gd a b
theorem gd_dvd (a b : Int) : gd a b ∣ b := by
  unfold gd
  exact Int.ofNat_dvd_left.2 (Nat.gcd_dvd_right _ _)
theorem lowD_pos {a b : Int} (h : 0 < b) : 0 < lowD a b := Int.ediv_pos_of_pos_of_dvd h (by have := gd_pos (a := a) h; omega) (gd_dvd a b)
theorem lowD_le {a b : Int} (h : 0 < b) : lowD a b ≤ b := Int.ediv_le_self _ (by omega)
theorem gd_ge {a b : Int} (h : 0 < b) : 1 ≤ gd a b := by have := gd_pos (a := a) h; omega
theorem lowN_abs {a b : Int} (h : 0 < b) : (lowN a b).natAbs ≤ a.natAbs := by
  unfold lowN
  rw [Int.natAbs_tdiv]
  exact Nat.div_le_self _ _
theorem lowN_fine {a b B : Int} (h : 0 < b) (hB : -B ≤ a ∧ a ≤ B) : -B ≤ lowN a b ∧ lowN a b ≤ B := by
  have := lowN_abs (a := a) h
  omega
theorem gd_dvdN (a b : Int) : gd a b ∣ a := by
  unfold gd
  exact Int.ofNat_dvd_left.2 (Nat.gcd_dvd_left _ _)
/-- The fraction is the same. -/
theorem low_eq {a b : Int} (h : 0 < b) : lowN a b * b = a * lowD a b := by
  obtain ⟨x, hx⟩ := gd_dvdN a b
  obtain ⟨y, hy⟩ := gd_dvd a b
  have hg := gd_pos (a := a) h
  have e1 : lowN a b = x := by
    unfold lowN
    generalize hG : gd a b = G at *
    rw [hx]; exact Int.mul_tdiv_cancel_left _ (by omega)
  have e2 : lowD a b = y := by
    unfold lowD
    generalize hG : gd a b = G at *
    rw [hy]; exact Int.mul_ediv_cancel_left _ (by omega)
  rw [e1, e2]
  generalize hG : gd a b = G at *
  rw [hy, hx]
  grind



theorem mul_in {x y A B : Int} (hx : -A ≤ x ∧ x ≤ A) (hy : -B ≤ y ∧ y ≤ B) : -(A * B) ≤ x * y ∧ x * y ≤ A * B := by
  have h1 : x.natAbs ≤ A.toNat := by omega
  have h2 : y.natAbs ≤ B.toNat := by omega
  have h3 : (x * y).natAbs ≤ A.toNat * B.toNat := by rw [Int.natAbs_mul]; exact Nat.mul_le_mul h1 h2
  have h4 : ((A.toNat * B.toNat : Nat) : Int) = A * B := by
    rw [Int.natCast_mul, Int.toNat_of_nonneg (by omega), Int.toNat_of_nonneg (by omega)]
  omega

end Go.Proofs.Ytheaagbffphdmaa
