/-
  Numbers: absolute values, the greatest common divisor, fractions in lowest terms.
-/
import Derived.Test.YtpcbeapajlchgaaRange
set_option linter.unusedVariables false
set_option linter.unusedSimpArgs false
namespace Go.Proofs.Ytpcbeapajlchgaa
open Go.RowKit

/-- A number that products are taken of. -/
abbrev fine (x : Int) : Prop := -1152921504606846976 ≤ x ∧ x ≤ 1152921504606846976

theorem i_absOf (x : Int) (w : World) (h : -4611686018427387904 ≤ x ∧ x ≤ 4611686018427387904) : Calls Try.prog 92 #[.int .i64 x] w fun e w' => e = .returned (.int .i64 (max x (-x))) ∧ w = w' := by
  go_enter Try.func92, Try.ntmps92
  go_wp2
  all_goals go_ret
  all_goals exact ⟨ret_int (by omega), rfl⟩
theorem s_l1Most (a b : Int) (w : World) : Calls Try.prog 84 #[.int .i64 a, .int .i64 b] w fun e w' => e = .returned (.int .i64 (max a b)) ∧ w = w' := by
  by_cases h : a > b
  · go_enter Try.func84, Try.ntmps84
    go_wp2
    go_ret
    exact ⟨ret_int (by omega), rfl⟩
  · go_enter Try.func84, Try.ntmps84
    go_wp2
    go_ret
    exact ⟨ret_int (by omega), rfl⟩
theorem s_l1Least (a b : Int) (w : World) : Calls Try.prog 69 #[.int .i64 a, .int .i64 b] w fun e w' => e = .returned (.int .i64 (min a b)) ∧ w = w' := by
  by_cases h : a < b
  · go_enter Try.func69, Try.ntmps69
    go_wp2
    go_ret
    exact ⟨ret_int (by omega), rfl⟩
  · go_enter Try.func69, Try.ntmps69
    go_wp2
    go_ret
    exact ⟨ret_int (by omega), rfl⟩

/-- The greatest common divisor. -/
def gd (a b : Int) : Int := (Nat.gcd a.natAbs b.natAbs : Nat)
theorem max_abs (x : Int) : max x (-x) = (x.natAbs : Int) := by omega
theorem gd_pos {a b : Int} (h : 0 < b) : 0 < gd a b := by
  unfold gd
  have : 0 < Nat.gcd a.natAbs b.natAbs := Nat.gcd_pos_of_pos_right _ (by omega)
  omega
theorem gcd_step (x y : Nat) (h : y ≠ 0) : Nat.gcd y (x % y) = Nat.gcd x y := by
  rw [Nat.gcd_comm x y, Nat.gcd_rec y x, Nat.gcd_comm]

set_option maxHeartbeats 1000000 in
theorem i_gcdOf (a b : Int) (w : World) (ha : fine a) (hb : fine b) : Calls Try.prog 89 #[.int .i64 a, .int .i64 b] w fun e w' => e = .returned (.int .i64 (gd a b)) ∧ ∃ m, w' = w.drewN m := by
  have ea := max_abs a
  have eb := max_abs b
  have la : a.natAbs ≤ 1152921504606846976 := by omega
  have lb : b.natAbs ≤ 1152921504606846976 := by omega
  go_enter Try.func89, Try.ntmps89
  go_wp2_with fail
  refine (i_absOf _ _ (by omega)).mono ?_
  rintro e _ ⟨rfl, rfl⟩
  go_wp2_with fail
  refine (i_absOf _ _ (by omega)).mono ?_
  rintro e _ ⟨rfl, rfl⟩
  go_wp2
  go_loopw [0, 1] (fun s0 s1 wr => ∃ x y t : Nat, s0 = .int .i64 x ∧ s1 = .int .i64 y ∧ x ≤ 1152921504606846976 ∧ y ≤ 1152921504606846976 ∧ Hid (Nat.gcd x y = Nat.gcd a.natAbs b.natAbs) ∧ wr = w.drewN t) (fun _ s1 _ => (intOf s1).toNat)
  case atStart => exact ⟨a.natAbs, b.natAbs, 0, rfl, rfl, la, lb, rfl, rfl⟩
  case round =>
    obtain ⟨x, y, t, rfl, rfl, hx, hy, hg, rfl⟩ := hrel
    by_cases h0 : y = 0
    · subst h0
      go_wp2
      go_ret
      refine ⟨ret_int ?_, t, rfl⟩
      rw [gd, ← hg.out, Nat.gcd_zero_right]
    · go_wp2
      go_quiet (fail)
      go_wp2
      go_roundw
      case rel => exact ⟨y, x % y, t + nq, rfl, by rw [Int.natCast_emod], hy, by have := Nat.mod_lt x (Nat.pos_of_ne_zero h0); omega, by rw [gcd_step _ _ h0]; exact hg, by rw [World.drewN_drewN]⟩
      case measure =>
        have := Nat.mod_lt x (Nat.pos_of_ne_zero h0)
        simp only [intOf]
        rw [← Int.natCast_emod, Int.toNat_natCast, Int.toNat_natCast]
        exact this

set_option maxHeartbeats 1000000 in
theorem s_l3Common (a b : Int) (w : World) (ha : fine a) (hb : fine b) : Calls Try.prog 88 #[.int .i64 a, .int .i64 b] w fun e w' => e = .returned (.int .i64 (gd a b)) ∧ ∃ m, w' = w.drewN m := by
  have ea := max_abs a
  have eb := max_abs b
  have la : a.natAbs ≤ 1152921504606846976 := by omega
  have lb : b.natAbs ≤ 1152921504606846976 := by omega
  go_enter Try.func88, Try.ntmps88
  go_wp2_with fail
  refine (s_l1Most _ _ _).mono ?_
  rintro e _ ⟨rfl, rfl⟩
  go_wp2_with fail
  refine (s_l1Most _ _ _).mono ?_
  rintro e _ ⟨rfl, rfl⟩
  go_wp2
  go_loopw [0, 1] (fun s0 s1 wr => ∃ x y t : Nat, s0 = .int .i64 x ∧ s1 = .int .i64 y ∧ x ≤ 1152921504606846976 ∧ y ≤ 1152921504606846976 ∧ Hid (Nat.gcd x y = Nat.gcd a.natAbs b.natAbs) ∧ wr = w.drewN t) (fun _ s1 _ => (intOf s1).toNat)
  case atStart => exact ⟨a.natAbs, b.natAbs, 0, rfl, rfl, la, lb, rfl, rfl⟩
  case round =>
    obtain ⟨x, y, t, rfl, rfl, hx, hy, hg, rfl⟩ := hrel
    by_cases h0 : y = 0
    · subst h0
      go_wp2
      go_ret
      refine ⟨ret_int ?_, t, rfl⟩
      rw [gd, ← hg.out, Nat.gcd_zero_right]
    · go_wp2
      go_roundw
      case rel => exact ⟨y, x % y, t, rfl, by rw [Int.natCast_emod], hy, by have := Nat.mod_lt x (Nat.pos_of_ne_zero h0); omega, by rw [gcd_step _ _ h0]; exact hg, rfl⟩
      case measure =>
        have := Nat.mod_lt x (Nat.pos_of_ne_zero h0)
        simp only [intOf]
        rw [← Int.natCast_emod, Int.toNat_natCast, Int.toNat_natCast]
        exact this

/-- The parts of a fraction in lowest terms. -/
def lowN (a b : Int) : Int := a.tdiv (gd a b)
def lowD (a b : Int) : Int := b / gd a b
theorem gd_dvd (a b : Int) : gd a b ∣ b := by
  unfold gd
  exact Int.ofNat_dvd_left.2 (Nat.gcd_dvd_right _ _)
theorem lowD_pos {a b : Int} (h : 0 < b) : 0 < lowD a b := Int.ediv_pos_of_pos_of_dvd h (by have := gd_pos (a := a) h; omega) (gd_dvd a b)
theorem lowD_le {a b : Int} (h : 0 < b) : lowD a b ≤ b := Int.ediv_le_self _ (by omega)
theorem gd_ge {a b : Int} (h : 0 < b) : 1 ≤ gd a b := by have := gd_pos (a := a) h; omega
theorem lowN_abs {a b : Int} (h : 0 < b) : (lowN a b).natAbs ≤ a.natAbs := by
  unfold lowN
  rw [Int.natAbs_tdiv]
  exact Nat.div_le_self _ _
theorem lowN_fine {a b B : Int} (h : 0 < b) (hB : -B ≤ a ∧ a ≤ B) : -B ≤ lowN a b ∧ lowN a b ≤ B := by
  have := lowN_abs (a := a) h
  omega
theorem gd_dvdN (a b : Int) : gd a b ∣ a := by
  unfold gd
  exact Int.ofNat_dvd_left.2 (Nat.gcd_dvd_left _ _)
/-- The fraction is the same. -/
theorem low_eq {a b : Int} (h : 0 < b) : lowN a b * b = a * lowD a b := by
  obtain ⟨x, hx⟩ := gd_dvdN a b
  obtain ⟨y, hy⟩ := gd_dvd a b
  have hg := gd_pos (a := a) h
  have e1 : lowN a b = x := by
    unfold lowN
    generalize hG : gd a b = G at *
    rw [hx]; exact Int.mul_tdiv_cancel_left _ (by omega)
  have e2 : lowD a b = y := by
    unfold lowD
    generalize hG : gd a b = G at *
    rw [hy]; exact Int.mul_ediv_cancel_left _ (by omega)
  rw [e1, e2]
  generalize hG : gd a b = G at *
  rw [hy, hx]
  grind

theorem i_lowestTerms (a b : Int) (w : World) (ha : fine a) (hb : fine b) (h0 : 0 < b) : Calls Try.prog 68 #[.int .i64 a, .int .i64 b] w fun e w' => e = .returned (.tuple #[.int .i64 (lowN a b), .int .i64 (lowD a b)]) ∧ ∃ m, w' = w.drewN m := by
  have hg := gd_pos (a := a) h0
  go_enter Try.func68, Try.ntmps68
  go_wp2_with fail
  refine (i_gcdOf _ _ _ ha hb).mono ?_
  rintro e _ ⟨rfl, m, rfl⟩
  go_wp2
  go_quiet (fail)
  go_wp2
  go_ret2
  exact ⟨rfl, _, World.drewN_drewN ..⟩
theorem s_l3Reduce (a b : Int) (w : World) (ha : fine a) (hb : fine b) (h0 : 0 < b) : Calls Try.prog 65 #[.int .i64 a, .int .i64 b] w fun e w' => e = .returned (.tuple #[.int .i64 (lowN a b), .int .i64 (lowD a b)]) ∧ ∃ m, w' = w.drewN m := by
  have hg := gd_pos (a := a) h0
  go_enter Try.func65, Try.ntmps65
  go_wp2_with fail
  refine (s_l3Common _ _ _ ha hb).mono ?_
  rintro e _ ⟨rfl, m, rfl⟩
  go_wp2
  go_quiet (fail)
  go_wp2
  go_ret2
  exact ⟨rfl, _, World.drewN_drewN ..⟩

theorem i_asPart (a b : Int) (w : World) (ha : fine a) (hb : fine b) (h0 : 0 < b) : Calls Try.prog 87 #[.int .i64 a, .int .i64 b] w fun e w' => e = .returned (.agg #[.int .i64 (lowN a b), .int .i64 (lowD a b)]) ∧ Below w.heap.size w w' := by
  go_enter Try.func87, Try.ntmps87
  go_wp2_with fail
  refine (i_lowestTerms _ _ _ ha hb h0).mono ?_
  rintro e _ ⟨rfl, m, rfl⟩
  go_wp2
  go_returns
  refine ⟨rfl, ?_⟩
  repeat' (first | (with_reducible exact Below.refl _ _) | (with_reducible assumption) | (with_reducible refine bstep ?_ (by with_reducible assumption)) | (with_reducible refine Below.alloc ?_ ?_ _) | (with_reducible refine Below.setCell ?_ ?_ _) | (with_reducible refine Below.drew ?_) | (with_reducible refine below_drewN ?_ _) | omega | (simp only [World.size_alloc, World.size_setCell, World.size_drew]; omega) | (simp; omega))

theorem mul_in {x y A B : Int} (hx : -A ≤ x ∧ x ≤ A) (hy : -B ≤ y ∧ y ≤ B) : -(A * B) ≤ x * y ∧ x * y ≤ A * B := by
  have h1 : x.natAbs ≤ A.toNat := by omega
  have h2 : y.natAbs ≤ B.toNat := by omega
  have h3 : (x * y).natAbs ≤ A.toNat * B.toNat := by rw [Int.natAbs_mul]; exact Nat.mul_le_mul h1 h2
  have h4 : ((A.toNat * B.toNat : Nat) : Int) = A * B := by
    rw [Int.natCast_mul, Int.toNat_of_nonneg (by omega), Int.toNat_of_nonneg (by omega)]
  omega

end Go.Proofs.Ytpcbeapajlchgaa
