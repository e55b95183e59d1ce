/-
  Texts of this claim, joined: Funcs, Range, Nums, ProfA, FlatP, TakeH, LastH.
-/
import Derived.Test.YtpmffboojkfpdaaUs1
/-
  What slices.IndexFunc and slices.ContainsFunc do over a test that only reads.
-/
set_option linter.unusedVariables false
namespace Go.Proofs.Ytpmffboojkfpdaa
open Go.RowKit

def enters (F : Nat) : Prop := ∀ (args : Array Value) (w : World), (callFunc F args).run Try.prog w = .ok (.enter F args) w

/-- The first index at which a test says yes, -1 if there is none. -/
def indexFn (p : Int → Bool) (l : List Int) : Int := match l.findIdx? p with | some i => (i : Int) | none => -1

theorem indexFn_hit (p : Int → Bool) (l : List Int) (k : Nat) (hk : k < l.length) (hp : p (l[k]?.getD 0) = true) (hm : ∀ j, j < k → p (l[j]?.getD 0) = false) : indexFn p l = k := by
  unfold indexFn
  have : l.findIdx? p = some k := by
    rw [List.findIdx?_eq_some_iff_getElem]
    refine ⟨hk, by rw [List.getElem?_eq_getElem hk] at hp; exact hp, fun j hj => ?_⟩
    have := hm j hj
    rw [List.getElem?_eq_getElem (by omega)] at this
    simpa using this
  rw [this]

theorem indexFn_miss (p : Int → Bool) (l : List Int) (hm : ∀ j, j < l.length → p (l[j]?.getD 0) = false) : indexFn p l = -1 := by
  unfold indexFn
  have : l.findIdx? p = none := by
    rw [List.findIdx?_eq_none_iff]
    intro x hx
    obtain ⟨j, hj, rfl⟩ := List.mem_iff_getElem.1 hx
    have := hm j hj
    rw [List.getElem?_eq_getElem hj] at this
    exact this
  rw [this]

set_option maxHeartbeats 400000 in
theorem f_IndexFunc (F : Nat) (cs : Array Value) (p : Int → Bool) (hF : enters F) (a : Option Addr) (n c : Nat) (l : List Int) (w : World) (h : IntsAt w a n l) (hn : n ≤ 4194304)
    (H : ∀ x w', x ∈ l → Below w.heap.size w w' → Calls Try.prog F (#[.int .i64 x] ++ cs) w' fun e w'' => e = .returned (.bool (p x)) ∧ Below w'.heap.size w' w'') :
    Calls Try.prog 114 #[.slice a n c, .func (.func F) #[] cs] w fun e w' => e = .returned (.int .i64 (indexFn p l)) ∧ Below w.heap.size w w' := by
  unfold enters at hF
  have HC := hid H
  have HI := hid h
  clear h H
  go_enter Try.func114, Try.ntmps114
  go_wp2
  go_loopw [5, 8] (fun j i wr => ∃ k : Nat, k ≤ n ∧ i = .int .i64 k ∧ Hid (Below w.heap.size w wr ∧ ∀ j, j < k → p (l[j]?.getD 0) = false)) (fun _ i _ => n - (intOf i).toNat)
  case atStart => exact ⟨0, Nat.zero_le _, rfl, Below.refl _ _, fun j hj => absurd hj (by omega)⟩
  case round =>
    obtain ⟨k, hk, rfl, hh⟩ := hrel
    by_cases hlt : k < n
    · obtain ⟨b, off, rfl, hbw, hcell⟩ := (HI.out.below hh.out.1).2 k hlt
      have hm : l[k]?.getD 0 ∈ l := getD_mem l k (by have := HI.out.1; omega)
      have hfun := hid (HC.out _ _ hm hh.out.1)
      clear hm
      cases hp : p (l[k]?.getD 0)
      · go_wp2_with fail
        refine hfun.out.mono ?_
        rintro e w' ⟨rfl, hb⟩
        rw [hp]
        have HP := hid hp
        have HB := hid hb
        clear hp hb
        go_wp2
        go_roundw
        case rel =>
          refine ⟨k + 1, by omega, by go_num, bstep hh.out.1 HB.out, fun j hj => ?_⟩
          by_cases e : j = k
          · subst e; exact HP.out
          · exact hh.out.2 j (by omega)
        case measure => simp [intOf]; omega
      · go_wp2_with fail
        refine hfun.out.mono ?_
        rintro e w' ⟨rfl, hb⟩
        rw [hp]
        have HP := hid hp
        have HB := hid hb
        clear hp hb
        go_wp2
        go_ret
        refine ⟨ret_int ?_, bstep hh.out.1 HB.out⟩
        rw [indexFn_hit p l k (by have := HI.out.1; omega) HP.out hh.out.2]
    · go_wp2
      go_ret
      refine ⟨ret_int ?_, hh.out.1⟩
      rw [indexFn_miss p l (fun j hj => hh.out.2 j (by have := HI.out.1; omega))]

theorem indexFn_any (p : Int → Bool) (l : List Int) : decide (0 ≤ indexFn p l) = l.any p := by
  unfold indexFn
  cases h : l.findIdx? p with
  | none => 
    rw [List.findIdx?_eq_none_iff] at h
    symm; simp; intro x hx; simpa using h x hx
  | some i =>
    have hl : i < l.length := by
      obtain ⟨h1, _⟩ := List.findIdx?_eq_some_iff_getElem.1 h
      exact h1
    have : l.any p = true := by
      rw [List.any_eq_true]
      obtain ⟨h1, h2, _⟩ := List.findIdx?_eq_some_iff_getElem.1 h
      exact ⟨l[i], List.getElem_mem h1, h2⟩
    rw [this]; simp

theorem f_ContainsFunc (F : Nat) (cs : Array Value) (p : Int → Bool) (hF : enters F) (a : Option Addr) (n c : Nat) (l : List Int) (w : World) (h : IntsAt w a n l) (hn : n ≤ 4194304)
    (H : ∀ x w', x ∈ l → Below w.heap.size w w' → Calls Try.prog F (#[.int .i64 x] ++ cs) w' fun e w'' => e = .returned (.bool (p x)) ∧ Below w'.heap.size w' w'') :
    Calls Try.prog 88 #[.slice a n c, .func (.func F) #[] cs] w fun e w' => e = .returned (.bool (l.any p)) ∧ Below w.heap.size w w' := by
  have HF := hid (f_IndexFunc F cs p hF a n c l w h hn H)
  clear hF h H
  have HP := hid (indexFn_any p l)
  go_enter Try.func88, Try.ntmps88
  go_wp2_with fail
  refine HF.out.mono ?_
  rintro e w' ⟨rfl, hb⟩
  go_wp2
  go_ret
  exact ⟨ret_bool HP.out, hb⟩

end Go.Proofs.Ytpmffboojkfpdaa

/-
  A number in a range.
-/
set_option linter.unusedVariables false
set_option linter.unusedSimpArgs false
namespace Go.Proofs.Ytpmffboojkfpdaa
open Go.RowKit

def inR (n lo hi : Int) : Bool := decide (lo ≤ n ∧ n ≤ hi)
theorem inR_iff {n lo hi : Int} : inR n lo hi = true ↔ lo ≤ n ∧ n ≤ hi := by simp [inR]
theorem inR_no {n lo hi : Int} : inR n lo hi = false ↔ ¬ (lo ≤ n ∧ n ≤ hi) := by simp [inR]

theorem i_inside (n lo hi : Int) (w : World) : Calls Try.prog 76 #[.int .i64 n, .int .i64 lo, .int .i64 hi] w fun e w' => e = .returned (.bool (inR n lo hi)) ∧ w = w' := by
  go_enter Try.func76, Try.ntmps76
  go_wp2
  all_goals go_ret
  all_goals exact ⟨ret_bool (by simp [inR] <;> omega), rfl⟩
theorem s_l1In (n lo hi : Int) (w : World) : Calls Try.prog 74 #[.int .i64 n, .int .i64 lo, .int .i64 hi] w fun e w' => e = .returned (.bool (inR n lo hi)) ∧ w = w' := by
  go_enter Try.func74, Try.ntmps74
  go_wp2
  all_goals go_ret
  all_goals exact ⟨ret_bool (by simp [inR] <;> omega), rfl⟩

end Go.Proofs.Ytpmffboojkfpdaa

/-
  Numbers: absolute values, the greatest common divisor, fractions in lowest terms.
-/
set_option linter.unusedVariables false
set_option linter.unusedSimpArgs false
namespace Go.Proofs.Ytpmffboojkfpdaa
open Go.RowKit

/-- A number that products are taken of. -/
abbrev fine (x : Int) : Prop := -1152921504606846976 ≤ x ∧ x ≤ 1152921504606846976

theorem i_absOf (x : Int) (w : World) (h : -4611686018427387904 ≤ x ∧ x ≤ 4611686018427387904) : Calls Try.prog 131 #[.int .i64 x] w fun e w' => e = .returned (.int .i64 (max x (-x))) ∧ w = w' := by
  go_enter Try.func131, Try.ntmps131
  go_wp2
  all_goals go_ret
  all_goals exact ⟨ret_int (by omega), rfl⟩
theorem s_l1Most (a b : Int) (w : World) : Calls Try.prog 79 #[.int .i64 a, .int .i64 b] w fun e w' => e = .returned (.int .i64 (max a b)) ∧ w = w' := by
  by_cases h : a > b
  · go_enter Try.func79, Try.ntmps79
    go_wp2
    go_ret
    exact ⟨ret_int (by omega), rfl⟩
  · go_enter Try.func79, Try.ntmps79
    go_wp2
    go_ret
    exact ⟨ret_int (by omega), rfl⟩
theorem s_l1Least (a b : Int) (w : World) : Calls Try.prog 78 #[.int .i64 a, .int .i64 b] w fun e w' => e = .returned (.int .i64 (min a b)) ∧ w = w' := by
  by_cases h : a < b
  · go_enter Try.func78, Try.ntmps78
    go_wp2
    go_ret
    exact ⟨ret_int (by omega), rfl⟩
  · go_enter Try.func78, Try.ntmps78
    go_wp2
    go_ret
    exact ⟨ret_int (by omega), rfl⟩

/-- The greatest common divisor. -/
def gd (a b : Int) : Int := (Nat.gcd a.natAbs b.natAbs : Nat)
theorem max_abs (x : Int) : max x (-x) = (x.natAbs : Int) := by omega
theorem gd_pos {a b : Int} (h : 0 < b) : 0 < gd a b := by
  unfold gd
  have : 0 < Nat.gcd a.natAbs b.natAbs := Nat.gcd_pos_of_pos_right _ (by omega)
  omega
theorem gcd_step (x y : Nat) (h : y ≠ 0) : Nat.gcd y (x % y) = Nat.gcd x y := by
  rw [Nat.gcd_comm x y, Nat.gcd_rec y x, Nat.gcd_comm]

set_option maxHeartbeats 1000000 in
theorem i_gcdOf (a b : Int) (w : World) (ha : fine a) (hb : fine b) : Calls Try.prog 112 #[.int .i64 a, .int .i64 b] w fun e w' => e = .returned (.int .i64 (gd a b)) ∧ ∃ m, w' = w.drewN m := by
  have ea := max_abs a
  have eb := max_abs b
  have la : a.natAbs ≤ 1152921504606846976 := by omega
  have lb : b.natAbs ≤ 1152921504606846976 := by omega
  go_enter Try.func112, Try.ntmps112
  go_wp2_with fail
  refine (i_absOf _ _ (by omega)).mono ?_
  rintro e _ ⟨rfl, rfl⟩
  go_wp2_with fail
  refine (i_absOf _ _ (by omega)).mono ?_
  rintro e _ ⟨rfl, rfl⟩
  go_wp2
  go_loopw [0, 1] (fun s0 s1 wr => ∃ x y t : Nat, s0 = .int .i64 x ∧ s1 = .int .i64 y ∧ x ≤ 1152921504606846976 ∧ y ≤ 1152921504606846976 ∧ Hid (Nat.gcd x y = Nat.gcd a.natAbs b.natAbs) ∧ wr = w.drewN t) (fun _ s1 _ => (intOf s1).toNat)
  case atStart => exact ⟨a.natAbs, b.natAbs, 0, rfl, rfl, la, lb, rfl, rfl⟩
  case round =>
    obtain ⟨x, y, t, rfl, rfl, hx, hy, hg, rfl⟩ := hrel
    by_cases h0 : y = 0
    · subst h0
      go_wp2
      go_ret
      refine ⟨ret_int ?_, t, rfl⟩
      rw [gd, ← hg.out, Nat.gcd_zero_right]
    · go_wp2
      go_quiet (fail)
      go_wp2
      go_roundw
      case rel => exact ⟨y, x % y, t + nq, rfl, by rw [Int.natCast_emod], hy, by have := Nat.mod_lt x (Nat.pos_of_ne_zero h0); omega, by rw [gcd_step _ _ h0]; exact hg, by rw [World.drewN_drewN]⟩
      case measure =>
        have := Nat.mod_lt x (Nat.pos_of_ne_zero h0)
        simp only [intOf]
        rw [← Int.natCast_emod, Int.toNat_natCast, Int.toNat_natCast]
        exact this

set_option maxHeartbeats 1000000 in
theorem s_l3Common (a b : Int) (w : World) (ha : fine a) (hb : fine b) : Calls Try.prog 111 #[.int .i64 a, .int .i64 b] w fun e w' => e = .returned (.int .i64 (gd a b)) ∧ ∃ m, w' = w.drewN m := by
  have ea := max_abs a
  have eb := max_abs b
  have la : a.natAbs ≤ 1152921504606846976 := by omega
  have lb : b.natAbs ≤ 1152921504606846976 := by omega
  go_enter Try.func111, Try.ntmps111
  go_wp2_with fail
  refine (s_l1Most _ _ _).mono ?_
  rintro e _ ⟨rfl, rfl⟩
  go_wp2_with fail
  refine (s_l1Most _ _ _).mono ?_
  rintro e _ ⟨rfl, rfl⟩
  go_wp2
  go_loopw [0, 1] (fun s0 s1 wr => ∃ x y t : Nat, s0 = .int .i64 x ∧ s1 = .int .i64 y ∧ x ≤ 1152921504606846976 ∧ y ≤ 1152921504606846976 ∧ Hid (Nat.gcd x y = Nat.gcd a.natAbs b.natAbs) ∧ wr = w.drewN t) (fun _ s1 _ => (intOf s1).toNat)
  case atStart => exact ⟨a.natAbs, b.natAbs, 0, rfl, rfl, la, lb, rfl, rfl⟩
  case round =>
    obtain ⟨x, y, t, rfl, rfl, hx, hy, hg, rfl⟩ := hrel
    by_cases h0 : y = 0
    · subst h0
      go_wp2
      go_ret
      refine ⟨ret_int ?_, t, rfl⟩
      rw [gd, ← hg.out, Nat.gcd_zero_right]
    · go_wp2
      go_roundw
      case rel => exact ⟨y, x % y, t, rfl, by rw [Int.natCast_emod], hy, by have := Nat.mod_lt x (Nat.pos_of_ne_zero h0); omega, by rw [gcd_step _ _ h0]; exact hg, rfl⟩
      case measure =>
        have := Nat.mod_lt x (Nat.pos_of_ne_zero h0)
        simp only [intOf]
        rw [← Int.natCast_emod, Int.toNat_natCast, Int.toNat_natCast]
        exact this

/-- The parts of a fraction in lowest terms. -/
def lowN (a b : Int) : Int := a.tdiv (gd a b)
def lowD (a b : Int) : Int := b / gd a b
theorem gd_dvd (a b : Int) : gd a b ∣ b := by
  unfold gd
  exact Int.ofNat_dvd_left.2 (Nat.gcd_dvd_right _ _)
theorem lowD_pos {a b : Int} (h : 0 < b) : 0 < lowD a b := Int.ediv_pos_of_pos_of_dvd h (by have := gd_pos (a := a) h; omega) (gd_dvd a b)
theorem lowD_le {a b : Int} (h : 0 < b) : lowD a b ≤ b := Int.ediv_le_self _ (by omega)
theorem gd_ge {a b : Int} (h : 0 < b) : 1 ≤ gd a b := by have := gd_pos (a := a) h; omega
theorem lowN_abs {a b : Int} (h : 0 < b) : (lowN a b).natAbs ≤ a.natAbs := by
  unfold lowN
  rw [Int.natAbs_tdiv]
  exact Nat.div_le_self _ _
theorem lowN_fine {a b B : Int} (h : 0 < b) (hB : -B ≤ a ∧ a ≤ B) : -B ≤ lowN a b ∧ lowN a b ≤ B := by
  have := lowN_abs (a := a) h
  omega
theorem gd_dvdN (a b : Int) : gd a b ∣ a := by
  unfold gd
  exact Int.ofNat_dvd_left.2 (Nat.gcd_dvd_left _ _)
/-- The fraction is the same. -/
theorem low_eq {a b : Int} (h : 0 < b) : lowN a b * b = a * lowD a b := by
  obtain ⟨x, hx⟩ := gd_dvdN a b
  obtain ⟨y, hy⟩ := gd_dvd a b
  have hg := gd_pos (a := a) h
  have e1 : lowN a b = x := by
    unfold lowN
    generalize hG : gd a b = G at *
    rw [hx]; exact Int.mul_tdiv_cancel_left _ (by omega)
  have e2 : lowD a b = y := by
    unfold lowD
    generalize hG : gd a b = G at *
    rw [hy]; exact Int.mul_ediv_cancel_left _ (by omega)
  rw [e1, e2]
  generalize hG : gd a b = G at *
  rw [hy, hx]
  grind

theorem i_lowestTerms (a b : Int) (w : World) (ha : fine a) (hb : fine b) (h0 : 0 < b) : Calls Try.prog 73 #[.int .i64 a, .int .i64 b] w fun e w' => e = .returned (.tuple #[.int .i64 (lowN a b), .int .i64 (lowD a b)]) ∧ ∃ m, w' = w.drewN m := by
  have hg := gd_pos (a := a) h0
  go_enter Try.func73, Try.ntmps73
  go_wp2_with fail
  refine (i_gcdOf _ _ _ ha hb).mono ?_
  rintro e _ ⟨rfl, m, rfl⟩
  go_wp2
  go_quiet (fail)
  go_wp2
  go_ret2
  exact ⟨rfl, _, World.drewN_drewN ..⟩
theorem s_l3Reduce (a b : Int) (w : World) (ha : fine a) (hb : fine b) (h0 : 0 < b) : Calls Try.prog 71 #[.int .i64 a, .int .i64 b] w fun e w' => e = .returned (.tuple #[.int .i64 (lowN a b), .int .i64 (lowD a b)]) ∧ ∃ m, w' = w.drewN m := by
  have hg := gd_pos (a := a) h0
  go_enter Try.func71, Try.ntmps71
  go_wp2_with fail
  refine (s_l3Common _ _ _ ha hb).mono ?_
  rintro e _ ⟨rfl, m, rfl⟩
  go_wp2
  go_quiet (fail)
  go_wp2
  go_ret2
  exact ⟨rfl, _, World.drewN_drewN ..⟩


theorem mul_in {x y A B : Int} (hx : -A ≤ x ∧ x ≤ A) (hy : -B ≤ y ∧ y ≤ B) : -(A * B) ≤ x * y ∧ x * y ≤ A * B := by
  have h1 : x.natAbs ≤ A.toNat := by omega
  have h2 : y.natAbs ≤ B.toNat := by omega
  have h3 : (x * y).natAbs ≤ A.toNat * B.toNat := by rw [Int.natAbs_mul]; exact Nat.mul_le_mul h1 h2
  have h4 : ((A.toNat * B.toNat : Nat) : Int) = A * B := by
    rw [Int.natCast_mul, Int.toNat_of_nonneg (by omega), Int.toNat_of_nonneg (by omega)]
  omega

end Go.Proofs.Ytpmffboojkfpdaa

/-
  Profiles: which are valid, and the numbers of their hours.
-/
set_option linter.unusedVariables false
set_option linter.unusedSimpArgs false
namespace Go.Proofs.Ytpmffboojkfpdaa
open Go.RowKit

/-- A valid list of percentages. -/
def goodProf (l : List Int) : Bool := decide (l.length = 24) && !l.any (fun x => !inR x 0 1000) && decide (l.sum = 2400)
theorem any_inR {l : List Int} {lo hi : Int} : (l.any fun x => !inR x lo hi) = false ↔ ∀ x ∈ l, lo ≤ x ∧ x ≤ hi := by
  rw [List.any_eq_false]
  constructor
  · intro h x hx
    have := h x hx
    simp only [Bool.not_eq_true, Bool.not_eq_false'] at this
    exact inR_iff.1 this
  · intro h x hx
    simp [inR_iff.2 (h x hx)]
theorem goodProf_iff {l : List Int} : goodProf l = true ↔ l.length = 24 ∧ (∀ x ∈ l, 0 ≤ x ∧ x ≤ 1000) ∧ l.sum = 2400 := by
  simp only [goodProf, Bool.and_eq_true, decide_eq_true_eq, Bool.not_eq_true', any_inR, and_assoc]

theorem enters_IsValidProfile : enters 89 := by intro args w; kernel_rfl
theorem i_IsValidProfile1 (x : Int) (w : World) : Calls Try.prog 89 #[.int .i64 x] w fun e w' => e = .returned (.bool (!inR x 0 1000)) ∧ Below w.heap.size w w' := by
  go_enter Try.func89, Try.ntmps89
  go_wp2_with fail
  refine (i_inside _ _ _ _).mono ?_
  rintro e w' ⟨rfl, rfl⟩
  go_wp2
  go_ret
  exact ⟨rfl, by go_grown⟩

theorem i_IsValidProfile (a : Option Addr) (n c : Nat) (l : List Int) (w : World) (h : IntsAt w a n l) (hn : n ≤ 1048576) :
    Calls Try.prog 32 #[.agg #[.slice a n c]] w fun e w' => e = .returned (.bool (goodProf l)) ∧ Below w.heap.size w w' := by
  have hl := h.1
  have H := hid h
  clear h
  by_cases h1 : n = 24
  · cases h2 : l.any (fun x => !inR x 0 1000)
    · have hv := any_inR.1 h2
      have HV := hid (show ∀ x ∈ l, -1000000000000 ≤ x ∧ x ≤ 1000000000000 from fun x hx => by have := hv x hx; omega)
      have E := hid (show decide (l.sum = 2400) = goodProf l by simp [goodProf, h2, hl, h1])
      have H2 := hid h2
      clear h2 hv
      subst h1
      go_enter Try.func32, Try.ntmps32
      go_wp2_with fail
      refine (f_ContainsFunc 89 #[] (fun x => !inR x 0 1000) enters_IsValidProfile a 24 c l _ (H.out.below (by go_grown)) (by omega) (fun x w' _ _ => i_IsValidProfile1 x w')).mono ?_
      rintro e w1 ⟨rfl, hb1⟩
      rw [H2.out]
      obtain ⟨hc1, hf1⟩ := bcell hb1
      have hz := hb1.size
      simp only [World.size_alloc] at hz
      have hz0 : w.heap.size < w1.heap.size := by omega
      go_wp2_with fail
      refine (i_sumInts _ _ _ l _ (H.out.below (bstep (by go_grown) hb1)) (by omega) HV.out).mono ?_
      rintro e _ ⟨rfl, rfl⟩
      go_wp2
      go_ret
      refine ⟨ret_bool ?_, bstep (by go_grown) hb1⟩
      rw [← E.out]
      exact Bool.eq_iff_iff.2 (by simp)
    · have E := hid (show false = goodProf l by simp [goodProf, h2])
      have H2 := hid h2
      clear h2
      subst h1
      go_enter Try.func32, Try.ntmps32
      go_wp2_with fail
      refine (f_ContainsFunc 89 #[] (fun x => !inR x 0 1000) enters_IsValidProfile a 24 c l _ (H.out.below (by go_grown)) (by omega) (fun x w' _ _ => i_IsValidProfile1 x w')).mono ?_
      rintro e w1 ⟨rfl, hb1⟩
      rw [H2.out]
      go_wp2
      go_ret
      exact ⟨ret_bool E.out, bstep (by go_grown) hb1⟩
  · have E := hid (show false = goodProf l by simp [goodProf, hl, h1])
    clear hl
    go_enter Try.func32, Try.ntmps32
    go_wp2
    go_ret
    exact ⟨ret_bool E.out, by go_grown⟩

theorem take_mem_succ {l : List Int} {k : Nat} {p : Int → Prop} (hk : k < l.length) (h : ∀ x ∈ l.take k, p x) (hp : p (l[k]?.getD 0)) : ∀ x ∈ l.take (k + 1), p x := by
  intro x hx
  rw [take_succ' l k hk, List.mem_append, List.mem_singleton] at hx
  rcases hx with hx | rfl
  · exact h x hx
  · exact hp

set_option maxHeartbeats 1000000 in
theorem s_l6Good (a : Option Addr) (n c : Nat) (l : List Int) (w : World) (h : IntsAt w a n l) (hn : n ≤ 1048576) :
    Calls Try.prog 67 #[.agg #[.slice a n c]] w fun e w' => e = .returned (.bool (goodProf l)) ∧ Below w.heap.size w w' := by
  have H := hid h
  have HL := hid h.1
  clear h
  go_enter Try.func67, Try.ntmps67
  go_wp2
  go_loopg [3, 4] n (fun g s i wr => ∃ k : Nat, k ≤ n ∧ g = n - k ∧ i = .int .i64 k ∧ s = .int .i64 ((l.take k).sum) ∧ wr = w.alloc (.cells #[.slice a n c] 26) ∧ Hid (∀ x ∈ l.take k, 0 ≤ x ∧ x ≤ 1000))
  case atStart => exact ⟨0, Nat.zero_le _, rfl, rfl, rfl, rfl, hid (fun x hx => by simp at hx)⟩
  case round =>
    obtain ⟨k, hk, rfl, rfl, rfl, rfl, hh⟩ := hrel
    have hb1 := sum_fit (B := 1000) (by decide) hh.out
    have hlen : (l.take k).length = k := by rw [List.length_take]; have := HL.out; omega
    rw [hlen] at hb1
    clear hlen
    by_cases hlt : k < n
    · obtain ⟨b, off, rfl, hbw, hcell⟩ := (H.out.below ((Below.refl _ _).alloc (Nat.le_refl _) (.cells #[.slice a n c] 26))).2 k hlt
      cases hx : inR (l[k]?.getD 0) 0 1000
      · have HX := hid hx
        clear hx
        go_wp2_with fail
        refine (s_l1In _ _ _ _).mono ?_
        rintro e _ ⟨rfl, rfl⟩
        rw [HX.out]
        go_wp2
        go_ret
        refine ⟨ret_bool ?_, by go_grown⟩
        have : goodProf l ≠ true := fun e => by
          have h2 := (goodProf_iff.1 e).2.1 _ (getD_mem' (k := k) (by have := HL.out; omega))
          rw [inR_iff.2 h2] at HX
          exact absurd HX.out (by simp)
        simpa using this.symm
      · have HX := hid hx
        have hx2 := inR_iff.1 hx
        clear hx
        go_wp2_with fail
        refine (s_l1In _ _ _ _).mono ?_
        rintro e _ ⟨rfl, rfl⟩
        rw [HX.out]
        go_wp2
        go_roundg (n - (k + 1))
        case rel => exact ⟨k + 1, by omega, rfl, by go_num, by rw [sum_take_succ l k (by have := HL.out; omega)], rfl, hid (take_mem_succ (by have := HL.out; omega) hh.out hx2)⟩
        case measure => omega
    · obtain rfl : k = n := by omega
      have hall : l.take k = l := List.take_of_length_le (by have := HL.out; omega)
      by_cases h24 : k = 24
      · have E := hid (show decide ((l.take k).sum = 2400) = goodProf l by rw [hall] at hh ⊢; simp [goodProf, any_inR.2 hh.out, HL.out, h24])
        clear hall
        subst h24
        go_wp2
        go_ret
        refine ⟨ret_bool ?_, by go_grown⟩
        rw [← E.out]
        exact Bool.eq_iff_iff.2 (by simp)
      · have E := hid (show false = goodProf l by simp [goodProf, HL.out, h24])
        clear hall
        go_wp2
        go_ret
        exact ⟨ret_bool E.out, by go_grown⟩

theorem i_isBase (n : Int) (w : World) : Calls Try.prog 72 #[.int .i64 n] w fun e w' => e = .returned (.bool (inR n 0 100000)) ∧ w = w' := by
  go_enter Try.func72, Try.ntmps72
  go_wp2_with fail
  refine (i_inside _ _ _ _).mono ?_
  rintro e w' ⟨rfl, rfl⟩
  go_wp2
  go_ret
  exact ⟨rfl, rfl⟩
theorem i_isHour (n : Int) (w : World) : Calls Try.prog 69 #[.int .i64 n] w fun e w' => e = .returned (.bool (inR n 0 23)) ∧ w = w' := by
  go_enter Try.func69, Try.ntmps69
  go_wp2_with fail
  refine (i_inside _ _ _ _).mono ?_
  rintro e w' ⟨rfl, rfl⟩
  go_wp2
  go_ret
  exact ⟨rfl, rfl⟩
theorem s_l6Base (n : Int) (w : World) : Calls Try.prog 70 #[.int .i64 n] w fun e w' => e = .returned (.bool (inR n 0 100000)) ∧ w = w' := by
  go_enter Try.func70, Try.ntmps70
  go_wp2_with fail
  refine (s_l1In _ _ _ _).mono ?_
  rintro e w' ⟨rfl, rfl⟩
  go_wp2
  go_ret
  exact ⟨rfl, rfl⟩
theorem s_l6Hour (n : Int) (w : World) : Calls Try.prog 68 #[.int .i64 n] w fun e w' => e = .returned (.bool (inR n 0 23)) ∧ w = w' := by
  go_enter Try.func68, Try.ntmps68
  go_wp2_with fail
  refine (s_l1In _ _ _ _).mono ?_
  rintro e w' ⟨rfl, rfl⟩
  go_wp2
  go_ret
  exact ⟨rfl, rfl⟩

/-- The sum of successive hours. -/
def hrs (l : List Int) (f k : Nat) : Int := ((List.range k).map fun i => l[(f + i) % 24]?.getD 0).sum
theorem hrs_succ (l : List Int) (f k : Nat) : hrs l f (k + 1) = hrs l f k + l[(f + k) % 24]?.getD 0 := by
  simp [hrs, List.range_succ]
theorem hrs_fit {l : List Int} (h : goodProf l = true) (f k : Nat) : 0 ≤ hrs l f k ∧ hrs l f k ≤ 1000 * (k : Int) := by
  have hg := goodProf_iff.1 h
  have := sum_fit (l := (List.range k).map fun i => l[(f + i) % 24]?.getD 0) (B := 1000) (by decide) (by
    intro x hx
    obtain ⟨i, hi, rfl⟩ := List.mem_map.1 hx
    exact hg.2.1 _ (getD_mem' (by rw [hg.1]; exact Nat.mod_lt _ (by decide))))
  simpa [hrs] using this

set_option maxHeartbeats 1000000 in
theorem i_sumFrom (a : Option Addr) (n c f k0 : Nat) (l : List Int) (w : World) (h : IntsAt w a n l) (hg : goodProf l = true) (hf : f ≤ 23) (hk : k0 ≤ 24) :
    Calls Try.prog 77 #[.agg #[.slice a n c], .int .i64 f, .int .i64 k0] w fun e w' => e = .returned (.int .i64 (hrs l f k0)) ∧ Below w.heap.size w w' := by
  have hn : n = 24 := by have := h.1; have := (goodProf_iff.1 hg).1; omega
  have H := hid h
  have HG := hid hg
  clear h hg
  subst hn
  go_enter Try.func77, Try.ntmps77
  go_wp2
  go_loopg [7, 10] k0 (fun g s i wr => ∃ k : Nat, k ≤ k0 ∧ g = k0 - k ∧ i = .int .i64 k ∧ s = .int .i64 (hrs l f k) ∧ wr = w.alloc (.cells #[.slice a 24 c] 26))
  case atStart => exact ⟨0, Nat.zero_le _, rfl, rfl, rfl, rfl⟩
  case round =>
    obtain ⟨k, hk, rfl, rfl, rfl, rfl⟩ := hrel
    have hb1 := hrs_fit HG.out f k
    have hb2 := hrs_fit HG.out f (k + 1)
    rw [hrs_succ] at hb2
    by_cases hlt : k < k0
    · have hm : (f + k) % 24 < 24 := Nat.mod_lt _ (by decide)
      obtain ⟨b, off, rfl, hbw, hcell⟩ := (H.out.below ((Below.refl _ _).alloc (Nat.le_refl _) (.cells #[.slice a 24 c] 26))).2 ((f + k) % 24) hm
      have e1 : ((f : Int) + (k : Int)).tmod 24 = (((f + k) % 24 : Nat) : Int) := by rw [Int.tmod_eq_emod_of_nonneg (by omega)]; omega
      have e2 : (((f : Int) + (k : Int)) % 24).toNat = (f + k) % 24 := by omega
      go_wp2
      go_roundg (k0 - (k + 1))
      case rel => exact ⟨k + 1, by omega, rfl, by go_num, by rw [hrs_succ], rfl⟩
      case measure => omega
    · obtain rfl : k = k0 := by omega
      go_wp2
      go_ret
      exact ⟨rfl, by go_grown⟩
set_option maxHeartbeats 1000000 in
theorem s_l6Sum (a : Option Addr) (n c f k0 : Nat) (l : List Int) (w : World) (h : IntsAt w a n l) (hg : goodProf l = true) (hf : f ≤ 23) (hk : k0 ≤ 24) :
    Calls Try.prog 75 #[.agg #[.slice a n c], .int .i64 f, .int .i64 k0] w fun e w' => e = .returned (.int .i64 (hrs l f k0)) ∧ Below w.heap.size w w' := by
  have hn : n = 24 := by have := h.1; have := (goodProf_iff.1 hg).1; omega
  have H := hid h
  have HG := hid hg
  clear h hg
  subst hn
  go_enter Try.func75, Try.ntmps75
  go_wp2
  go_loopg [7, 8] k0 (fun g s i wr => ∃ k : Nat, k ≤ k0 ∧ g = k0 - k ∧ i = .int .i64 k ∧ s = .int .i64 (hrs l f k) ∧ wr = w.alloc (.cells #[.slice a 24 c] 26))
  case atStart => exact ⟨0, Nat.zero_le _, rfl, rfl, rfl, rfl⟩
  case round =>
    obtain ⟨k, hk, rfl, rfl, rfl, rfl⟩ := hrel
    have hb1 := hrs_fit HG.out f k
    have hb2 := hrs_fit HG.out f (k + 1)
    rw [hrs_succ] at hb2
    by_cases hlt : k < k0
    · have hm : (f + k) % 24 < 24 := Nat.mod_lt _ (by decide)
      obtain ⟨b, off, rfl, hbw, hcell⟩ := (H.out.below ((Below.refl _ _).alloc (Nat.le_refl _) (.cells #[.slice a 24 c] 26))).2 ((f + k) % 24) hm
      have e1 : ((f : Int) + (k : Int)).tmod 24 = (((f + k) % 24 : Nat) : Int) := by rw [Int.tmod_eq_emod_of_nonneg (by omega)]; omega
      have e2 : (((f : Int) + (k : Int)) % 24).toNat = (f + k) % 24 := by omega
      go_wp2
      go_roundg (k0 - (k + 1))
      case rel => exact ⟨k + 1, by omega, rfl, by go_num, by rw [hrs_succ], rfl⟩
      case measure => omega
    · obtain rfl : k = k0 := by omega
      go_wp2
      go_ret
      exact ⟨rfl, by go_grown⟩

end Go.Proofs.Ytpmffboojkfpdaa

/-
  The flat profile, in the program and in the reference.
-/
set_option linter.unusedVariables false
set_option linter.unusedSimpArgs false
namespace Go.Proofs.Ytpmffboojkfpdaa
open Go.RowKit

/-- While the flat profile is built: the box, the result's place, the numbers. -/
structure FlatB (w wr : World) (tb : Nat) (a : Option Addr) (k c : Nat) : Prop where
  box : wr.heap[tb]? = some (.cells #[.slice a k c] 26 (0, 0))
  res : wr.heap[w.heap.size]? = some (.cells #[.slice none 0 0] 26 (0, 0))
  own : OwnI wr w.heap.size (.slice a k c) (List.replicate k 100)
  ne : ∀ q, Value.ownBlock (.slice a k c) = some q → q ≠ tb ∧ q ≠ w.heap.size
  bel : Below w.heap.size w wr
  lo : w.heap.size < tb
theorem FlatB.next {w wr w2 : World} {tb k c c2 : Nat} {a a2 : Option Addr} (h : FlatB w wr tb a k c) {x : Obj} (ho : OwnI w2 w.heap.size (.slice a2 (k + 1) c2) (List.replicate k 100 ++ [100]))
    (hg : (wr.alloc x).grownBy w2 (Value.ownBlock (.slice a k c))) (hb : Value.ownBlock (.slice a2 (k + 1) c2) = Value.ownBlock (.slice a k c) ∨ Value.ownBlock (.slice a2 (k + 1) c2) = some (wr.alloc x).heap.size) :
    w2.heap[tb]? = some (.cells #[.slice a k c] 26 (0, 0)) ∧ FlatB w (w2.setCell ⟨tb, 0, none⟩ (.slice a2 (k + 1) c2)) tb a2 (k + 1) c2 := by
  have hzt : tb < wr.heap.size := (Array.getElem?_eq_some_iff.1 h.box).1
  have hzr : w.heap.size < wr.heap.size := (Array.getElem?_eq_some_iff.1 h.res).1
  have b1 : w2.heap[tb]? = some (.cells #[.slice a k c] 26 (0, 0)) := (hg.block tb (by simp; omega) (fun e => (h.ne tb e.symm).1 rfl)).trans ((Below.heap_alloc _ _ _ hzt).trans h.box)
  have b2 : w2.heap[w.heap.size]? = some (.cells #[.slice none 0 0] 26 (0, 0)) := (hg.block w.heap.size (by simp; omega) (fun e => (h.ne _ e.symm).2 rfl)).trans ((Below.heap_alloc _ _ _ hzr).trans h.res)
  have hne : ∀ q, Value.ownBlock (.slice a2 (k + 1) c2) = some q → q ≠ tb ∧ q ≠ w.heap.size := fun q e => by
    rcases hb with hb | hb
    · exact h.ne q (hb.symm.trans e)
    · rw [hb] at e
      have := Option.some.inj e
      simp at this
      omega
  have hbe : Below w.heap.size w w2 := ((h.bel.alloc h.bel.size x)).grown hg (by simp; omega) (fun q e => by have := (h.own.lt q e).1; omega)
  have hlo := h.lo
  refine ⟨b1, ?_, ?_, ?_, hne, hbe.setCell (by show _ ≤ tb; omega) _, hlo⟩
  · have e := heap_setCell_same _ _ 0 _ _ (.slice a2 (k + 1) c2) b1
    simpa using e
  · exact other_cell b2 (by omega)
  · rw [show List.replicate (k + 1) (100 : Int) = List.replicate k 100 ++ [100] from List.replicate_succ']
    exact ho.kept (grown_setCell _ _ _ _) (.inr (fun e => (hne tb e).1 rfl))
theorem FlatB.starti (w : World) : FlatB w (((w.alloc (.cells #[.slice none 0 0] 26)).alloc (.cells #[] 3)).alloc (.cells #[.slice (some ⟨w.heap.size + 1, 0, none⟩) 0 0] 26)) (w.heap.size + 1 + 1) (some ⟨w.heap.size + 1, 0, none⟩) 0 0 := by
  have o0 := OwnI.lit0 (w.alloc (.cells #[.slice none 0 0] 26))
  simp only [World.size_alloc] at o0
  refine ⟨?_, ?_, (o0.alloc _).mono (by omega), fun q e => ?_, by go_grown, by omega⟩
  · have e := heap_alloc_new ((w.alloc (.cells #[.slice none 0 0] 26)).alloc (.cells #[] 3)) (.cells #[.slice (some ⟨w.heap.size + 1, 0, none⟩) 0 0] 26)
    simpa using e
  · rw [Below.heap_alloc _ _ _ (by simp; omega), Below.heap_alloc _ _ _ (by simp)]
    exact heap_alloc_new _ _
  · have : w.heap.size + 1 = q := Option.some.inj e
    omega
theorem FlatB.starts (w : World) : FlatB w ((w.alloc (.cells #[.slice none 0 0] 26)).alloc (.cells #[.slice none 0 0] 26)) (w.heap.size + 1) none 0 0 := by
  refine ⟨?_, ?_, OwnI.nil _ _, fun q e => (by cases e), by go_grown, by omega⟩
  · have e := heap_alloc_new (w.alloc (.cells #[.slice none 0 0] 26)) (.cells #[.slice none 0 0] 26)
    simpa using e
  · rw [Below.heap_alloc _ _ _ (by simp)]
    exact heap_alloc_new _ _

set_option maxRecDepth 100000 in
set_option maxHeartbeats 4000000 in
theorem i_FlatProfile (w : World) : Calls Try.prog 39 #[] w fun e w' => ∃ a' c', e = .returned (.agg #[.slice a' 24 c']) ∧ OwnI w' w.heap.size (.slice a' 24 c') (List.replicate 24 100) ∧ Below w.heap.size w w' := by
  go_enter Try.func39, Try.ntmps39
  go_wp2
  go_loopg [4] 24 (fun gm i wr => ∃ (k : Nat) (a' : Option Addr) (c' : Nat), k ≤ 24 ∧ gm = 24 - k ∧ i = .int .i64 k ∧ Hid (FlatB w wr (w.heap.size + 1 + 1) a' k c'))
  case atStart => exact ⟨0, some ⟨w.heap.size + 1, 0, none⟩, 0, Nat.zero_le _, rfl, rfl, hid (FlatB.starti w)⟩
  case round =>
    obtain ⟨k, a', c', hk, rfl, rfl, hh⟩ := hrel
    have m0 : wr.cell? ⟨w.heap.size + 1 + 1, 0, none⟩ = some (.slice a' k c') := by rw [cell_of_row wr _ _ _ _ (0, 0) hh.out.box]; rfl
    have f0 := frozen_of_row wr _ 0 _ _ hh.out.box
    have hzt : w.heap.size + 1 + 1 < wr.heap.size := (Array.getElem?_eq_some_iff.1 hh.out.box).1
    have hzz : w.heap.size < wr.heap.size := by omega
    by_cases hlt : k < 24
    · have hll := hh.out.own.len
      have hwk : IntKind.i64.wrap ((k : Int) + 1) = ((k + 1 : Nat) : Int) := by rw [IntWalk.i64_in _ (by omega)]; omega
      go_wp2_with (at_builtin; refine wp_append_ints _ rfl _ _ rfl w.heap.size _ (List.replicate k 100) rfl (hh.out.own.alloc _) _ 1 1 [100] rfl (IntsAt.single _ _) (k + 1) (by simp) (by omega) (by simp; omega) ?_)
      intro a2 c2 w2 hown hgrow hblk
      have FN := hid (hh.out.next hown hgrow (by rw [World.size_alloc]; exact hblk))
      have m2 : w2.cell? ⟨w.heap.size + 1 + 1, 0, none⟩ = some (.slice a' k c') := by rw [cell_of_row w2 _ _ _ _ (0, 0) FN.out.1]; rfl
      have f2 := frozen_of_row w2 _ 0 _ _ FN.out.1
      have hz2 : w.heap.size + 1 + 1 < w2.heap.size := (Array.getElem?_eq_some_iff.1 FN.out.1).1
      clear hown hgrow hblk m0 f0 hll
      go_wp2
      go_roundg (24 - (k + 1))
      case rel => exact ⟨k + 1, a2, c2, by omega, rfl, rfl, hid FN.out.2⟩
      case measure => omega
    · obtain rfl : k = 24 := by omega
      have n0 : wr.cell? ⟨w.heap.size, 0, none⟩ = some (.slice none 0 0) := by rw [cell_of_row wr _ _ _ _ (0, 0) hh.out.res]; rfl
      have g0 := frozen_of_row wr _ 0 _ _ hh.out.res
      have hne : ¬ w.heap.size + 1 + 1 = w.heap.size := by omega
      have hne2 : ¬ w.heap.size = w.heap.size + 1 + 1 := by omega
      go_wp2
      have e7 := heap_setCell_same _ _ 0 _ _ (.slice a' 24 c') hh.out.res
      have u0 := cell_of_row _ _ 0 _ _ (0, 0) e7
      simp only [List.setIfInBounds_toArray, List.set_cons_zero, List.getElem?_toArray, List.getElem?_cons_zero] at u0
      refine bodyPost_ret (v := .agg #[.slice a' 24 c']) (by simp [results, Try.results39, go_sem, *]) rfl ⟨_, _, rfl, ?_, ?_⟩
      · exact hh.out.own.kept (grown_setCell _ _ _ _) (.inr (fun e => (hh.out.ne _ e).2 rfl))
      · exact hh.out.bel.setCell (Nat.le_refl _) _
set_option maxRecDepth 100000 in
set_option maxHeartbeats 4000000 in
theorem s_FlatProfile (w : World) : Calls Try.prog 113 #[] w fun e w' => ∃ a' c', e = .returned (.agg #[.slice a' 24 c']) ∧ OwnI w' w.heap.size (.slice a' 24 c') (List.replicate 24 100) ∧ Below w.heap.size w w' := by
  go_enter Try.func113, Try.ntmps113
  go_wp2
  go_loopg [2] 24 (fun gm i wr => ∃ (k : Nat) (a' : Option Addr) (c' : Nat), k ≤ 24 ∧ gm = 24 - k ∧ i = .int .i64 k ∧ Hid (FlatB w wr (w.heap.size + 1) a' k c'))
  case atStart => exact ⟨0, none, 0, Nat.zero_le _, rfl, rfl, hid (FlatB.starts w)⟩
  case round =>
    obtain ⟨k, a', c', hk, rfl, rfl, hh⟩ := hrel
    have m0 : wr.cell? ⟨w.heap.size + 1, 0, none⟩ = some (.slice a' k c') := by rw [cell_of_row wr _ _ _ _ (0, 0) hh.out.box]; rfl
    have f0 := frozen_of_row wr _ 0 _ _ hh.out.box
    have hzt : w.heap.size + 1 < wr.heap.size := (Array.getElem?_eq_some_iff.1 hh.out.box).1
    have hzz : w.heap.size < wr.heap.size := by omega
    by_cases hlt : k < 24
    · have hll := hh.out.own.len
      have hwk : IntKind.i64.wrap ((k : Int) + 1) = ((k + 1 : Nat) : Int) := by rw [IntWalk.i64_in _ (by omega)]; omega
      go_wp2_with (at_builtin; refine wp_append_ints _ rfl _ _ rfl w.heap.size _ (List.replicate k 100) rfl (hh.out.own.alloc _) _ 1 1 [100] rfl (IntsAt.single _ _) (k + 1) (by simp) (by omega) (by simp; omega) ?_)
      intro a2 c2 w2 hown hgrow hblk
      have FN := hid (hh.out.next hown hgrow (by rw [World.size_alloc]; exact hblk))
      have m2 : w2.cell? ⟨w.heap.size + 1, 0, none⟩ = some (.slice a' k c') := by rw [cell_of_row w2 _ _ _ _ (0, 0) FN.out.1]; rfl
      have f2 := frozen_of_row w2 _ 0 _ _ FN.out.1
      have hz2 : w.heap.size + 1 < w2.heap.size := (Array.getElem?_eq_some_iff.1 FN.out.1).1
      clear hown hgrow hblk m0 f0 hll
      go_wp2
      go_roundg (24 - (k + 1))
      case rel => exact ⟨k + 1, a2, c2, by omega, rfl, rfl, hid FN.out.2⟩
      case measure => omega
    · obtain rfl : k = 24 := by omega
      have n0 : wr.cell? ⟨w.heap.size, 0, none⟩ = some (.slice none 0 0) := by rw [cell_of_row wr _ _ _ _ (0, 0) hh.out.res]; rfl
      have g0 := frozen_of_row wr _ 0 _ _ hh.out.res
      have hne : ¬ w.heap.size + 1 = w.heap.size := by omega
      have hne2 : ¬ w.heap.size = w.heap.size + 1 := by omega
      go_wp2
      have e7 := heap_setCell_same _ _ 0 _ _ (.slice a' 24 c') hh.out.res
      have u0 := cell_of_row _ _ 0 _ _ (0, 0) e7
      simp only [List.setIfInBounds_toArray, List.set_cons_zero, List.getElem?_toArray, List.getElem?_cons_zero] at u0
      refine bodyPost_ret (v := .agg #[.slice a' 24 c']) (by simp [results, Try.results113, go_sem, *]) rfl ⟨_, _, rfl, ?_, ?_⟩
      · exact hh.out.own.kept (grown_setCell _ _ _ _) (.inr (fun e => (hh.out.ne _ e).2 rfl))
      · exact hh.out.bel.setCell (Nat.le_refl _) _

end Go.Proofs.Ytpmffboojkfpdaa

/-
  Steps of a drawn region, operation by operation.
-/
set_option linter.unusedVariables false
set_option linter.unusedSimpArgs false
namespace Go.Proofs.Ytpmffboojkfpdaa
open Go.RowKit

theorem drop_get {α : Type} {l : Array α} {i : Nat} {x : α} {r : List α} (h : l.toList.drop i = x :: r) : l[i]? = some x := by
  have e : (l.toList.drop i)[0]? = some x := by rw [h]; rfl
  rw [List.getElem?_drop] at e
  simpa using e
theorem wpAnyH_take' {P : Program} {md : Region.Mode} {ops : Array Oper} {Q : Exit → Act → World → Prop} {S : World → Prop} {i : Nat} {oi : Oper} {rest : List Oper} {v : Value} {fuel : Nat} {listed : Array Bool} {a : Act} {w : World} (hi : ops.toList.drop i = oi :: rest)
    (hs : Region.noSelect ops = true) (hf : Region.free md ops listed i = true) (hr : (Region.ready md ops listed).contains i = true)
    (hQ : ∀ c a w, Q (.panic c) (a.put oi.dst v) w → Q (.panic c) a w) (hy : YieldsIf P ops S oi v a) (hS : S w)
    (h : wpAnyH P md ops Q S fuel (listed.setIfInBounds i true) (a.put oi.dst v) w) : wpAnyH P md ops Q S (fuel + 1) listed a w :=
  wpAnyH_take (drop_get hi) hs hf hr hQ hy hS h
theorem allReadyH_cons' {P : Program} {md : Region.Mode} {ops : Array Oper} {Q : Exit → Act → World → Prop} {S : World → Prop} {fuel : Nat} {listed : Array Bool} {a : Act} {w : World} {i : Nat} {o : Oper} {rest : List Oper} {rs : List Nat} (ho : ops.toList.drop i = o :: rest)
    (h : ∀ K' : Act → World → Prop, Shut (∀ a w, S w → (S w → wpAnyH P md ops Q S fuel (listed.setIfInBounds i true) a w) → K' a w) → if Region.wanted o (yielded ops a.tmps) = true then Oper.wp P o a w K' Q else K' (a.put o.dst undef) w)
    (hs : AllReadyH P md ops Q S fuel listed a w rs) : AllReadyH P md ops Q S fuel listed a w (i :: rs) := AllReadyH.cons (drop_get ho) h hs

end Go.Proofs.Ytpmffboojkfpdaa

/-
  A region in any order whose last operation stores what the others have read: the condition on the world need not hold behind that one.
-/
set_option linter.unusedVariables false
set_option linter.unusedSimpArgs false
namespace Go.Proofs.Ytpmffboojkfpdaa
open Go.RowKit

section
variable {P : Program} {md : Region.Mode} {ops : Array Oper} {Q : Exit → Act → World → Prop} {S : World → Prop} {z : Nat}

/-- Any order from here on; S is asked behind each operation but z. -/
def AnyTo (P : Program) (md : Region.Mode) (ops : Array Oper) (Q : Exit → Act → World → Prop) (S : World → Prop) (z : Nat) : Nat → Array Bool → Act → World → Prop
  | 0, done, a, w => Region.ready md ops done = [] ∧ Q .normal a w
  | n + 1, done, a, w => (Region.ready md ops done = [] → Q .normal a w) ∧
      ∀ i ∈ Region.ready md ops done, wpOp P ops Q i (fun b v => (i ≠ z → S v) ∧ AnyTo P md ops Q S z n (done.setIfInBounds i true) b v) a w
theorem AnyTo.any : ∀ (n : Nat) (done : Array Bool) (a : Act) (w : World), AnyTo P md ops Q S z n done a w → wpAny P md ops Q n done a w
  | 0, _, _, _, h => h
  | n + 1, _, _, _, h => ⟨h.1, fun i hi => wpOp_mono (fun b v hv => AnyTo.any n _ b v hv.2) (h.2 i hi)⟩
/-- Operation z waits for operation i. -/
def waitsFor (md : Region.Mode) (ops : Array Oper) (z i : Nat) : Bool :=
  match ops[z]? with
  | some o => o.after.any fun e => Region.binds md e && e.on == i
  | none => false
theorem not_ready {i : Nat} {done : Array Bool} (hw : waitsFor md ops z i = true) (hi : done.getD i true = false) : z ∉ Region.ready md ops done := by
  intro hz
  obtain ⟨-, o, ho, hall⟩ := mem_ready.1 hz
  unfold waitsFor at hw
  rw [ho] at hw
  simp only [Array.any_eq_true] at hw
  obtain ⟨k, hk, hb⟩ := hw
  rw [Bool.and_eq_true, beq_iff_eq] at hb
  have h1 := hall _ (Array.getElem_mem hk) hb.1
  rw [hb.2] at h1
  by_cases hlt : i < done.size
  · simp [hlt] at hi h1
    rw [hi] at h1
    cases h1
  · simp [Array.getElem?_eq_none (by omega : done.size ≤ i)] at h1
theorem AnyTo.first {i : Nat} {oi : Oper} {v : Value} (hi : ops[i]? = some oi) (hs : Region.noSelect ops = true) (hw : waitsFor md ops z i = true)
    (hQ : ∀ c a w, Q (.panic c) (a.put oi.dst v) w → Q (.panic c) a w) : ∀ (n : Nat) (done : Array Bool) (a : Act) (w : World),
      (∀ j oj, ops[j]? = some oj → j ≠ i → done.getD j true = false → (∀ e ∈ oj.after, Region.binds md e = true → e.on ≠ i) → oi.apart ops oj = true) →
      i ∈ Region.ready md ops done → YieldsIf P ops S oi v a → S w →
      AnyTo P md ops Q S z n (done.setIfInBounds i true) (a.put oi.dst v) w → AnyTo P md ops Q S z (n + 1) done a w
  | 0, done, a, w, _, hr, hy, hS, H => by
    refine ⟨fun h => (by rw [h] at hr; cases hr), fun j hj => ?_⟩
    by_cases e : j = i
    · subst e; exact hy.wpOp hi hS ⟨fun _ => hS, H⟩
    · have h1 := ready_mono hj e
      rw [H.1] at h1
      cases h1
  | n + 1, done, a, w, hfree, hr, hy, hS, H => by
    refine ⟨fun h => (by rw [h] at hr; cases hr), fun j hj => ?_⟩
    by_cases e : j = i
    · subst e; exact hy.wpOp hi hS ⟨fun _ => hS, H⟩
    · have hun := (mem_ready.1 hr).1
      have hjz : j ≠ z := fun e2 => by subst e2; exact not_ready hw hun hj
      have h1 := H.2 j (ready_mono hj e)
      obtain ⟨hju, oj, hoj, hall⟩ := mem_ready.1 hj
      have hno : ∀ e ∈ oj.after, Region.binds md e = true → e.on ≠ i := fun e he hb e2 => by
        have h2 := hall e he hb
        rw [e2] at h2
        by_cases hlt : i < done.size
        · simp [hlt] at hun h2
          rw [hun] at h2
          cases h2
        · simp [Array.getElem?_eq_none (by omega : done.size ≤ i)] at h2
      have h2 := wpOp_putIf hoj (hfree j oj hoj e hju hno) (fun cs b => Region.noSelect_spec hs i oi cs b hi) (fun cs b => Region.noSelect_spec hs j oj cs b hoj) hQ hy h1
      refine wpOp_mono (fun b u h3 => ⟨h3.2.1, AnyTo.first hi hs hw hQ n (done.setIfInBounds j true) b u (fun k ok hk hki hku hkn => hfree k ok hk hki (by
        by_cases ejk : j = k
        · subst ejk; exact hju
        · rw [getD_set_ne true ejk] at hku; exact hku) hkn) (ready_mono hr (Ne.symm e)) h3.1 (h3.2.1 hjz) (by rw [Array.setIfInBounds_comm _ _ e]; exact h3.2.2)⟩) h2
/-- What yields its value in every world that meets S is taken first. -/
theorem AnyTo.take {i : Nat} {oi : Oper} {rest : List Oper} {v : Value} {n : Nat} {done : Array Bool} {a : Act} {w : World} (hi : ops.toList.drop i = oi :: rest)
    (hs : Region.noSelect ops = true) (hf : Region.free md ops done i = true) (hr : (Region.ready md ops done).contains i = true) (hw : waitsFor md ops z i = true)
    (hQ : ∀ c a w, Q (.panic c) (a.put oi.dst v) w → Q (.panic c) a w) (hy : YieldsIf P ops S oi v a) (hS : S w)
    (h : AnyTo P md ops Q S z n (done.setIfInBounds i true) (a.put oi.dst v) w) : AnyTo P md ops Q S z (n + 1) done a w :=
  AnyTo.first (drop_get hi) hs hw hQ n done a w (Region.free_spec (drop_get hi) hf) (by simpa using hr) hy hS h
/-- One operation alone may come up. -/
theorem AnyTo.one {i : Nat} {o : Oper} {rest : List Oper} {n : Nat} {done : Array Bool} {a : Act} {w : World} (ho : ops.toList.drop i = o :: rest) (hr : Region.ready md ops done = [i])
    (h : ∀ K : Act → World → Prop, Shut (∀ b v, S v → (S v → AnyTo P md ops Q S z n (done.setIfInBounds i true) b v) → K b v) → if Region.wanted o (yielded ops a.tmps) = true then Oper.wp P o a w K Q else K (a.put o.dst undef) w) : AnyTo P md ops Q S z (n + 1) done a w := by
  refine ⟨fun h0 => (by rw [hr] at h0; cases h0), fun j hj => ?_⟩
  rw [hr] at hj
  obtain rfl := List.mem_singleton.1 hj
  exact wpOp_step (drop_get ho) (fun K hK => h K (fun b v hS hv => hK b v ⟨fun _ => hS, hv hS⟩))
/-- The last operation. -/
theorem AnyTo.last {o : Oper} {rest : List Oper} {n : Nat} {done : Array Bool} {a : Act} {w : World} (ho : ops.toList.drop z = o :: rest) (hr : Region.ready md ops done = [z])
    (hd : Region.ready md ops (done.setIfInBounds z true) = [])
    (h : ∀ K : Act → World → Prop, Shut (∀ b v, Q .normal b v → K b v) → if Region.wanted o (yielded ops a.tmps) = true then Oper.wp P o a w K Q else K (a.put o.dst undef) w) : AnyTo P md ops Q S z (n + 1) done a w := by
  refine ⟨fun h0 => (by rw [hr] at h0; cases h0), fun j hj => ?_⟩
  rw [hr] at hj
  obtain rfl := List.mem_singleton.1 hj
  refine wpOp_step (drop_get ho) (fun K hK => h K (fun b v hv => hK b v ⟨fun h => absurd rfl h, ?_⟩))
  cases n with
  | zero => exact ⟨hd, hv⟩
  | succ n => exact ⟨fun _ => hv, by rw [hd]; intro i hi; cases hi⟩
theorem wp_region_to {id : Nat} {a : Act} {w : World} (S : World → Prop) (z : Nat) (hm : P.follows .mixedOrders = true) (hS : S w.drew)
    (h : S w.drew → AnyTo P .any ops Q S z ops.size (Array.replicate ops.size false) a w.drew) : (Code.region id ops true).wp P Q a w :=
  wp_region_any hm (AnyTo.any _ _ _ _ (h hS))
end

end Go.Proofs.Ytpmffboojkfpdaa

