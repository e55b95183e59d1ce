/-
  Texts of this claim, joined: NetD, Nums, NetE, NetL, WayA, HeadA.
-/
import Derived.Test.YtikjighlnpdgiaaRi1
import Derived.Test.YtikjighlnpdgiaaRi2
import Derived.Test.YtikjighlnpdgiaaRi3
import Derived.Test.YtikjighlnpdgiaaRi5
import Derived.Test.YtikjighlnpdgiaaRi6
/-
  Demands and flows: which are valid.
-/
set_option linter.unusedVariables false
set_option linter.unusedSimpArgs false
namespace Go.Proofs.Ytikjighlnpdgiaa
open Go.RowKit

theorem any_in {l : List Int} {lo hi : Int} : (l.any fun x => !inR x lo hi) = false ↔ ∀ x ∈ l, lo ≤ x ∧ x ≤ hi := by
  rw [List.any_eq_false]
  constructor
  · intro h x hx
    have := h x hx
    simp only [Bool.not_eq_true, Bool.not_eq_false'] at this
    exact inR_iff.1 this
  · intro h x hx
    simp [inR_iff.2 (h x hx)]
def goodDem (N : Int) (l : List Int) : Bool := decide ((l.length : Int) = N) && !l.any (fun x => !inR x 0 1000)
def goodFl (n : Nat) (l : List Int) : Bool := decide (l.length = n) && !l.any (fun x => !inR x (-8000) 8000)
theorem goodDem_iff {N : Int} {l : List Int} : goodDem N l = true ↔ (l.length : Int) = N ∧ ∀ x ∈ l, 0 ≤ x ∧ x ≤ 1000 := by simp only [goodDem, Bool.and_eq_true, decide_eq_true_eq, Bool.not_eq_true', any_in]
theorem goodFl_iff {n : Nat} {l : List Int} : goodFl n l = true ↔ l.length = n ∧ ∀ x ∈ l, -8000 ≤ x ∧ x ≤ 8000 := by simp only [goodFl, Bool.and_eq_true, decide_eq_true_eq, Bool.not_eq_true', any_in]

theorem enters_i_areDemands : enters 82 := by intro args w; kernel_rfl
theorem i_areDemands1 (x : Int) (w : World) : Calls Try.prog 82 #[.int .i64 x] w fun e w' => e = .returned (.bool (!inR x 0 1000)) ∧ Below w.heap.size w w' := by
  go_enter Try.func82, Try.ntmps82
  go_wp2_with fail
  refine (i_inside _ _ _ _).mono ?_
  rintro e w' ⟨rfl, rfl⟩
  go_wp2
  go_ret
  exact ⟨rfl, by go_grown⟩
theorem i_areDemands (N : Int) (a b : Option Addr) (n c m d : Nat) (l : List Int) (w : World) (h : IntsAt w b m l) (hm : m ≤ 1048576) :
    Calls Try.prog 42 #[.agg #[.int .i64 N, .slice a n c], .slice b m d] w fun e w' => e = .returned (.bool (goodDem N l)) ∧ Below w.heap.size w w' := by
  have hl := h.1
  have H := hid h
  clear h
  by_cases h1 : (m : Int) = N
  · have E := hid (show (!l.any (fun x => !inR x 0 1000)) = goodDem N l by simp [goodDem, goodFl, hl, h1])
    clear hl
    skip
    go_enter Try.func42, Try.ntmps42
    go_wp2_with fail
    refine (f_ContainsFunc 82 #[] (fun x => !inR x 0 1000) enters_i_areDemands b m d l _ (H.out.below (by go_grown)) (by omega) (fun x w' _ _ => i_areDemands1 x w')).mono ?_
    rintro e w1 ⟨rfl, hb1⟩
    go_wp2
    go_ret
    exact ⟨ret_bool E.out, bstep (by go_grown) hb1⟩
  · have E := hid (show false = goodDem N l by simp [goodDem, goodFl, hl, h1])
    go_enter Try.func42, Try.ntmps42
    go_wp2
    go_ret
    exact ⟨ret_bool E.out, by go_grown⟩

theorem enters_i_areFlows : enters 95 := by intro args w; kernel_rfl
theorem i_areFlows1 (x : Int) (w : World) : Calls Try.prog 95 #[.int .i64 x] w fun e w' => e = .returned (.bool (!inR x (-8000) 8000)) ∧ Below w.heap.size w w' := by
  go_enter Try.func95, Try.ntmps95
  go_wp2_with fail
  refine (i_inside _ _ _ _).mono ?_
  rintro e w' ⟨rfl, rfl⟩
  go_wp2
  go_ret
  exact ⟨rfl, by go_grown⟩
theorem i_areFlows (N : Int) (a b : Option Addr) (n c m d : Nat) (l : List Int) (w : World) (h : IntsAt w b m l) (hm : m ≤ 1048576) :
    Calls Try.prog 63 #[.agg #[.int .i64 N, .slice a n c], .slice b m d] w fun e w' => e = .returned (.bool (goodFl n l)) ∧ Below w.heap.size w w' := by
  have hl := h.1
  have H := hid h
  clear h
  by_cases h1 : m = n
  · have E := hid (show (!l.any (fun x => !inR x (-8000) 8000)) = goodFl n l by simp [goodDem, goodFl, hl, h1])
    clear hl
    subst h1
    go_enter Try.func63, Try.ntmps63
    go_wp2_with fail
    refine (f_ContainsFunc 95 #[] (fun x => !inR x (-8000) 8000) enters_i_areFlows b m d l _ (H.out.below (by go_grown)) (by omega) (fun x w' _ _ => i_areFlows1 x w')).mono ?_
    rintro e w1 ⟨rfl, hb1⟩
    go_wp2
    go_ret
    exact ⟨ret_bool E.out, bstep (by go_grown) hb1⟩
  · have E := hid (show false = goodFl n l by simp [goodDem, goodFl, hl, h1])
    go_enter Try.func63, Try.ntmps63
    go_wp2
    go_ret
    exact ⟨ret_bool E.out, by go_grown⟩
set_option maxHeartbeats 1000000 in
theorem s_l8Demands (N : Int) (a b : Option Addr) (n c m d : Nat) (l : List Int) (w : World) (h : IntsAt w b m l) (hm : m ≤ 1048576) :
    Calls Try.prog 32 #[.agg #[.int .i64 N, .slice a n c], .slice b m d] w fun e w' => e = .returned (.bool (goodDem N l)) ∧ Below w.heap.size w w' := by
  have H := hid h
  have HL := hid h.1
  clear h
  go_enter Try.func32, Try.ntmps32
  go_wp2
  go_loopg [5] m (fun g i wr => ∃ k : Nat, k ≤ m ∧ g = m - k ∧ i = .int .i64 k ∧ wr = w.alloc (.cells #[.int .i64 N, .slice a n c] 31) ∧ Hid (∀ x ∈ l.take k, 0 ≤ x ∧ x ≤ 1000))
  case atStart => exact ⟨0, Nat.zero_le _, rfl, rfl, rfl, hid (fun x hx => by simp at hx)⟩
  case round =>
    obtain ⟨k, hk, rfl, rfl, rfl, hh⟩ := hrel
    by_cases hlt : k < m
    · obtain ⟨b1, off, rfl, hbw, hcell⟩ := (H.out.below ((Below.refl _ _).alloc (Nat.le_refl _) (.cells #[.int .i64 N, .slice a n c] 31))).2 k hlt
      cases hx : inR (l[k]?.getD 0) 0 1000
      · have HX := hid hx
        clear hx
        go_wp2_with fail
        refine (s_l1In _ _ _ _).mono ?_
        rintro e _ ⟨rfl, rfl⟩
        rw [HX.out]
        go_wp2
        go_ret
        refine ⟨ret_bool ?_, by go_grown⟩
        have : goodDem N l ≠ true := fun e => by
          simp only [goodDem, goodFl, Bool.and_eq_true, Bool.not_eq_true', any_in] at e
          have h2 := e.2 _ (getD_mem' (k := k) (by have := HL.out; omega))
          rw [inR_iff.2 h2] at HX
          exact absurd HX.out (by simp)
        simpa using this.symm
      · have HX := hid hx
        have hx2 := inR_iff.1 hx
        clear hx
        go_wp2_with fail
        refine (s_l1In _ _ _ _).mono ?_
        rintro e _ ⟨rfl, rfl⟩
        rw [HX.out]
        go_wp2
        go_roundg (m - (k + 1))
        case rel =>
          refine ⟨k + 1, by omega, rfl, by go_num, rfl, hid ?_⟩
          intro x hx
          rw [take_succ' l k (by have := HL.out; omega), List.mem_append, List.mem_singleton] at hx
          rcases hx with hx | rfl
          · exact hh.out x hx
          · exact hx2
        case measure => omega
    · obtain rfl : m = k := by omega
      have hall : l.take m = l := List.take_of_length_le (by have := HL.out; omega)
      have ha : ∀ x ∈ l, 0 ≤ x ∧ x ≤ 1000 := hall ▸ hh.out
      have hl := HL.out
      by_cases h1 : (m : Int) = N
      · have E := hid (show true = goodDem N l by first | exact (goodDem_iff.2 ⟨by omega, ha⟩).symm | exact (goodFl_iff.2 ⟨by omega, ha⟩).symm)
        clear hall ha hl
        go_wp2
        go_ret
        exact ⟨ret_bool (by first | exact E.out | (rw [← E.out]; simp; omega)), by go_grown⟩
      · have E := hid (show false = goodDem N l by first | exact (Bool.eq_false_iff.2 fun e => h1 (by have := (goodDem_iff.1 e).1; omega)).symm | exact (Bool.eq_false_iff.2 fun e => h1 (by have := (goodFl_iff.1 e).1; omega)).symm)
        clear hall ha hl
        go_wp2
        go_ret
        exact ⟨ret_bool (by first | exact E.out | (rw [← E.out]; simp; omega)), by go_grown⟩


end Go.Proofs.Ytikjighlnpdgiaa

/-
  Numbers: absolute values, the greatest common divisor, fractions in lowest terms.
-/
set_option linter.unusedVariables false
set_option linter.unusedSimpArgs false
namespace Go.Proofs.Ytikjighlnpdgiaa
open Go.RowKit

/-- A number that products are taken of. -/
abbrev fine (x : Int) : Prop := -1152921504606846976 ≤ x ∧ x ≤ 1152921504606846976

theorem i_absOf (x : Int) (w : World) (h : -4611686018427387904 ≤ x ∧ x ≤ 4611686018427387904) : Calls Try.prog 62 #[.int .i64 x] w fun e w' => e = .returned (.int .i64 (max x (-x))) ∧ w = w' := by
  go_enter Try.func62, Try.ntmps62
  go_wp2
  all_goals go_ret
  all_goals exact ⟨ret_int (by omega), rfl⟩
theorem s_l1Most (a b : Int) (w : World) : Calls Try.prog 103 #[.int .i64 a, .int .i64 b] w fun e w' => e = .returned (.int .i64 (max a b)) ∧ w = w' := by
  by_cases h : a > b
  · go_enter Try.func103, Try.ntmps103
    go_wp2
    go_ret
    exact ⟨ret_int (by omega), rfl⟩
  · go_enter Try.func103, Try.ntmps103
    go_wp2
    go_ret
    exact ⟨ret_int (by omega), rfl⟩

/-- The greatest common divisor. -/
def gd (a b : Int) : Int := (Nat.gcd a.natAbs b.natAbs : Nat)
theorem max_abs (x : Int) : max x (-x) = (x.natAbs : Int) := by omega
theorem gd_pos {a b : Int} (h : 0 < b) : 0 < gd a b := by
  unfold gd
  have : 0 < Nat.gcd a.natAbs b.natAbs := Nat.gcd_pos_of_pos_right _ (by omega)
  omega
theorem gcd_step (x y : Nat) (h : y ≠ 0) : Nat.gcd y (x % y) = Nat.gcd x y := by
  rw [Nat.gcd_comm x y, Nat.gcd_rec y x, Nat.gcd_comm]



/-- The parts of a fraction in lowest terms. -/
def lowN (a b : Int) : Int := a.tdiv (gd a b)
def lowD (a b : Int) : Int := b / gd a b
theorem gd_dvd (a b : Int) : gd a b ∣ b := by
  unfold gd
  exact Int.ofNat_dvd_left.2 (Nat.gcd_dvd_right _ _)
theorem lowD_pos {a b : Int} (h : 0 < b) : 0 < lowD a b := Int.ediv_pos_of_pos_of_dvd h (by have := gd_pos (a := a) h; omega) (gd_dvd a b)
theorem lowD_le {a b : Int} (h : 0 < b) : lowD a b ≤ b := Int.ediv_le_self _ (by omega)
theorem gd_ge {a b : Int} (h : 0 < b) : 1 ≤ gd a b := by have := gd_pos (a := a) h; omega
theorem lowN_abs {a b : Int} (h : 0 < b) : (lowN a b).natAbs ≤ a.natAbs := by
  unfold lowN
  rw [Int.natAbs_tdiv]
  exact Nat.div_le_self _ _
theorem lowN_fine {a b B : Int} (h : 0 < b) (hB : -B ≤ a ∧ a ≤ B) : -B ≤ lowN a b ∧ lowN a b ≤ B := by
  have := lowN_abs (a := a) h
  omega
theorem gd_dvdN (a b : Int) : gd a b ∣ a := by
  unfold gd
  exact Int.ofNat_dvd_left.2 (Nat.gcd_dvd_left _ _)
/-- The fraction is the same. -/
theorem low_eq {a b : Int} (h : 0 < b) : lowN a b * b = a * lowD a b := by
  obtain ⟨x, hx⟩ := gd_dvdN a b
  obtain ⟨y, hy⟩ := gd_dvd a b
  have hg := gd_pos (a := a) h
  have e1 : lowN a b = x := by
    unfold lowN
    generalize hG : gd a b = G at *
    rw [hx]; exact Int.mul_tdiv_cancel_left _ (by omega)
  have e2 : lowD a b = y := by
    unfold lowD
    generalize hG : gd a b = G at *
    rw [hy]; exact Int.mul_ediv_cancel_left _ (by omega)
  rw [e1, e2]
  generalize hG : gd a b = G at *
  rw [hy, hx]
  grind



theorem mul_in {x y A B : Int} (hx : -A ≤ x ∧ x ≤ A) (hy : -B ≤ y ∧ y ≤ B) : -(A * B) ≤ x * y ∧ x * y ≤ A * B := by
  have h1 : x.natAbs ≤ A.toNat := by omega
  have h2 : y.natAbs ≤ B.toNat := by omega
  have h3 : (x * y).natAbs ≤ A.toNat * B.toNat := by rw [Int.natAbs_mul]; exact Nat.mul_le_mul h1 h2
  have h4 : ((A.toNat * B.toNat : Nat) : Int) = A * B := by
    rw [Int.natCast_mul, Int.toNat_of_nonneg (by omega), Int.toNat_of_nonneg (by omega)]
  omega

end Go.Proofs.Ytikjighlnpdgiaa

/-
  Networks: supply, energy.
-/
set_option linter.unusedVariables false
set_option linter.unusedSimpArgs false
namespace Go.Proofs.Ytikjighlnpdgiaa
open Go.RowKit

theorem i_isFlowing (N : Int) (a b : Option Addr) (n c m d : Nat) (l : List Pip) (fs : List Int) (w : World) (h : QAt w a n l) (h' : IntsAt w b m fs) (hn : n ≤ 1048576) (hm : m ≤ 1048576) :
    Calls Try.prog 59 #[.agg #[.int .i64 N, .slice a n c], .slice b m d] w fun e w' => e = .returned (.bool (goodNet N l && goodFl n fs)) ∧ Below w.heap.size w w' := by
  have H := hid h
  have H' := hid h'
  clear h h'
  cases h1 : goodNet N l
  · have HG := hid h1
    clear h1
    go_enter Try.func59, Try.ntmps59
    go_wp2_with fail
    refine (i_IsValidNetwork N _ _ _ l _ (H.out.below (by go_grown)) (by omega)).mono ?_
    rintro e w1 ⟨rfl, hb1⟩
    rw [HG.out]
    obtain ⟨hc_w1, hf_w1⟩ := bcell hb1
    have hz_w1_0 : w.heap.size < w1.heap.size := by have := hb1.size; simp only [World.size_alloc] at this; omega
    have HB1 := hid (bstep (by go_grown) hb1 : Below w.heap.size w w1)
    go_wp2
    go_ret
    exact ⟨rfl, HB1.out⟩
  · have HG := hid h1
    clear h1
    go_enter Try.func59, Try.ntmps59
    go_wp2_with fail
    refine (i_IsValidNetwork N _ _ _ l _ (H.out.below (by go_grown)) (by omega)).mono ?_
    rintro e w1 ⟨rfl, hb1⟩
    rw [HG.out]
    obtain ⟨hc_w1, hf_w1⟩ := bcell hb1
    have hz_w1_0 : w.heap.size < w1.heap.size := by have := hb1.size; simp only [World.size_alloc] at this; omega
    have HB1 := hid (bstep (by go_grown) hb1 : Below w.heap.size w w1)
    go_wp2_with fail
    refine (i_areFlows N _ _ n _ _ _ fs _ (H'.out.below HB1.out) hm).mono ?_
    rintro e w2 ⟨rfl, hb2⟩
    go_wp2
    go_ret
    exact ⟨rfl, bstep HB1.out hb2⟩

/-- What SupplyOf returns. -/
def supply (N : Int) (l : List Pip) (ds : List Int) : Int × Bool := if goodNet N l = true ∧ goodDem N ds = true then (ds.sum, true) else (0, false)

theorem s_l8Abs (x : Int) (w : World) (h : -4611686018427387904 ≤ x ∧ x ≤ 4611686018427387904) : Calls Try.prog 80 #[.int .i64 x] w fun e w' => e = .returned (.int .i64 (max x (-x))) ∧ w = w' := by
  go_enter Try.func80, Try.ntmps80
  go_wp2_with fail
  refine (s_l1Most _ _ _).mono ?_
  rintro e _ ⟨rfl, rfl⟩
  go_wp2
  go_ret
  exact ⟨rfl, rfl⟩

/-- The energy of flows. -/
def enrg (l : List Pip) (fs : List Int) (k : Nat) : Int := ((List.range k).map fun j => (pp l j).2.2.2 * max (fs[j]?.getD 0) (-(fs[j]?.getD 0)) * fs[j]?.getD 0 * fs[j]?.getD 0).sum
theorem enrg_succ (l : List Pip) (fs : List Int) (k : Nat) : enrg l fs (k + 1) = enrg l fs k + (pp l k).2.2.2 * max (fs[k]?.getD 0) (-(fs[k]?.getD 0)) * fs[k]?.getD 0 * fs[k]?.getD 0 := by simp [enrg, List.range_succ]
theorem enrg_fit {s q : Int} (hs : 1 ≤ s ∧ s ≤ 9) (hq : -2000 ≤ q ∧ q ≤ 2000) : (0 ≤ s * max q (-q) ∧ s * max q (-q) ≤ 18000) ∧ (-36000000 ≤ s * max q (-q) * q ∧ s * max q (-q) * q ≤ 36000000) ∧ (-72000000000 ≤ s * max q (-q) * q * q ∧ s * max q (-q) * q * q ≤ 72000000000) := by
  have hm : 0 ≤ max q (-q) ∧ max q (-q) ≤ 2000 := by omega
  have a1 := mul_in (x := s) (y := max q (-q)) (A := 9) (B := 2000) (by omega) (by omega)
  have a2 := Int.mul_nonneg (a := s) (b := max q (-q)) (by omega) (by omega)
  simp only [Int.reduceMul] at a1
  have b1 := mul_in (x := s * max q (-q)) (y := q) (A := 18000) (B := 2000) (by omega) (by omega)
  simp only [Int.reduceMul] at b1
  have c1 := mul_in (x := s * max q (-q) * q) (y := q) (A := 36000000) (B := 2000) (by omega) (by omega)
  simp only [Int.reduceMul] at c1
  exact ⟨⟨a2, by omega⟩, by omega, by omega⟩

end Go.Proofs.Ytikjighlnpdgiaa

/-
  Networks: a pipe found by its Id, the loss of a pipe.
-/
set_option linter.unusedVariables false
set_option linter.unusedSimpArgs false
namespace Go.Proofs.Ytikjighlnpdgiaa
open Go.RowKit

/-- The index of the pipe with an Id, -1 if there is none. -/
def findQ (l : List Pip) (id : Int) : Int := match l.findIdx? (fun p => decide (p.1 = id)) with | some i => (i : Int) | none => -1
theorem findQ_hit {l : List Pip} {id : Int} {k : Nat} (hk : k < l.length) (hp : (pp l k).1 = id) (hm : ∀ j, j < k → (pp l j).1 ≠ id) : findQ l id = k := by
  unfold findQ
  have : l.findIdx? (fun p => decide (p.1 = id)) = some k := by
    rw [List.findIdx?_eq_some_iff_getElem]
    refine ⟨hk, by unfold pp at hp; rw [List.getElem?_eq_getElem hk] at hp; simpa using hp, fun j hj => ?_⟩
    have := hm j hj
    unfold pp at this
    rw [List.getElem?_eq_getElem (by omega)] at this
    simpa using this
  rw [this]
theorem findQ_miss {l : List Pip} {id : Int} (hm : ∀ j, j < l.length → (pp l j).1 ≠ id) : findQ l id = -1 := by
  unfold findQ
  have : l.findIdx? (fun p => decide (p.1 = id)) = none := by
    rw [List.findIdx?_eq_none_iff]
    intro x hx
    obtain ⟨j, hj, rfl⟩ := List.mem_iff_getElem.1 hx
    have := hm j hj
    unfold pp at this
    rw [List.getElem?_eq_getElem hj] at this
    simpa using this
  rw [this]
theorem findQ_cases (l : List Pip) (id : Int) : findQ l id = -1 ∨ ∃ k : Nat, k < l.length ∧ findQ l id = k := by
  unfold findQ
  cases h : l.findIdx? (fun p => decide (p.1 = id)) with
  | none => exact .inl rfl
  | some i =>
    obtain ⟨h1, -, -⟩ := List.findIdx?_eq_some_iff_getElem.1 h
    exact .inr ⟨i, h1, rfl⟩

set_option maxHeartbeats 1000000 in
theorem s_l2Find (N id : Int) (a : Option Addr) (n c : Nat) (l : List Pip) (w : World) (h : QAt w a n l) (hn : n ≤ 1048576) :
    Calls Try.prog 77 #[.agg #[.int .i64 N, .slice a n c], .int .i64 id] w fun e w' => e = .returned (.int .i64 (findQ l id)) ∧ Below w.heap.size w w' := by
  have H := hid h
  have HL := hid h.1
  clear h
  go_enter Try.func77, Try.ntmps77
  go_wp2
  go_loopg [5] n (fun g i wr => ∃ k : Nat, k ≤ n ∧ g = n - k ∧ i = .int .i64 k ∧ wr = w.alloc (.cells #[.int .i64 N, .slice a n c] 31) ∧ Hid (∀ j, j < k → (pp l j).1 ≠ id))
  case atStart => exact ⟨0, Nat.zero_le _, rfl, rfl, rfl, hid (fun j hj => absurd hj (by omega))⟩
  case round =>
    obtain ⟨k, hk, rfl, rfl, rfl, hh⟩ := hrel
    by_cases hlt : k < n
    · obtain ⟨b0, off0, rfl, hbw, x0, x1, x2, x3⟩ := QAt.get (H.out.below ((Below.refl _ _).alloc (Nat.le_refl _) (.cells #[.int .i64 N, .slice a n c] 31))) k hlt
      by_cases hp : (pp l k).1 = id
      · have E := hid (findQ_hit (by have := HL.out; omega) hp hh.out)
        go_wp2
        go_ret
        exact ⟨ret_int E.out.symm, by go_grown⟩
      · go_wp2
        go_roundg (n - (k + 1))
        case rel =>
          refine ⟨k + 1, by omega, rfl, by go_num, rfl, hid (fun j hj => ?_)⟩
          by_cases e : j = k
          · subst e; exact hp
          · exact hh.out j (by omega)
        case measure => omega
    · obtain rfl : n = k := by omega
      have E := hid (findQ_miss (l := l) (id := id) (fun j hj => hh.out j (by have := HL.out; omega)))
      go_wp2
      go_ret
      exact ⟨ret_int E.out.symm, by go_grown⟩

theorem enters_pipeIndex : enters 99 := by intro args w; kernel_rfl

theorem i_pipeIndex1 (p0 p1 p2 p3 id : Int) (g : Nat) (w : World) (h : w.cell? ⟨g, 0, none⟩ = some (.int .i64 id)) :
    Calls Try.prog 99 #[.agg #[.int .i64 p0, .int .i64 p1, .int .i64 p2, .int .i64 p3], .pointer (some ⟨g, 0, none⟩)] w fun e w' => e = .returned (.bool (decide (p0 = id))) ∧ Below w.heap.size w w' := by
  have hg := World.block_lt_of_cell? w _ h
  by_cases hp : p0 = id
  · have E := hid (show true = decide (p0 = id) by simp [hp])
    go_enter Try.func99, Try.ntmps99
    go_wp2
    go_ret
    exact ⟨ret_bool (by simp [hp]), by go_grown⟩
  · have E := hid (show false = decide (p0 = id) by simp [hp])
    go_enter Try.func99, Try.ntmps99
    go_wp2
    go_ret
    exact ⟨ret_bool (by simp [hp]), by go_grown⟩

set_option maxHeartbeats 1000000 in
theorem f_IndexFuncQ (g : Nat) (id : Int) (a : Option Addr) (n c : Nat) (l : List Pip) (w : World) (h : QAt w a n l) (hn : n ≤ 4194304) (hid0 : w.cell? ⟨g, 0, none⟩ = some (.int .i64 id)) :
    Calls Try.prog 98 #[.slice a n c, .func (.func 99) #[] #[.pointer (some ⟨g, 0, none⟩)]] w fun e w' => e = .returned (.int .i64 (findQ l id)) ∧ Below w.heap.size w w' := by
  have hF := enters_pipeIndex
  unfold enters at hF
  have HI := hid h
  have HL := hid h.1
  have HD := hid hid0
  have HZ := hid (World.block_lt_of_cell? w _ hid0)
  clear h hid0
  go_enter Try.func98, Try.ntmps98
  go_wp2
  go_loopw [5, 8] (fun j i wr => ∃ k : Nat, k ≤ n ∧ i = .int .i64 k ∧ Hid (Below w.heap.size w wr ∧ ∀ j, j < k → (pp l j).1 ≠ id)) (fun _ i _ => n - (intOf i).toNat)
  case atStart => exact ⟨0, Nat.zero_le _, rfl, Below.refl _ _, fun j hj => absurd hj (by omega)⟩
  case round =>
    obtain ⟨k, hk, rfl, hh⟩ := hrel
    by_cases hlt : k < n
    · obtain ⟨b, off, rfl, hbw, x0, x1, x2, x3⟩ := QAt.get (HI.out.below hh.out.1) k hlt
      have hfun := hid (i_pipeIndex1 (pp l k).1 (pp l k).2.1 (pp l k).2.2.1 (pp l k).2.2.2 id g wr ((hh.out.1.cell HZ.out).trans HD.out))
      by_cases hp : (pp l k).1 = id
      · have HP := hid hp
        have HT := hid (show decide ((pp l k).1 = id) = true by simp [hp])
        clear hp
        go_wp2_with fail
        refine hfun.out.mono ?_
        rintro e w' ⟨rfl, hb⟩
        rw [HT.out]
        have HB := hid hb
        clear hb
        go_wp2
        go_ret
        refine ⟨ret_int ?_, bstep hh.out.1 HB.out⟩
        rw [findQ_hit (by have := HL.out; omega) HP.out hh.out.2]
      · have HP := hid hp
        have HT := hid (show decide ((pp l k).1 = id) = false by simp [hp])
        clear hp
        go_wp2_with fail
        refine hfun.out.mono ?_
        rintro e w' ⟨rfl, hb⟩
        rw [HT.out]
        have HB := hid hb
        clear hb
        go_wp2
        go_roundw
        case rel =>
          refine ⟨k + 1, by omega, by go_num, bstep hh.out.1 HB.out, fun j hj => ?_⟩
          by_cases e : j = k
          · subst e; exact HP.out
          · exact hh.out.2 j (by omega)
        case measure => simp [intOf]; omega
    · go_wp2
      go_ret
      refine ⟨ret_int ?_, hh.out.1⟩
      rw [findQ_miss (fun j hj => hh.out.2 j (by have := HL.out; omega))]

theorem last_newL (W : World) (x : Obj) (g : Nat) (hg : g = W.heap.size) : (W.alloc x).heap[g]? = some x := by
  subst hg
  exact heap_alloc_new _ _
theorem i_pipeIndex (N id : Int) (a : Option Addr) (n c : Nat) (l : List Pip) (w : World) (h : QAt w a n l) (hn : n ≤ 1048576) :
    Calls Try.prog 70 #[.agg #[.int .i64 N, .slice a n c], .int .i64 id] w fun e w' => e = .returned (.int .i64 (findQ l id)) ∧ Below w.heap.size w w' := by
  have H := hid h
  clear h
  go_enter Try.func70, Try.ntmps70
  go_wp2_with fail
  refine (f_IndexFuncQ (w.heap.size + 1) id _ _ _ l _ (H.out.below (by go_grown)) (by omega) (cell_of_row _ _ 0 _ _ (0, 0) (last_newL (w.alloc (.cells #[.int .i64 N, .slice a n c] 31)) (.cells #[.int .i64 id] 3) _ (by simp)))).mono ?_
  rintro e w1 ⟨rfl, hb1⟩
  go_wp2
  go_ret
  exact ⟨rfl, bstep (by go_grown) hb1⟩

/-- The loss of the pipe at an index. -/
def loss (l : List Pip) (fs : List Int) (k : Nat) : Int := (pp l k).2.2.2 * fs[k]?.getD 0 * max (fs[k]?.getD 0) (-(fs[k]?.getD 0))
theorem loss_fit {s q : Int} (hs : 1 ≤ s ∧ s ≤ 9) (hq : -8000 ≤ q ∧ q ≤ 8000) : (-72000 ≤ s * q ∧ s * q ≤ 72000) ∧ (-576000000 ≤ s * q * max q (-q) ∧ s * q * max q (-q) ≤ 576000000) := by
  have hm : 0 ≤ max q (-q) ∧ max q (-q) ≤ 8000 := by omega
  have a1 := mul_in (x := s) (y := q) (A := 9) (B := 8000) (by omega) (by omega)
  simp only [Int.reduceMul] at a1
  have b1 := mul_in (x := s * q) (y := max q (-q)) (A := 72000) (B := 8000) (by omega) (by omega)
  simp only [Int.reduceMul] at b1
  exact ⟨a1, b1⟩



/-- What LossOf returns. -/
def lossR (N : Int) (l : List Pip) (fs : List Int) (id : Int) : Int × Bool := if goodNet N l = true ∧ goodFl l.length fs = true ∧ 0 ≤ findQ l id then (loss l fs (findQ l id).toNat, true) else (0, false)

end Go.Proofs.Ytikjighlnpdgiaa

/-
  Shortest ways, in plain lists: the first pipe that leads nearer, node by node.
-/
set_option linter.unusedVariables false
set_option linter.unusedSimpArgs false
namespace Go.Proofs.Ytikjighlnpdgiaa
open Go.RowKit

theorem far_chain {N : Int} {l : List Pip} {wo s : Int} (hg : goodNet N l = true) (hs : 1 ≤ s ∧ s ≤ N) : ∀ (d : Nat) (v : Int), 1 ≤ v → v ≤ N → far l wo s v = d → ∀ j : Nat, j ≤ d → ∃ u : Int, (1 ≤ u ∧ u ≤ N) ∧ far l wo s u = j
  | 0, v, h1, h2, h, j, hj => ⟨v, ⟨h1, h2⟩, by omega⟩
  | d + 1, v, h1, h2, h, j, hj => by
    by_cases e : j = d + 1
    · exact ⟨v, ⟨h1, h2⟩, by omega⟩
    · obtain ⟨u, he, hu⟩ := (far_is (wo := wo) (s := s) hg).back v h1 h2 (by omega)
      obtain ⟨⟨u1, u2⟩, -, -⟩ := he.ends hg
      exact far_chain hg hs d u u1 u2 (by omega) j (by omega)
theorem far_lt {N : Int} {l : List Pip} {wo s v : Int} (hg : goodNet N l = true) (hs : 1 ≤ s ∧ s ≤ N) (h1 : 1 ≤ v) (h2 : v ≤ N) : far l wo s v < N := by
  classical
  by_cases h0 : 0 ≤ far l wo s v
  · obtain ⟨d, hd⟩ : ∃ d : Nat, far l wo s v = d := ⟨(far l wo s v).toNat, by omega⟩
    have hch := far_chain hg hs d v h1 h2 hd
    have key := inj_len (A := (List.range (d + 1)).map fun j => if h : j ≤ d then Classical.choose (hch j h) else 0) (n := N.toNat) (by
      unfold List.Nodup
      rw [List.pairwise_map]
      refine List.Pairwise.imp_of_mem ?_ List.nodup_range
      intro i j hi hj hne e
      rw [List.mem_range] at hi hj
      rw [dif_pos (by omega), dif_pos (by omega)] at e
      have a := (Classical.choose_spec (hch i (by omega))).2
      have b := (Classical.choose_spec (hch j (by omega))).2
      rw [e] at a
      omega) (fun u => u.toNat - 1) (fun x hx => by
      obtain ⟨j, hj, rfl⟩ := List.mem_map.1 hx
      rw [List.mem_range] at hj
      rw [dif_pos (by omega)]
      have := (Classical.choose_spec (hch j (by omega))).1
      omega) (fun x hx y hy e => by
      obtain ⟨i, hi, rfl⟩ := List.mem_map.1 hx
      obtain ⟨j, hj, rfl⟩ := List.mem_map.1 hy
      rw [List.mem_range] at hi hj
      have a := (Classical.choose_spec (hch i (by omega))).1
      have b := (Classical.choose_spec (hch j (by omega))).1
      simp only [dif_pos (show i ≤ d by omega), dif_pos (show j ≤ d by omega)] at e ⊢
      omega)
    simp only [List.length_map, List.length_range] at key
    omega
  · omega

/-- A pipe leads from a node to one that is nearer by one. -/
def stepB (l : List Pip) (f : Int → Int) (v : Int) (k : Nat) : Bool := decide (0 < oth (pp l k) v) && decide (f (oth (pp l k) v) = f v - 1)
def firstK (l : List Pip) (f : Int → Int) (v : Int) : Nat := (List.range l.length).findIdx (stepB l f v)
theorem firstK_hit {l : List Pip} {f : Int → Int} {v : Int} {k : Nat} (hk : k < l.length) (h : stepB l f v k = true) (hm : ∀ j, j < k → stepB l f v j = false) : firstK l f v = k := by
  unfold firstK
  rw [List.findIdx_eq (by simpa using hk)]
  refine ⟨by simpa using h, fun j hj => by simpa using hm j hj⟩
theorem firstK_ok {l : List Pip} {f : Int → Int} {v : Int} (h : ∃ k, k < l.length ∧ stepB l f v k = true) : firstK l f v < l.length ∧ stepB l f v (firstK l f v) = true ∧ ∀ j, j < firstK l f v → stepB l f v j = false := by
  obtain ⟨m, ⟨hm, hs⟩, hl⟩ := least h
  have e := firstK_hit hm hs (fun j hj => by
    cases e : stepB l f v j
    · rfl
    · exact absurd ⟨by omega, e⟩ (hl j hj))
  rw [e]
  refine ⟨hm, hs, fun j hj => ?_⟩
  cases e2 : stepB l f v j
  · rfl
  · exact absurd ⟨by omega, e2⟩ (hl j hj)
theorem stepB_iff {l : List Pip} {f : Int → Int} {v : Int} {k : Nat} : stepB l f v k = true ↔ 0 < oth (pp l k) v ∧ f (oth (pp l k) v) = f v - 1 := by simp [stepB]

/-- The nodes along the way, and its pipes. -/
def nod (l : List Pip) (f : Int → Int) (v0 : Int) : Nat → Int
  | 0 => v0
  | j + 1 => oth (pp l (firstK l f (nod l f v0 j))) (nod l f v0 j)
def kk (l : List Pip) (f : Int → Int) (v0 : Int) (j : Nat) : Nat := firstK l f (nod l f v0 j)
theorem nod_succ (l : List Pip) (f : Int → Int) (v0 : Int) (j : Nat) : nod l f v0 (j + 1) = oth (pp l (kk l f v0 j)) (nod l f v0 j) := rfl
theorem step_ex {N : Int} {l : List Pip} {t v : Int} (hg : goodNet N l = true) (h1 : 1 ≤ v) (h2 : v ≤ N) (h : 0 < far l 0 t v) : ∃ k, k < l.length ∧ stepB l (far l 0 t) v k = true := by
  obtain ⟨u, he, hu⟩ := (far_is (wo := 0) (s := t) hg).back v h1 h2 h
  obtain ⟨k, hk, -, ho, hx⟩ := he.symm hg
  exact ⟨k, hk, stepB_iff.2 ⟨by rw [ho]; exact hx, by rw [ho]; exact hu⟩⟩
theorem nod_ok {N : Int} {l : List Pip} {t v0 : Int} (hg : goodNet N l = true) (h1 : 1 ≤ v0) (h2 : v0 ≤ N) : ∀ j : Nat, (j : Int) ≤ far l 0 t v0 → (1 ≤ nod l (far l 0 t) v0 j ∧ nod l (far l 0 t) v0 j ≤ N) ∧ far l 0 t (nod l (far l 0 t) v0 j) = far l 0 t v0 - j
  | 0, _ => ⟨⟨h1, h2⟩, by simp [nod]⟩
  | j + 1, h => by
    obtain ⟨⟨a, b⟩, c⟩ := nod_ok (t := t) hg h1 h2 j (by omega)
    obtain ⟨k1, k2, -⟩ := firstK_ok (step_ex (t := t) hg a b (by omega))
    rw [stepB_iff] at k2
    obtain ⟨-, e, -, -⟩ := okQ_ends hg k1 rfl k2.1
    rw [nod_succ]
    refine ⟨e, ?_⟩
    show far l 0 t (oth (pp l (firstK l (far l 0 t) (nod l (far l 0 t) v0 j))) (nod l (far l 0 t) v0 j)) = _
    rw [k2.2]
    omega
theorem kk_ok {N : Int} {l : List Pip} {t v0 : Int} {j : Nat} (hg : goodNet N l = true) (h1 : 1 ≤ v0) (h2 : v0 ≤ N) (hj : (j : Int) < far l 0 t v0) : kk l (far l 0 t) v0 j < l.length ∧ stepB l (far l 0 t) (nod l (far l 0 t) v0 j) (kk l (far l 0 t) v0 j) = true ∧ ∀ i, i < kk l (far l 0 t) v0 j → stepB l (far l 0 t) (nod l (far l 0 t) v0 j) i = false := by
  obtain ⟨⟨a, b⟩, c⟩ := nod_ok (t := t) hg h1 h2 j (by omega)
  exact firstK_ok (step_ex hg a b (by omega))
theorem nod_end {N : Int} {l : List Pip} {t v0 : Int} {j : Nat} (hg : goodNet N l = true) (h1 : 1 ≤ v0) (h2 : v0 ≤ N) (hj : (j : Int) ≤ far l 0 t v0) : nod l (far l 0 t) v0 j = t ↔ (j : Int) = far l 0 t v0 := by
  obtain ⟨⟨a, b⟩, c⟩ := nod_ok (t := t) hg h1 h2 j hj
  constructor
  · intro e
    rw [e, far_self hg] at c
    omega
  · intro e
    exact (far_is (wo := 0) (s := t) hg).only _ a b (by omega)
/-- The Ids of the first pipes of the way. -/
def wids (l : List Pip) (f : Int → Int) (v0 : Int) (d : Nat) : List Int := (List.range d).map fun j => (pp l (kk l f v0 j)).1
theorem wids_succ (l : List Pip) (f : Int → Int) (v0 : Int) (d : Nat) : wids l f v0 (d + 1) = wids l f v0 d ++ [(pp l (kk l f v0 d)).1] := by simp [wids, List.range_succ]
theorem wids_len (l : List Pip) (f : Int → Int) (v0 : Int) (d : Nat) : (wids l f v0 d).length = d := by simp [wids]
theorem wids_get (l : List Pip) (f : Int → Int) (v0 : Int) {d j : Nat} (h : j < d) : (wids l f v0 d)[j]?.getD 0 = (pp l (kk l f v0 j)).1 := by simp [wids, h]
/-- The loss of a pipe, passed from a node on. -/
def sgl (l : List Pip) (fs : List Int) (v : Int) (k : Nat) : Int := if v = (pp l k).2.1 then loss l fs k else -(loss l fs k)
def lsum (l : List Pip) (fs : List Int) (f : Int → Int) (v0 : Int) (d : Nat) : Int := ((List.range d).map fun j => sgl l fs (nod l f v0 j) (kk l f v0 j)).sum
theorem lsum_succ (l : List Pip) (fs : List Int) (f : Int → Int) (v0 : Int) (d : Nat) : lsum l fs f v0 (d + 1) = lsum l fs f v0 d + sgl l fs (nod l f v0 d) (kk l f v0 d) := by simp [lsum, List.range_succ]
theorem sgl_fit {N : Int} {l : List Pip} {fs : List Int} {v : Int} {k : Nat} (hg : goodNet N l = true) (hf : goodFl l.length fs = true) (hk : k < l.length) : -576000000 ≤ sgl l fs v k ∧ sgl l fs v k ≤ 576000000 := by
  have h1 := (goodNet_pipe hg hk).2.2.2.2
  have h2 := (goodFl_iff.1 hf).2 _ (getD_mem fs k (by have := (goodFl_iff.1 hf).1; omega))
  have := (loss_fit h1 h2).2
  unfold sgl loss
  split <;> omega
theorem lsum_fit {N : Int} {l : List Pip} {fs : List Int} {t v0 : Int} (hg : goodNet N l = true) (hf : goodFl l.length fs = true) (h1 : 1 ≤ v0) (h2 : v0 ≤ N) : ∀ d : Nat, (d : Int) ≤ far l 0 t v0 → -(576000000 * (d : Int)) ≤ lsum l fs (far l 0 t) v0 d ∧ lsum l fs (far l 0 t) v0 d ≤ 576000000 * (d : Int)
  | 0, _ => by simp [lsum]
  | d + 1, h => by
    have ih := lsum_fit (t := t) hg hf h1 h2 d (by omega)
    have hk := (kk_ok (t := t) (j := d) hg h1 h2 (by omega)).1
    have := sgl_fit (v := nod l (far l 0 t) v0 d) hg hf hk
    rw [lsum_succ]
    omega
theorem findQ_at {N : Int} {l : List Pip} {k : Nat} (hg : goodNet N l = true) (hk : k < l.length) : findQ l (pp l k).1 = k :=
  findQ_hit hk rfl (fun j hj => by have := ids_rise hg k j hk hj; omega)

end Go.Proofs.Ytikjighlnpdgiaa

/-
  Heads in a tree, in plain lists: each pipe leads from one level to the next one, each node has one pipe from the level below.
-/
set_option linter.unusedVariables false
set_option linter.unusedSimpArgs false
namespace Go.Proofs.Ytikjighlnpdgiaa
open Go.RowKit

theorem ids_ne {N : Int} {l : List Pip} {i k : Nat} (hg : goodNet N l = true) (hi : i < l.length) (hk : k < l.length) (h : k ≠ i) : (pp l k).1 ≠ (pp l i).1 := by
  by_cases e : k < i
  · have := ids_rise hg i k hi e; omega
  · have := ids_rise hg k i hk (by omega); omega
/-- In a tree no pipe can be spared. -/
theorem tree_spare {N : Int} {l : List Pip} {s : Int} {i : Nat} (hg : goodNet N l = true) (ht : treeB N l = true) (hs : 1 ≤ s ∧ s ≤ N) (hi : i < l.length) (h : ∀ v : Int, 1 ≤ v → v ≤ N → v ≠ s → ∃ k, BackK l 0 s v k ∧ k ≠ i) : False := by
  obtain ⟨h1, h2⟩ := (treeB_iff hg).1 ht
  have hall : ∀ (d : Nat) (v : Int), 1 ≤ v → v ≤ N → far l 0 s v = d → 0 ≤ far l (pp l i).1 s v := by
    intro d
    induction d with
    | zero =>
      intro v v1 v2 hv
      have := (far_is (wo := 0) (s := s) hg).only v v1 v2 (by omega)
      subst this
      rw [far_self hg]
      omega
    | succ d ih =>
      intro v v1 v2 hv
      obtain ⟨k, ⟨hk, -, u, ho, hx, hu⟩, hne⟩ := h v v1 v2 (fun e => by subst e; rw [far_self hg] at hv; omega)
      obtain ⟨⟨u1, u2⟩, -, -, -⟩ := okQ_ends hg hk ho hx
      have := ih u u1 u2 (by omega)
      exact ((far_is (wo := (pp l i).1) (s := s) hg).step u v ⟨k, hk, ids_ne hg hi hk hne, ho, hx⟩ this).1
  have hg' := goodNet_sub (List.eraseIdx_sublist l i) hg
  have hN := (goodNet_get hg).1
  have := (reachL_all (l := l.eraseIdx i) (s := s) (N := N) (by omega)).2 (fun v v1 v2 => by
    unfold Conn
    rw [far_without hg hi]
    have hc : 0 ≤ far l 0 s v := h2 s v hs.1 hs.2 v1 v2
    exact hall (far l 0 s v).toNat v v1 v2 (by omega))
  have hcnt := reach_count (s := s) hg'
  rw [List.length_eraseIdx_of_lt hi] at hcnt
  omega
theorem tree_back {N : Int} {l : List Pip} {s v : Int} (hg : goodNet N l = true) (ht : treeB N l = true) (hs : 1 ≤ s ∧ s ≤ N) (h1 : 1 ≤ v) (h2 : v ≤ N) (hv : v ≠ s) : ∃ k, BackK l 0 s v k := by
  have hc : 0 ≤ far l 0 s v := ((treeB_iff hg).1 ht).2 s v hs.1 hs.2 h1 h2
  refine backK_ex hg h1 h2 ?_
  apply Classical.byContradiction
  intro hn
  exact hv ((far_is (wo := 0) (s := s) hg).only v h1 h2 (by omega))
/-- A node has one pipe from the level below. -/
theorem tree_one {N : Int} {l : List Pip} {s v : Int} {i k : Nat} (hg : goodNet N l = true) (ht : treeB N l = true) (hs : 1 ≤ s ∧ s ≤ N) (hi : BackK l 0 s v i) (hk : BackK l 0 s v k) : i = k := by
  apply Classical.byContradiction
  intro hne
  refine tree_spare hg ht hs hk.1 (fun x x1 x2 hx => ?_)
  by_cases e : x = v
  · subst e; exact ⟨i, hi, hne⟩
  · obtain ⟨m, hm⟩ := tree_back hg ht hs x1 x2 hx
    refine ⟨m, hm, fun e2 => ?_⟩
    subst e2
    exact e (backK_inj hm hk)
/-- Each pipe leads from one level to the next one. -/
theorem tree_level {N : Int} {l : List Pip} {s : Int} {i : Nat} (hg : goodNet N l = true) (ht : treeB N l = true) (hs : 1 ≤ s ∧ s ≤ N) (hi : i < l.length) : BackK l 0 s (pp l i).2.1 i ∨ BackK l 0 s (pp l i).2.2.1 i := by
  apply Classical.byContradiction
  intro hn
  refine tree_spare hg ht hs hi (fun v v1 v2 hv => ?_)
  obtain ⟨k, hk⟩ := tree_back hg ht hs v1 v2 hv
  refine ⟨k, hk, fun e => ?_⟩
  subst e
  obtain ⟨-, -, u, ho, hx, -⟩ := id hk
  rcases oth_ends ho hx with ⟨a, b⟩ | ⟨a, b⟩
  · rw [b] at hk; exact hn (.inr hk)
  · rw [b] at hk; exact hn (.inl hk)

/-- The heads agree with the losses of the pipes. -/
def Agree (l : List Pip) (fs out : List Int) (k : Nat) : Prop := out[(pp l k).2.2.1.toNat - 1]?.getD 0 = out[(pp l k).2.1.toNat - 1]?.getD 0 - loss l fs k
theorem sgl_agree {N : Int} {l : List Pip} {fs out : List Int} {v : Int} {k : Nat} (hg : goodNet N l = true) (hk : k < l.length) (ha : Agree l fs out k) (h0 : 0 < oth (pp l k) v) : out[(oth (pp l k) v).toNat - 1]?.getD 0 = out[v.toNat - 1]?.getD 0 - sgl l fs v k := by
  unfold Agree at ha
  have hne := (goodNet_pipe hg hk).2.2.2.1
  rcases oth_ends rfl h0 with ⟨a, b⟩ | ⟨a, b⟩
  · rw [b, a]
    unfold sgl
    rw [if_pos rfl]
    exact ha
  · rw [b, a]
    unfold sgl
    rw [if_neg (fun e => hne e.symm), ha]
    omega
/-- Where all agree, what is lost along a way is the difference of the heads. -/
theorem lsum_agree {N : Int} {l : List Pip} {fs out : List Int} {t v0 : Int} (hg : goodNet N l = true) (ha : ∀ k, k < l.length → Agree l fs out k) (h1 : 1 ≤ v0) (h2 : v0 ≤ N) : ∀ d : Nat, (d : Int) ≤ far l 0 t v0 → out[(nod l (far l 0 t) v0 d).toNat - 1]?.getD 0 = out[v0.toNat - 1]?.getD 0 - lsum l fs (far l 0 t) v0 d
  | 0, _ => by simp [nod, lsum]
  | d + 1, h => by
    have ih := lsum_agree (t := t) hg ha h1 h2 d (by omega)
    obtain ⟨k1, k2, -⟩ := kk_ok (t := t) (j := d) hg h1 h2 (by omega)
    have := sgl_agree hg k1 (ha _ k1) (stepB_iff.1 k2).1
    rw [nod_succ, this, ih, lsum_succ]
    omega
theorem tree_lev {N : Int} {l : List Pip} {s : Int} {i : Nat} (hg : goodNet N l = true) (ht : treeB N l = true) (hs : 1 ≤ s ∧ s ≤ N) (hi : i < l.length) : (far l 0 s (pp l i).2.2.1 = far l 0 s (pp l i).2.1 + 1 ∧ BackK l 0 s (pp l i).2.2.1 i) ∨ (far l 0 s (pp l i).2.1 = far l 0 s (pp l i).2.2.1 + 1 ∧ BackK l 0 s (pp l i).2.1 i) := by
  have hne := (goodNet_pipe hg hi).2.2.2.1
  rcases tree_level hg ht hs hi with h | h
  · right
    refine ⟨?_, h⟩
    obtain ⟨-, -, u, ho, hx, hu⟩ := h
    rcases oth_ends ho hx with ⟨a, b⟩ | ⟨a, b⟩
    · exact absurd b hne
    · rw [a] at hu; omega
  · left
    refine ⟨?_, h⟩
    obtain ⟨-, -, u, ho, hx, hu⟩ := h
    rcases oth_ends ho hx with ⟨a, b⟩ | ⟨a, b⟩
    · rw [a] at hu; omega
    · exact absurd b.symm hne
/-- The level of a pipe's lower end. -/
def lowK (l : List Pip) (f : Int → Int) (k : Nat) : Int := min (f (pp l k).2.1) (f (pp l k).2.2.1)
/-- What the levels below, and the first pipes of a level, have made agree. -/
structure HeadP (M : Nat) (l : List Pip) (s : Int) (fs : List Int) (head : Int) (st i : Nat) (out : List Int) : Prop where
  len : out.length = M
  src : out[s.toNat - 1]?.getD 0 = head
  ok : ∀ k, k < l.length → (lowK l (far l 0 s) k < st ∨ lowK l (far l 0 s) k = st ∧ k < i) → Agree l fs out k
theorem HeadP.skip {M : Nat} {l : List Pip} {s : Int} {fs out : List Int} {head : Int} {st i : Nat} (hg : goodNet M l = true) (ht : treeB M l = true) (hs : 1 ≤ s ∧ s ≤ M) (hi : i < l.length) (h : HeadP M l s fs head st i out) (hn : ¬ (far l 0 s (pp l i).2.1 = st ∧ far l 0 s (pp l i).2.2.1 = st + 1)) (hn2 : ¬ (far l 0 s (pp l i).2.2.1 = st ∧ far l 0 s (pp l i).2.1 = st + 1)) : HeadP M l s fs head st (i + 1) out := by
  refine ⟨h.len, h.src, fun k hk hd => h.ok k hk ?_⟩
  rcases hd with a | ⟨a, b⟩
  · exact .inl a
  · by_cases e : k = i
    · subst e
      unfold lowK at a
      rcases tree_lev hg ht hs hi with ⟨b1, -⟩ | ⟨b1, -⟩
      · exact absurd ⟨by omega, by omega⟩ hn
      · exact absurd ⟨by omega, by omega⟩ hn2
    · exact .inr ⟨a, by omega⟩
theorem HeadP.put {M : Nat} {l : List Pip} {s : Int} {fs out : List Int} {head y : Int} {st i : Nat} (hg : goodNet M l = true) (ht : treeB M l = true) (hs : 1 ≤ s ∧ s ≤ M) (hi : i < l.length) (h : HeadP M l s fs head st i out) {v : Int} (hv : 1 ≤ v ∧ v ≤ M)
    (hfv : far l 0 s v = st + 1) (hb : BackK l 0 s v i) (hy : Agree l fs (out.set (v.toNat - 1) y) i) : HeadP M l s fs head st (i + 1) (out.set (v.toNat - 1) y) := by
  have hvs : v ≠ s := fun e => by
    subst e
    rw [far_self hg] at hfv
    omega
  refine ⟨by rw [List.length_set]; exact h.len, by rw [List.getElem?_set_ne (by omega)]; exact h.src, fun k hk hd => ?_⟩
  by_cases e : k = i
  · subst e; exact hy
  · have hag := h.ok k hk (by
      rcases hd with a | ⟨a, b⟩
      · exact .inl a
      · exact .inr ⟨a, by omega⟩)
    have hnb : ¬ BackK l 0 s v k := fun hb2 => e (tree_one hg ht hs hb2 hb)
    have p1 := goodNet_pipe hg hk
    have hlow : lowK l (far l 0 s) k ≤ st := by omega
    unfold lowK at hlow
    have nF : (pp l k).2.1 ≠ v := fun e2 => by
      rcases tree_lev hg ht hs hk with ⟨b1, -⟩ | ⟨b1, b2⟩
      · rw [e2] at b1 hlow; omega
      · rw [e2] at b2; exact hnb b2
    have nT : (pp l k).2.2.1 ≠ v := fun e2 => by
      rcases tree_lev hg ht hs hk with ⟨b1, b2⟩ | ⟨b1, -⟩
      · rw [e2] at b2; exact hnb b2
      · rw [e2] at b1 hlow; omega
    unfold Agree at hag ⊢
    rw [List.getElem?_set_ne (by omega), List.getElem?_set_ne (by omega)]
    exact hag
theorem HeadP.next {M : Nat} {l : List Pip} {s : Int} {fs out : List Int} {head : Int} {st : Nat} (h : HeadP M l s fs head st l.length out) : HeadP M l s fs head (st + 1) 0 out :=
  ⟨h.len, h.src, fun k hk hd => h.ok k hk (by omega)⟩
theorem HeadP.start {M : Nat} {l : List Pip} {s : Int} {fs out : List Int} {head : Int} (hg : goodNet M l = true) (ht : treeB M l = true) (hs : 1 ≤ s ∧ s ≤ M) (hl : out.length = M) : HeadP M l s fs head 0 0 (out.set (s.toNat - 1) head) := by
  refine ⟨by rw [List.length_set]; exact hl, by rw [List.getElem?_set_self (by omega)]; rfl, fun k hk hd => ?_⟩
  have p1 := goodNet_pipe hg hk
  have h2 := ((treeB_iff hg).1 ht).2
  have a : 0 ≤ far l 0 s (pp l k).2.1 := h2 s _ hs.1 hs.2 p1.2.1.1 p1.2.1.2
  have b : 0 ≤ far l 0 s (pp l k).2.2.1 := h2 s _ hs.1 hs.2 p1.2.2.1.1 p1.2.2.1.2
  unfold lowK at hd
  omega
/-- When all levels are done, all pipes agree. -/
theorem HeadP.all {M : Nat} {l : List Pip} {s : Int} {fs out : List Int} {head : Int} (hg : goodNet M l = true) (hs : 1 ≤ s ∧ s ≤ M) (h : HeadP M l s fs head M 0 out) : ∀ k, k < l.length → Agree l fs out k := fun k hk => by
  have p1 := goodNet_pipe hg hk
  have := far_lt (wo := 0) (v := (pp l k).2.1) hg hs p1.2.1.1 p1.2.1.2
  refine h.ok k hk (.inl ?_)
  unfold lowK
  omega
/-- The head at a node. -/
theorem HeadP.at {M : Nat} {l : List Pip} {s v : Int} {fs out : List Int} {head : Int} (hg : goodNet M l = true) (ht : treeB M l = true) (hs : 1 ≤ s ∧ s ≤ M) (hv : 1 ≤ v ∧ v ≤ M) (h : HeadP M l s fs head M 0 out) : out[v.toNat - 1]?.getD 0 = head - lsum l fs (far l 0 v) s (far l 0 v s).toNat := by
  have hc : 0 ≤ far l 0 v s := ((treeB_iff hg).1 ht).2 v s hv.1 hv.2 hs.1 hs.2
  have e := lsum_agree (t := v) (v0 := s) hg (h.all hg hs) hs.1 hs.2 (far l 0 v s).toNat (by omega)
  rw [(nod_end (t := v) (v0 := s) (j := (far l 0 v s).toNat) hg hs.1 hs.2 (by omega)).2 (by omega), h.src] at e
  exact e
/-- What the reference gives at a node. -/
noncomputable def headAt (l : List Pip) (fs : List Int) (s head : Int) (v : Int) : Int := head - lsum l fs (far l 0 v) s (far l 0 v s).toNat
noncomputable def headL (l : List Pip) (fs : List Int) (s head : Int) (k : Nat) : List Int := (List.range k).map fun j : Nat => headAt l fs s head ((j : Int) + 1)
theorem headL_succ (l : List Pip) (fs : List Int) (s head : Int) (k : Nat) : headL l fs s head (k + 1) = headL l fs s head k ++ [headAt l fs s head ((k : Int) + 1)] := by simp [headL, List.range_succ]
theorem headL_len (l : List Pip) (fs : List Int) (s head : Int) (k : Nat) : (headL l fs s head k).length = k := by simp [headL]
theorem HeadP.done {M : Nat} {l : List Pip} {s : Int} {fs out : List Int} {head : Int} (hg : goodNet M l = true) (ht : treeB M l = true) (hs : 1 ≤ s ∧ s ≤ M) (h : HeadP M l s fs head M 0 out) : out = headL l fs s head M := by
  apply List.ext_getElem?
  intro j
  by_cases hj : j < M
  · have e := h.at (v := (j : Int) + 1) hg ht hs (by omega)
    have e2 : ((j : Int) + 1).toNat - 1 = j := by omega
    rw [e2, List.getElem?_eq_getElem (by rw [h.len]; exact hj)] at e
    rw [List.getElem?_eq_getElem (by rw [h.len]; exact hj), List.getElem?_eq_getElem (by rw [headL_len]; exact hj)]
    simp only [Option.getD_some] at e
    rw [e]
    simp [headL, headAt]
  · rw [List.getElem?_eq_none (by rw [h.len]; omega), List.getElem?_eq_none (by rw [headL_len]; omega)]

end Go.Proofs.Ytikjighlnpdgiaa

