/-
  Demands and flows: which are valid.
-/
import Derived.Test.YtheaagbffphdmaaFuncs
import Derived.Test.YtheaagbffphdmaaRange
import Derived.Test.YtheaagbffphdmaaMem
set_option linter.unusedVariables false
set_option linter.unusedSimpArgs false
namespace Go.Proofs.Ytheaagbffphdmaa
open Go.RowKit

theorem any_in {l : List Int} {lo hi : Int} : (l.any fun x => !inR x lo hi) = false ↔ ∀ x ∈ l, lo ≤ x ∧ x ≤ hi := by
  rw [List.any_eq_false]
  constructor
  · intro h x hx
    have := h x hx
    simp only [Bool.not_eq_true, Bool.not_eq_false'] at this
    exact inR_iff.1 this
  · intro h x hx
    simp [inR_iff.2 (h x hx)]
def goodDem (N : Int) (l : List Int) : Bool := decide ((l.length : Int) = N) && !l.any (fun x => !inR x 0 1000)
def goodFl (n : Nat) (l : List Int) : Bool := decide (l.length = n) && !l.any (fun x => !inR x (-8000) 8000)
theorem goodDem_iff {N : Int} {l : List Int} : goodDem N l = true ↔ (l.length : Int) = N ∧ ∀ x ∈ l, 0 ≤ x ∧ x ≤ 1000 := by simp only [goodDem, Bool.and_eq_true, decide_eq_true_eq, Bool.not_eq_true', any_in]
theorem goodFl_iff {n : Nat} {l : List Int} : goodFl n l = true ↔ l.length = n ∧ ∀ x ∈ l, -8000 ≤ x ∧ x ≤ 8000 := by simp only [goodFl, Bool.and_eq_true, decide_eq_true_eq, Bool.not_eq_true', any_in]

theorem enters_i_areDemands : enters 98 := by intro args w; kernel_rfl
theorem i_areDemands1 (x : Int) (w : World) : Calls Try.prog 98 #[.int .i64 x] w fun e w' => e = .returned (.bool (!inR x 0 1000)) ∧ Below w.heap.size w w' := by
  go_enter Try.func98, Try.ntmps98
  go_wp2_with fail
  refine (i_inside _ _ _ _).mono ?_
  rintro e w' ⟨rfl, rfl⟩
  go_wp2
  go_ret
  exact ⟨rfl, by go_grown⟩
theorem i_areDemands (N : Int) (a b : Option Addr) (n c m d : Nat) (l : List Int) (w : World) (h : IntsAt w b m l) (hm : m ≤ 1048576) :
    Calls Try.prog 54 #[.agg #[.int .i64 N, .slice a n c], .slice b m d] w fun e w' => e = .returned (.bool (goodDem N l)) ∧ Below w.heap.size w w' := by
  have hl := h.1
  have H := hid h
  clear h
  by_cases h1 : (m : Int) = N
  · have E := hid (show (!l.any (fun x => !inR x 0 1000)) = goodDem N l by simp [goodDem, goodFl, hl, h1])
    clear hl
    skip
    go_enter Try.func54, Try.ntmps54
    go_wp2_with fail
    refine (f_ContainsFunc 98 #[] (fun x => !inR x 0 1000) enters_i_areDemands b m d l _ (H.out.below (by go_grown)) (by omega) (fun x w' _ _ => i_areDemands1 x w')).mono ?_
    rintro e w1 ⟨rfl, hb1⟩
    go_wp2
    go_ret
    exact ⟨ret_bool E.out, bstep (by go_grown) hb1⟩
  · have E := hid (show false = goodDem N l by simp [goodDem, goodFl, hl, h1])
    go_enter Try.func54, Try.ntmps54
    go_wp2
    go_ret
    exact ⟨ret_bool E.out, by go_grown⟩
theorem enters_i_areFlows : enters 110 := by intro args w; kernel_rfl
theorem i_areFlows1 (x : Int) (w : World) : Calls Try.prog 110 #[.int .i64 x] w fun e w' => e = .returned (.bool (!inR x (-8000) 8000)) ∧ Below w.heap.size w w' := by
  go_enter Try.func110, Try.ntmps110
  go_wp2_with fail
  refine (i_inside _ _ _ _).mono ?_
  rintro e w' ⟨rfl, rfl⟩
  go_wp2
  go_ret
  exact ⟨rfl, by go_grown⟩
theorem i_areFlows (N : Int) (a b : Option Addr) (n c m d : Nat) (l : List Int) (w : World) (h : IntsAt w b m l) (hm : m ≤ 1048576) :
    Calls Try.prog 100 #[.agg #[.int .i64 N, .slice a n c], .slice b m d] w fun e w' => e = .returned (.bool (goodFl n l)) ∧ Below w.heap.size w w' := by
  have hl := h.1
  have H := hid h
  clear h
  by_cases h1 : m = n
  · have E := hid (show (!l.any (fun x => !inR x (-8000) 8000)) = goodFl n l by simp [goodDem, goodFl, hl, h1])
    clear hl
    subst h1
    go_enter Try.func100, Try.ntmps100
    go_wp2_with fail
    refine (f_ContainsFunc 110 #[] (fun x => !inR x (-8000) 8000) enters_i_areFlows b m d l _ (H.out.below (by go_grown)) (by omega) (fun x w' _ _ => i_areFlows1 x w')).mono ?_
    rintro e w1 ⟨rfl, hb1⟩
    go_wp2
    go_ret
    exact ⟨ret_bool E.out, bstep (by go_grown) hb1⟩
  · have E := hid (show false = goodFl n l by simp [goodDem, goodFl, hl, h1])
    go_enter Try.func100, Try.ntmps100
    go_wp2
    go_ret
    exact ⟨ret_bool E.out, by go_grown⟩
set_option maxHeartbeats 1000000 in
theorem s_l8Demands (N : Int) (a b : Option Addr) (n c m d : Nat) (l : List Int) (w : World) (h : IntsAt w b m l) (hm : m ≤ 1048576) :
    Calls Try.prog 50 #[.agg #[.int .i64 N, .slice a n c], .slice b m d] w fun e w' => e = .returned (.bool (goodDem N l)) ∧ Below w.heap.size w w' := by
  have H := hid h
  have HL := hid h.1
  clear h
  go_enter Try.func50, Try.ntmps50
  go_wp2
  go_loopg [5] m (fun g i wr => ∃ k : Nat, k ≤ m ∧ g = m - k ∧ i = .int .i64 k ∧ wr = w.alloc (.cells #[.int .i64 N, .slice a n c] 31) ∧ Hid (∀ x ∈ l.take k, 0 ≤ x ∧ x ≤ 1000))
  case atStart => exact ⟨0, Nat.zero_le _, rfl, rfl, rfl, hid (fun x hx => by simp at hx)⟩
  case round =>
    obtain ⟨k, hk, rfl, rfl, rfl, hh⟩ := hrel
    by_cases hlt : k < m
    · obtain ⟨b1, off, rfl, hbw, hcell⟩ := (H.out.below ((Below.refl _ _).alloc (Nat.le_refl _) (.cells #[.int .i64 N, .slice a n c] 31))).2 k hlt
      cases hx : inR (l[k]?.getD 0) 0 1000
      · have HX := hid hx
        clear hx
        go_wp2_with fail
        refine (s_l1In _ _ _ _).mono ?_
        rintro e _ ⟨rfl, rfl⟩
        rw [HX.out]
        go_wp2
        go_ret
        refine ⟨ret_bool ?_, by go_grown⟩
        have : goodDem N l ≠ true := fun e => by
          simp only [goodDem, goodFl, Bool.and_eq_true, Bool.not_eq_true', any_in] at e
          have h2 := e.2 _ (getD_mem' (k := k) (by have := HL.out; omega))
          rw [inR_iff.2 h2] at HX
          exact absurd HX.out (by simp)
        simpa using this.symm
      · have HX := hid hx
        have hx2 := inR_iff.1 hx
        clear hx
        go_wp2_with fail
        refine (s_l1In _ _ _ _).mono ?_
        rintro e _ ⟨rfl, rfl⟩
        rw [HX.out]
        go_wp2
        go_roundg (m - (k + 1))
        case rel =>
          refine ⟨k + 1, by omega, rfl, by go_num, rfl, hid ?_⟩
          intro x hx
          rw [take_succ' l k (by have := HL.out; omega), List.mem_append, List.mem_singleton] at hx
          rcases hx with hx | rfl
          · exact hh.out x hx
          · exact hx2
        case measure => omega
    · obtain rfl : m = k := by omega
      have hall : l.take m = l := List.take_of_length_le (by have := HL.out; omega)
      have ha : ∀ x ∈ l, 0 ≤ x ∧ x ≤ 1000 := hall ▸ hh.out
      have hl := HL.out
      by_cases h1 : (m : Int) = N
      · have E := hid (show true = goodDem N l by first | exact (goodDem_iff.2 ⟨by omega, ha⟩).symm | exact (goodFl_iff.2 ⟨by omega, ha⟩).symm)
        clear hall ha hl
        go_wp2
        go_ret
        exact ⟨ret_bool (by first | exact E.out | (rw [← E.out]; simp; omega)), by go_grown⟩
      · have E := hid (show false = goodDem N l by first | exact (Bool.eq_false_iff.2 fun e => h1 (by have := (goodDem_iff.1 e).1; omega)).symm | exact (Bool.eq_false_iff.2 fun e => h1 (by have := (goodFl_iff.1 e).1; omega)).symm)
        clear hall ha hl
        go_wp2
        go_ret
        exact ⟨ret_bool (by first | exact E.out | (rw [← E.out]; simp; omega)), by go_grown⟩
set_option maxHeartbeats 1000000 in
theorem s_l8Flows (N : Int) (a b : Option Addr) (n c m d : Nat) (l : List Int) (w : World) (h : IntsAt w b m l) (hm : m ≤ 1048576) :
    Calls Try.prog 58 #[.agg #[.int .i64 N, .slice a n c], .slice b m d] w fun e w' => e = .returned (.bool (goodFl n l)) ∧ Below w.heap.size w w' := by
  have H := hid h
  have HL := hid h.1
  clear h
  go_enter Try.func58, Try.ntmps58
  go_wp2
  go_loopg [5] m (fun g i wr => ∃ k : Nat, k ≤ m ∧ g = m - k ∧ i = .int .i64 k ∧ wr = w.alloc (.cells #[.int .i64 N, .slice a n c] 31) ∧ Hid (∀ x ∈ l.take k, (-8000) ≤ x ∧ x ≤ 8000))
  case atStart => exact ⟨0, Nat.zero_le _, rfl, rfl, rfl, hid (fun x hx => by simp at hx)⟩
  case round =>
    obtain ⟨k, hk, rfl, rfl, rfl, hh⟩ := hrel
    by_cases hlt : k < m
    · obtain ⟨b1, off, rfl, hbw, hcell⟩ := (H.out.below ((Below.refl _ _).alloc (Nat.le_refl _) (.cells #[.int .i64 N, .slice a n c] 31))).2 k hlt
      cases hx : inR (l[k]?.getD 0) (-8000) 8000
      · have HX := hid hx
        clear hx
        go_wp2_with fail
        refine (s_l1In _ _ _ _).mono ?_
        rintro e _ ⟨rfl, rfl⟩
        rw [HX.out]
        go_wp2
        go_ret
        refine ⟨ret_bool ?_, by go_grown⟩
        have : goodFl n l ≠ true := fun e => by
          simp only [goodDem, goodFl, Bool.and_eq_true, Bool.not_eq_true', any_in] at e
          have h2 := e.2 _ (getD_mem' (k := k) (by have := HL.out; omega))
          rw [inR_iff.2 h2] at HX
          exact absurd HX.out (by simp)
        simpa using this.symm
      · have HX := hid hx
        have hx2 := inR_iff.1 hx
        clear hx
        go_wp2_with fail
        refine (s_l1In _ _ _ _).mono ?_
        rintro e _ ⟨rfl, rfl⟩
        rw [HX.out]
        go_wp2
        go_roundg (m - (k + 1))
        case rel =>
          refine ⟨k + 1, by omega, rfl, by go_num, rfl, hid ?_⟩
          intro x hx
          rw [take_succ' l k (by have := HL.out; omega), List.mem_append, List.mem_singleton] at hx
          rcases hx with hx | rfl
          · exact hh.out x hx
          · exact hx2
        case measure => omega
    · obtain rfl : m = k := by omega
      have hall : l.take m = l := List.take_of_length_le (by have := HL.out; omega)
      have ha : ∀ x ∈ l, (-8000) ≤ x ∧ x ≤ 8000 := hall ▸ hh.out
      have hl := HL.out
      by_cases h1 : m = n
      · have E := hid (show true = goodFl n l by first | exact (goodDem_iff.2 ⟨by omega, ha⟩).symm | exact (goodFl_iff.2 ⟨by omega, ha⟩).symm)
        clear hall ha hl
        go_wp2
        go_ret
        exact ⟨ret_bool (by first | exact E.out | (rw [← E.out]; simp; omega)), by go_grown⟩
      · have E := hid (show false = goodFl n l by first | exact (Bool.eq_false_iff.2 fun e => h1 (by have := (goodDem_iff.1 e).1; omega)).symm | exact (Bool.eq_false_iff.2 fun e => h1 (by have := (goodFl_iff.1 e).1; omega)).symm)
        clear hall ha hl
        go_wp2
        go_ret
        exact ⟨ret_bool (by first | exact E.out | (rw [← E.out]; simp; omega)), by go_grown⟩

end Go.Proofs.Ytheaagbffphdmaa
