/-
  Profiles: ShiftProfile; marks on a profile.
-/
import Derived.Test.YtpmffboojkfpdaaProfH2
set_option linter.unusedVariables false
set_option linter.unusedSimpArgs false
namespace Go.Proofs.Ytpmffboojkfpdaa
open Go.RowKit

/-- What ShiftProfile returns. -/
def shiftR (l : List Int) (h : Int) : List Int × Bool := if goodProf l = true ∧ inR h 0 23 = true then (shiftL l h.toNat 24, true) else ([], false)
theorem shiftR_len {l R : List Int} {h : Int} {b : Bool} (e : shiftR l h = (R, b)) : R.length ≤ 24 := by
  unfold shiftR at e
  split at e
  · cases e; rw [shiftL_len]; exact Nat.le_refl _
  · cases e; exact Nat.zero_le _

set_option maxRecDepth 100000 in
theorem i_ShiftProfile_no (a : Option Addr) (n c : Nat) (h : Int) (l : List Int) (w : World) (hA : IntsAt w a n l) (hn : n ≤ 1048576) (hv : (goodProf l && inR h 0 23) = false) :
    Calls Try.prog 16 #[.agg #[.slice a n c], .int .i64 h] w fun e w' => ∃ a' c', e = .returned (.tuple #[.agg #[.slice a' 0 c'], .bool false]) ∧ OwnI w' w.heap.size (.slice a' 0 c') [] ∧ Below w.heap.size w w' := by
  have H := hid hA
  clear hA
  cases h1 : goodProf l
  · have HG := hid h1
    clear h1 hv
    go_enter Try.func16, Try.ntmps16
    go_wp2_with fail
    refine (i_IsValidProfile _ _ _ l _ (H.out.below (by go_grown)) (by omega)).mono ?_
    rintro e w1 ⟨rfl, hb1⟩
    rw [HG.out]
    have HB1 := hid (bstep (by go_grown) hb1 : Below w.heap.size w w1)
    have hz := hb1.size
    simp only [World.size_alloc] at hz
    have T1 := hid ((hb1.block (w.heap.size + 1) (by simp)).trans (last_newP (w.alloc _) _ _ (by simp)))
    have hz1 : w.heap.size + 1 < w1.heap.size := by omega
    have n0 : w1.cell? ⟨w.heap.size + 1, 0, none⟩ = some (.slice none 0 0) := by rw [cell_of_row w1 _ _ _ _ (0, 0) T1.out]; rfl
    have f0 := frozen_of_row w1 _ 0 _ _ T1.out
    clear hb1
    go_wp2
    have e7 := heap_setCell_same _ _ 0 _ _ (.slice none 0 0) T1.out
    have u0 := cell_of_row _ _ 0 _ _ (0, 0) e7
    simp only [List.setIfInBounds_toArray, List.set_cons_zero, List.getElem?_toArray, List.getElem?_cons_zero] at u0
    refine bodyPost_ret (v := .tuple #[.agg #[.slice none 0 0], .bool false]) (by simp [results, Try.results16, go_sem, *]) rfl ⟨_, _, rfl, World.ownsRow_nil _ _ _ _, HB1.out.setCell (by show _ ≤ w.heap.size + 1; omega) _⟩
  · have HG := hid h1
    have H2 : Hid (inR h 0 23 = false) := hid (by rw [h1] at hv; exact hv)
    clear h1 hv
    go_enter Try.func16, Try.ntmps16
    go_wp2_with fail
    refine (i_IsValidProfile _ _ _ l _ (H.out.below (by go_grown)) (by omega)).mono ?_
    rintro e w1 ⟨rfl, hb1⟩
    rw [HG.out]
    have HB1 := hid (bstep (by go_grown) hb1 : Below w.heap.size w w1)
    have hz := hb1.size
    simp only [World.size_alloc] at hz
    have T1 := hid ((hb1.block (w.heap.size + 1) (by simp)).trans (last_newP (w.alloc _) _ _ (by simp)))
    have hz1 : w.heap.size + 1 < w1.heap.size := by omega
    have n0 : w1.cell? ⟨w.heap.size + 1, 0, none⟩ = some (.slice none 0 0) := by rw [cell_of_row w1 _ _ _ _ (0, 0) T1.out]; rfl
    have f0 := frozen_of_row w1 _ 0 _ _ T1.out
    clear hb1
    go_wp2_with fail
    refine (i_isHour _ _).mono ?_
    rintro e _ ⟨rfl, rfl⟩
    rw [H2.out]
    go_wp2
    have e7 := heap_setCell_same _ _ 0 _ _ (.slice none 0 0) T1.out
    have u0 := cell_of_row _ _ 0 _ _ (0, 0) e7
    simp only [List.setIfInBounds_toArray, List.set_cons_zero, List.getElem?_toArray, List.getElem?_cons_zero] at u0
    refine bodyPost_ret (v := .tuple #[.agg #[.slice none 0 0], .bool false]) (by simp [results, Try.results16, go_sem, *]) rfl ⟨_, _, rfl, World.ownsRow_nil _ _ _ _, HB1.out.setCell (by show _ ≤ w.heap.size + 1; omega) _⟩

theorem i_ShiftProfile (a : Option Addr) (n c : Nat) (h : Int) (l : List Int) (w : World) (hA : IntsAt w a n l) (hn : n ≤ 1048576) (R : List Int) (b : Bool) (hR : shiftR l h = (R, b)) :
    Calls Try.prog 16 #[.agg #[.slice a n c], .int .i64 h] w fun e w' => ∃ a' c', e = .returned (.tuple #[.agg #[.slice a' R.length c'], .bool b]) ∧ OwnI w' w.heap.size (.slice a' R.length c') R ∧ Below w.heap.size w w' := by
  by_cases hv : (goodProf l && inR h 0 23) = true
  · obtain ⟨h1, h2⟩ := (Bool.and_eq_true _ _).mp hv
    obtain ⟨k, rfl⟩ : ∃ k : Nat, h = k := ⟨h.toNat, by have := inR_iff.1 h2; omega⟩
    have e0 : shiftR l k = (shiftL l k 24, true) := by unfold shiftR; rw [if_pos ⟨h1, h2⟩]; rfl
    rw [e0] at hR
    cases hR
    rw [shiftL_len]
    exact i_ShiftProfile_yes a n c k l w hA h1 h2
  · have hv' : (goodProf l && inR h 0 23) = false := by simpa using hv
    have e0 : shiftR l h = ([], false) := by
      unfold shiftR
      rw [if_neg]
      rintro ⟨x, y⟩
      rw [x, y] at hv'
      cases hv'
    rw [e0] at hR
    cases hR
    exact i_ShiftProfile_no a n c h l w hA hn hv'
set_option maxRecDepth 100000 in
theorem s_ShiftProfile_no (a : Option Addr) (n c : Nat) (h : Int) (l : List Int) (w : World) (hA : IntsAt w a n l) (hn : n ≤ 1048576) (hv : (goodProf l && inR h 0 23) = false) :
    Calls Try.prog 14 #[.agg #[.slice a n c], .int .i64 h] w fun e w' => ∃ a' c', e = .returned (.tuple #[.agg #[.slice a' 0 c'], .bool false]) ∧ OwnI w' w.heap.size (.slice a' 0 c') [] ∧ Below w.heap.size w w' := by
  have H := hid hA
  clear hA
  cases h1 : goodProf l
  · have HG := hid h1
    clear h1 hv
    go_enter Try.func14, Try.ntmps14
    go_wp2_with fail
    refine (s_l6Good _ _ _ l _ (H.out.below (by go_grown)) (by omega)).mono ?_
    rintro e w1 ⟨rfl, hb1⟩
    rw [HG.out]
    have HB1 := hid (bstep (by go_grown) hb1 : Below w.heap.size w w1)
    have hz := hb1.size
    simp only [World.size_alloc] at hz
    have T1 := hid ((hb1.block (w.heap.size + 1) (by simp)).trans (last_newP (w.alloc _) _ _ (by simp)))
    have hz1 : w.heap.size + 1 < w1.heap.size := by omega
    have n0 : w1.cell? ⟨w.heap.size + 1, 0, none⟩ = some (.slice none 0 0) := by rw [cell_of_row w1 _ _ _ _ (0, 0) T1.out]; rfl
    have f0 := frozen_of_row w1 _ 0 _ _ T1.out
    clear hb1
    go_wp2
    have e7 := heap_setCell_same _ _ 0 _ _ (.slice none 0 0) T1.out
    have u0 := cell_of_row _ _ 0 _ _ (0, 0) e7
    simp only [List.setIfInBounds_toArray, List.set_cons_zero, List.getElem?_toArray, List.getElem?_cons_zero] at u0
    refine bodyPost_ret (v := .tuple #[.agg #[.slice none 0 0], .bool false]) (by simp [results, Try.results14, go_sem, *]) rfl ⟨_, _, rfl, World.ownsRow_nil _ _ _ _, HB1.out.setCell (by show _ ≤ w.heap.size + 1; omega) _⟩
  · have HG := hid h1
    have H2 : Hid (inR h 0 23 = false) := hid (by rw [h1] at hv; exact hv)
    clear h1 hv
    go_enter Try.func14, Try.ntmps14
    go_wp2_with fail
    refine (s_l6Good _ _ _ l _ (H.out.below (by go_grown)) (by omega)).mono ?_
    rintro e w1 ⟨rfl, hb1⟩
    rw [HG.out]
    have HB1 := hid (bstep (by go_grown) hb1 : Below w.heap.size w w1)
    have hz := hb1.size
    simp only [World.size_alloc] at hz
    have T1 := hid ((hb1.block (w.heap.size + 1) (by simp)).trans (last_newP (w.alloc _) _ _ (by simp)))
    have hz1 : w.heap.size + 1 < w1.heap.size := by omega
    have n0 : w1.cell? ⟨w.heap.size + 1, 0, none⟩ = some (.slice none 0 0) := by rw [cell_of_row w1 _ _ _ _ (0, 0) T1.out]; rfl
    have f0 := frozen_of_row w1 _ 0 _ _ T1.out
    clear hb1
    go_wp2_with fail
    refine (s_l6Hour _ _).mono ?_
    rintro e _ ⟨rfl, rfl⟩
    rw [H2.out]
    go_wp2
    have e7 := heap_setCell_same _ _ 0 _ _ (.slice none 0 0) T1.out
    have u0 := cell_of_row _ _ 0 _ _ (0, 0) e7
    simp only [List.setIfInBounds_toArray, List.set_cons_zero, List.getElem?_toArray, List.getElem?_cons_zero] at u0
    refine bodyPost_ret (v := .tuple #[.agg #[.slice none 0 0], .bool false]) (by simp [results, Try.results14, go_sem, *]) rfl ⟨_, _, rfl, World.ownsRow_nil _ _ _ _, HB1.out.setCell (by show _ ≤ w.heap.size + 1; omega) _⟩

theorem s_ShiftProfile (a : Option Addr) (n c : Nat) (h : Int) (l : List Int) (w : World) (hA : IntsAt w a n l) (hn : n ≤ 1048576) (R : List Int) (b : Bool) (hR : shiftR l h = (R, b)) :
    Calls Try.prog 14 #[.agg #[.slice a n c], .int .i64 h] w fun e w' => ∃ a' c', e = .returned (.tuple #[.agg #[.slice a' R.length c'], .bool b]) ∧ OwnI w' w.heap.size (.slice a' R.length c') R ∧ Below w.heap.size w w' := by
  by_cases hv : (goodProf l && inR h 0 23) = true
  · obtain ⟨h1, h2⟩ := (Bool.and_eq_true _ _).mp hv
    obtain ⟨k, rfl⟩ : ∃ k : Nat, h = k := ⟨h.toNat, by have := inR_iff.1 h2; omega⟩
    have e0 : shiftR l k = (shiftL l k 24, true) := by unfold shiftR; rw [if_pos ⟨h1, h2⟩]; rfl
    rw [e0] at hR
    cases hR
    rw [shiftL_len]
    exact s_ShiftProfile_yes a n c k l w hA h1 h2
  · have hv' : (goodProf l && inR h 0 23) = false := by simpa using hv
    have e0 : shiftR l h = ([], false) := by
      unfold shiftR
      rw [if_neg]
      rintro ⟨x, y⟩
      rw [x, y] at hv'
      cases hv'
    rw [e0] at hR
    cases hR
    exact s_ShiftProfile_no a n c h l w hA hn hv'

theorem l_markDayProfile (a : Option Addr) (n c B : Nat) (l : List Int) (k0 : Int) (w : World) (h : OwnI w B (.slice a n c) l) (hn : n ≤ 1048576) (hk : 0 ≤ k0 ∧ k0 ≤ 1000000000000) :
    Calls Try.prog 18 #[.agg #[.slice a n c], .int .i64 k0] w fun e w' => e = .returned (.int .i64 (k0 + n)) ∧ OwnI w' B (.slice a n c) (marks k0 n) ∧ w.grownBy w' (Value.ownBlock (.slice a n c)) := by
  have H := hid h
  clear h
  go_enter Try.func18, Try.ntmps18
  go_wp2_with fail
  refine (l_markIntS _ _ _ B l _ _ (H.out.alloc _) (by omega) hk).mono ?_
  rintro e w1 ⟨rfl, ho, hg⟩
  have HO := hid ho
  have HG := hid (grownBy_trans (grown_of_below ((Below.refl w.heap.size w).alloc (Nat.le_refl _) _) _) hg)
  clear ho hg
  go_wp2
  go_ret
  exact ⟨rfl, HO.out, HG.out⟩

theorem l_heldDayProfile (a : Option Addr) (n c : Nat) (k0 : Int) (w : World) (h : IntsAt w a n (marks k0 n)) (hn : n ≤ 1048576) (hk : 0 ≤ k0 ∧ k0 ≤ 1000000000000) :
    Calls Try.prog 19 #[.agg #[.slice a n c], .int .i64 k0] w fun e w' => e = .returned (.int .i64 (k0 + n)) ∧ Below w.heap.size w w' := by
  have H := hid h
  clear h
  go_enter Try.func19, Try.ntmps19
  go_wp2_with fail
  refine (l_heldIntS _ _ _ _ _ (H.out.below (by go_grown)) (by omega) hk).mono ?_
  rintro e _ ⟨rfl, rfl⟩
  go_wp2
  go_ret
  exact ⟨rfl, by go_grown⟩

end Go.Proofs.Ytpmffboojkfpdaa
