/-
  FlattenProfile, for all arguments.
-/
import Derived.Test.YtpmffboojkfpdaaProfL
set_option linter.unusedVariables false
set_option linter.unusedSimpArgs false
namespace Go.Proofs.Ytpmffboojkfpdaa
open Go.RowKit

theorem flatF_len (most : Int) : ∀ (k : Nat) (L : List Int), (flat most k L).length = L.length
  | 0, L => rfl
  | k + 1, L => by
    unfold flat
    split
    · rw [flatF_len most k]
      simp [stepF]
    · rfl
theorem fin_len (most : Int) (L : List Int) : (fin most L).length = L.length := flatF_len _ _ _
theorem flatR_len {l R : List Int} {h : Int} {b : Bool} (e : flatR l h = (R, b)) : R.length ≤ 24 := by
  unfold flatR at e
  split at e
  · rename_i hh
    cases e
    rw [fin_len, (goodProf_iff.1 hh.1).1]
    exact Nat.le_refl _
  · cases e; exact Nat.zero_le _

set_option maxRecDepth 100000 in
theorem i_FlattenProfile_no (a : Option Addr) (n c : Nat) (h : Int) (l : List Int) (w : World) (hA : IntsAt w a n l) (hn : n ≤ 1048576) (hv : (goodProf l && inR h 100 1000) = false) :
    Calls Try.prog 27 #[.agg #[.slice a n c], .int .i64 h] w fun e w' => ∃ a' c', e = .returned (.tuple #[.agg #[.slice a' 0 c'], .bool false]) ∧ OwnI w' w.heap.size (.slice a' 0 c') [] ∧ Below w.heap.size w w' := by
  have H := hid hA
  clear hA
  cases h1 : goodProf l
  · have HG := hid h1
    clear h1 hv
    go_enter Try.func27, Try.ntmps27
    go_wp2_with fail
    refine (i_IsValidProfile _ _ _ l _ (H.out.below (by go_grown)) (by omega)).mono ?_
    rintro e w1 ⟨rfl, hb1⟩
    rw [HG.out]
    have HB1 := hid (bstep (by go_grown) hb1 : Below w.heap.size w w1)
    have hz := hb1.size
    simp only [World.size_alloc] at hz
    have T1 := hid ((hb1.block (w.heap.size + 1) (by simp)).trans (last_newP (w.alloc _) _ _ (by simp)))
    have hz1 : w.heap.size + 1 < w1.heap.size := by omega
    have n0 : w1.cell? ⟨w.heap.size + 1, 0, none⟩ = some (.slice none 0 0) := by rw [cell_of_row w1 _ _ _ _ (0, 0) T1.out]; rfl
    have f0 := frozen_of_row w1 _ 0 _ _ T1.out
    clear hb1
    go_wp2
    have e7 := heap_setCell_same _ _ 0 _ _ (.slice none 0 0) T1.out
    have u0 := cell_of_row _ _ 0 _ _ (0, 0) e7
    simp only [List.setIfInBounds_toArray, List.set_cons_zero, List.getElem?_toArray, List.getElem?_cons_zero] at u0
    refine bodyPost_ret (v := .tuple #[.agg #[.slice none 0 0], .bool false]) (by simp [results, Try.results27, go_sem, *]) rfl ⟨_, _, rfl, World.ownsRow_nil _ _ _ _, HB1.out.setCell (by show _ ≤ w.heap.size + 1; omega) _⟩
  · have HG := hid h1
    have H2 : Hid (inR h 100 1000 = false) := hid (by rw [h1] at hv; exact hv)
    clear h1 hv
    go_enter Try.func27, Try.ntmps27
    go_wp2_with fail
    refine (i_IsValidProfile _ _ _ l _ (H.out.below (by go_grown)) (by omega)).mono ?_
    rintro e w1 ⟨rfl, hb1⟩
    rw [HG.out]
    have HB1 := hid (bstep (by go_grown) hb1 : Below w.heap.size w w1)
    have hz := hb1.size
    simp only [World.size_alloc] at hz
    have T1 := hid ((hb1.block (w.heap.size + 1) (by simp)).trans (last_newP (w.alloc _) _ _ (by simp)))
    have hz1 : w.heap.size + 1 < w1.heap.size := by omega
    have n0 : w1.cell? ⟨w.heap.size + 1, 0, none⟩ = some (.slice none 0 0) := by rw [cell_of_row w1 _ _ _ _ (0, 0) T1.out]; rfl
    have f0 := frozen_of_row w1 _ 0 _ _ T1.out
    clear hb1
    go_wp2_with fail
    refine (i_inside _ _ _ _).mono ?_
    rintro e _ ⟨rfl, rfl⟩
    rw [H2.out]
    go_wp2
    have e7 := heap_setCell_same _ _ 0 _ _ (.slice none 0 0) T1.out
    have u0 := cell_of_row _ _ 0 _ _ (0, 0) e7
    simp only [List.setIfInBounds_toArray, List.set_cons_zero, List.getElem?_toArray, List.getElem?_cons_zero] at u0
    refine bodyPost_ret (v := .tuple #[.agg #[.slice none 0 0], .bool false]) (by simp [results, Try.results27, go_sem, *]) rfl ⟨_, _, rfl, World.ownsRow_nil _ _ _ _, HB1.out.setCell (by show _ ≤ w.heap.size + 1; omega) _⟩

theorem i_FlattenProfile (a : Option Addr) (n c : Nat) (h : Int) (l : List Int) (w : World) (hA : IntsAt w a n l) (hn : n ≤ 1048576) (R : List Int) (b : Bool) (hR : flatR l h = (R, b)) :
    Calls Try.prog 27 #[.agg #[.slice a n c], .int .i64 h] w fun e w' => ∃ a' c', e = .returned (.tuple #[.agg #[.slice a' R.length c'], .bool b]) ∧ OwnI w' w.heap.size (.slice a' R.length c') R ∧ Below w.heap.size w w' := by
  by_cases hv : (goodProf l && inR h 100 1000) = true
  · obtain ⟨h1, h2⟩ := (Bool.and_eq_true _ _).mp hv
    have e0 : flatR l h = (fin h l, true) := by unfold flatR; rw [if_pos ⟨h1, h2⟩]
    rw [e0] at hR
    cases hR
    rw [fin_len, (goodProf_iff.1 h1).1]
    exact i_FlattenProfile_yes a n c h l w hA h1 h2
  · have hv' : (goodProf l && inR h 100 1000) = false := by simpa using hv
    have e0 : flatR l h = ([], false) := by
      unfold flatR
      rw [if_neg]
      rintro ⟨x, y⟩
      rw [x, y] at hv'
      cases hv'
    rw [e0] at hR
    cases hR
    exact i_FlattenProfile_no a n c h l w hA hn hv'
set_option maxRecDepth 100000 in
theorem s_FlattenProfile_no (a : Option Addr) (n c : Nat) (h : Int) (l : List Int) (w : World) (hA : IntsAt w a n l) (hn : n ≤ 1048576) (hv : (goodProf l && inR h 100 1000) = false) :
    Calls Try.prog 26 #[.agg #[.slice a n c], .int .i64 h] w fun e w' => ∃ a' c', e = .returned (.tuple #[.agg #[.slice a' 0 c'], .bool false]) ∧ OwnI w' w.heap.size (.slice a' 0 c') [] ∧ Below w.heap.size w w' := by
  have H := hid hA
  clear hA
  cases h1 : goodProf l
  · have HG := hid h1
    clear h1 hv
    go_enter Try.func26, Try.ntmps26
    go_wp2_with fail
    refine (s_l6Good _ _ _ l _ (H.out.below (by go_grown)) (by omega)).mono ?_
    rintro e w1 ⟨rfl, hb1⟩
    rw [HG.out]
    have HB1 := hid (bstep (by go_grown) hb1 : Below w.heap.size w w1)
    have hz := hb1.size
    simp only [World.size_alloc] at hz
    have T1 := hid ((hb1.block (w.heap.size + 1) (by simp)).trans (last_newP (w.alloc _) _ _ (by simp)))
    have hz1 : w.heap.size + 1 < w1.heap.size := by omega
    have n0 : w1.cell? ⟨w.heap.size + 1, 0, none⟩ = some (.slice none 0 0) := by rw [cell_of_row w1 _ _ _ _ (0, 0) T1.out]; rfl
    have f0 := frozen_of_row w1 _ 0 _ _ T1.out
    clear hb1
    go_wp2
    have e7 := heap_setCell_same _ _ 0 _ _ (.slice none 0 0) T1.out
    have u0 := cell_of_row _ _ 0 _ _ (0, 0) e7
    simp only [List.setIfInBounds_toArray, List.set_cons_zero, List.getElem?_toArray, List.getElem?_cons_zero] at u0
    refine bodyPost_ret (v := .tuple #[.agg #[.slice none 0 0], .bool false]) (by simp [results, Try.results26, go_sem, *]) rfl ⟨_, _, rfl, World.ownsRow_nil _ _ _ _, HB1.out.setCell (by show _ ≤ w.heap.size + 1; omega) _⟩
  · have HG := hid h1
    have H2 : Hid (inR h 100 1000 = false) := hid (by rw [h1] at hv; exact hv)
    clear h1 hv
    go_enter Try.func26, Try.ntmps26
    go_wp2_with fail
    refine (s_l6Good _ _ _ l _ (H.out.below (by go_grown)) (by omega)).mono ?_
    rintro e w1 ⟨rfl, hb1⟩
    rw [HG.out]
    have HB1 := hid (bstep (by go_grown) hb1 : Below w.heap.size w w1)
    have hz := hb1.size
    simp only [World.size_alloc] at hz
    have T1 := hid ((hb1.block (w.heap.size + 1) (by simp)).trans (last_newP (w.alloc _) _ _ (by simp)))
    have hz1 : w.heap.size + 1 < w1.heap.size := by omega
    have n0 : w1.cell? ⟨w.heap.size + 1, 0, none⟩ = some (.slice none 0 0) := by rw [cell_of_row w1 _ _ _ _ (0, 0) T1.out]; rfl
    have f0 := frozen_of_row w1 _ 0 _ _ T1.out
    clear hb1
    go_wp2_with fail
    refine (s_l1In _ _ _ _).mono ?_
    rintro e _ ⟨rfl, rfl⟩
    rw [H2.out]
    go_wp2
    have e7 := heap_setCell_same _ _ 0 _ _ (.slice none 0 0) T1.out
    have u0 := cell_of_row _ _ 0 _ _ (0, 0) e7
    simp only [List.setIfInBounds_toArray, List.set_cons_zero, List.getElem?_toArray, List.getElem?_cons_zero] at u0
    refine bodyPost_ret (v := .tuple #[.agg #[.slice none 0 0], .bool false]) (by simp [results, Try.results26, go_sem, *]) rfl ⟨_, _, rfl, World.ownsRow_nil _ _ _ _, HB1.out.setCell (by show _ ≤ w.heap.size + 1; omega) _⟩

theorem s_FlattenProfile (a : Option Addr) (n c : Nat) (h : Int) (l : List Int) (w : World) (hA : IntsAt w a n l) (hn : n ≤ 1048576) (R : List Int) (b : Bool) (hR : flatR l h = (R, b)) :
    Calls Try.prog 26 #[.agg #[.slice a n c], .int .i64 h] w fun e w' => ∃ a' c', e = .returned (.tuple #[.agg #[.slice a' R.length c'], .bool b]) ∧ OwnI w' w.heap.size (.slice a' R.length c') R ∧ Below w.heap.size w w' := by
  by_cases hv : (goodProf l && inR h 100 1000) = true
  · obtain ⟨h1, h2⟩ := (Bool.and_eq_true _ _).mp hv
    have e0 : flatR l h = (fin h l, true) := by unfold flatR; rw [if_pos ⟨h1, h2⟩]
    rw [e0] at hR
    cases hR
    rw [fin_len, (goodProf_iff.1 h1).1]
    exact s_FlattenProfile_yes a n c h l w hA h1 h2
  · have hv' : (goodProf l && inR h 100 1000) = false := by simpa using hv
    have e0 : flatR l h = ([], false) := by
      unfold flatR
      rw [if_neg]
      rintro ⟨x, y⟩
      rw [x, y] at hv'
      cases hv'
    rw [e0] at hR
    cases hR
    exact s_FlattenProfile_no a n c h l w hA hn hv'

end Go.Proofs.Ytpmffboojkfpdaa
