/-
  What the laws do with profiles.
-/
import Derived.Test.YtpmffboojkfpdaaMem
import Derived.Test.YtpmffboojkfpdaaInts
set_option linter.unusedVariables false
set_option linter.unusedSimpArgs false
namespace Go.Proofs.Ytpmffboojkfpdaa
open Go.RowKit

theorem l_szIntS_yes (a : Option Addr) (n c : Nat) (w : World) (hn : n ≤ 1048576) : Calls Try.prog 66 #[.slice a n c, .int .i64 1048576] w fun e w' => e = .returned (.int .i64 (1048576 - (n : Int))) ∧ w = w' := by
  go_enter Try.func66, Try.ntmps66
  go_wp2
  go_ret
  exact ⟨rfl, rfl⟩
theorem l_szIntS_no (a : Option Addr) (n c : Nat) (w : World) (hn : 1048576 < n) (hn2 : n ≤ 9223372036854775807) : Calls Try.prog 66 #[.slice a n c, .int .i64 1048576] w fun e w' => e = .returned (.int .i64 (-1)) ∧ w = w' := by
  go_enter Try.func66, Try.ntmps66
  go_wp2
  go_ret
  exact ⟨rfl, rfl⟩
theorem l_szDayProfile_yes (a : Option Addr) (n c : Nat) (w : World) (hn : n ≤ 1048576) : Calls Try.prog 13 #[.agg #[.slice a n c], .int .i64 1048576] w fun e w' => e = .returned (.int .i64 (1048576 - (n : Int))) ∧ Below w.heap.size w w' := by
  go_enter Try.func13, Try.ntmps13
  go_wp2_with fail
  refine (l_szIntS_yes _ _ _ _ hn).mono ?_
  rintro e _ ⟨rfl, rfl⟩
  go_wp2
  go_ret
  exact ⟨rfl, by go_grown⟩
theorem l_szDayProfile_no (a : Option Addr) (n c : Nat) (w : World) (hn : 1048576 < n) (hn2 : n ≤ 9223372036854775807) : Calls Try.prog 13 #[.agg #[.slice a n c], .int .i64 1048576] w fun e w' => e = .returned (.int .i64 (-1)) ∧ Below w.heap.size w w' := by
  go_enter Try.func13, Try.ntmps13
  go_wp2_with fail
  refine (l_szIntS_no _ _ _ _ hn hn2).mono ?_
  rintro e _ ⟨rfl, rfl⟩
  go_wp2
  go_ret
  exact ⟨rfl, by go_grown⟩

theorem l_toDayProfile (a : Option Addr) (n c : Nat) (l : List Int) (w : World) (h : IntsAt w a n l) (hn : n ≤ 1048576) :
    Calls Try.prog 15 #[.agg #[.slice a n c]] w fun e w' => ∃ a' c', e = .returned (.agg #[.slice a' n c']) ∧ OwnI w' w.heap.size (.slice a' n c') l ∧ Below w.heap.size w w' := by
  have H := hid h
  clear h
  go_enter Try.func15, Try.ntmps15
  go_wp2_with fail
  refine (l_toIntS _ _ _ l _ (H.out.below (by go_grown)) (by omega)).mono ?_
  rintro e w1 ⟨a1, c1, rfl, ho, hb⟩
  obtain ⟨hc_w1, hf_w1⟩ := bcell hb
  have hz := hb.size
  simp only [World.size_alloc] at hz
  have hz0 : w.heap.size < w1.heap.size := by omega
  have hz1 : w.heap.size + 1 < w1.heap.size := by omega
  have hz2 : w.heap.size + 1 + 1 < w1.heap.size := by omega
  have HO := hid ho
  have HB := hid (bstep (by go_grown) hb : Below w.heap.size w w1)
  clear ho
  have T1 : w1.heap[w.heap.size + 1]? = some (.cells #[.slice none 0 0] 26 (0, 0)) := (hb.block _ (by simp)).trans (mid_new _ _ _ _ (by simp))
  clear hb
  go_wp2
  have e7 := heap_setCell_same _ _ 0 _ _ (.slice a1 n c1) (other_cell (b := w.heap.size + 1 + 1) (o := 0) (u := .slice a1 n c1) T1 (by omega))
  have u0 := cell_of_row _ _ 0 _ _ (0, 0) e7
  simp only [List.setIfInBounds_toArray, List.set_cons_zero, List.getElem?_toArray, List.getElem?_cons_zero] at u0
  refine bodyPost_ret (v := .agg #[.slice a1 n c1]) (by simp [results, Try.results15, go_sem, *]) rfl ⟨_, _, rfl, ?_, ?_⟩
  · exact ((HO.out.far (by simp)).far (by simp)).mono (by simp <;> omega)
  · exact (HB.out.setCell (by simp <;> omega) _).setCell (by simp <;> omega) _

theorem l_eqDayProfile (a b : Option Addr) (n c d : Nat) (l : List Int) (w : World) (h : IntsAt w a n l) (h' : IntsAt w b n l) (hn : n ≤ 1048576) :
    Calls Try.prog 17 #[.agg #[.slice a n c], .agg #[.slice b n d]] w fun e w' => e = .returned (.bool true) ∧ Below w.heap.size w w' := by
  have H := hid h
  have H' := hid h'
  clear h h'
  go_enter Try.func17, Try.ntmps17
  go_wp2_with fail
  refine (l_eqIntS _ _ _ _ _ _ l l _ (H.out.below (by go_grown)) (H'.out.below (by go_grown)) (by omega) (by omega)).mono ?_
  rintro e w1 ⟨rfl, hb⟩
  rw [show decide (l = l) = true by simp]
  go_wp2
  go_ret
  exact ⟨rfl, bstep (by go_grown) hb⟩

end Go.Proofs.Ytpmffboojkfpdaa
