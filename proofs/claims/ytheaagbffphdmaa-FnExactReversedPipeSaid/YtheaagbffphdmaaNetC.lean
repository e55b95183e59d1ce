/-
  What the laws do with networks.
-/
import Derived.Test.YtheaagbffphdmaaPipeC
import Derived.Test.YtheaagbffphdmaaMem
set_option linter.unusedVariables false
set_option linter.unusedSimpArgs false
namespace Go.Proofs.Ytheaagbffphdmaa
open Go.RowKit

theorem OwnS.far {α : Type} [Inhabited α] {f : α → List Value} {s : Nat} {t : TypeId} {w : World} {B b o : Nat} {v u : Value} {l : List α} (h : OwnS f s t w B v l) (hb : b < B) : OwnS f s t (w.setCell ⟨b, o, none⟩ u) B v l :=
  h.kept (grown_setCell w b o u) (by
    cases hv : v.ownBlock with
    | none => exact .inl rfl
    | some k =>
      refine .inr fun e => ?_
      have := (h.lt k hv).1
      cases e
      omega)
theorem last_new (W : World) (x : Obj) (g : Nat) (hg : g = W.heap.size) : (W.alloc x).heap[g]? = some x := by
  subst hg
  exact heap_alloc_new _ _

theorem l_szNetwork_yes (N : Int) (a : Option Addr) (n c : Nat) (w : World) (hn : n ≤ 1048576) : Calls Try.prog 15 #[.agg #[.int .i64 N, .slice a n c], .int .i64 1048576] w fun e w' => e = .returned (.int .i64 (1048576 - (n : Int))) ∧ Below w.heap.size w w' := by
  go_enter Try.func15, Try.ntmps15
  go_wp2_with fail
  refine (l_szPipeS_yes _ _ _ _ hn).mono ?_
  rintro e _ ⟨rfl, rfl⟩
  go_wp2
  go_ret
  exact ⟨rfl, by go_grown⟩
theorem l_szNetwork_no (N : Int) (a : Option Addr) (n c : Nat) (w : World) (hn : 1048576 < n) (hn2 : n ≤ 9223372036854775807) : Calls Try.prog 15 #[.agg #[.int .i64 N, .slice a n c], .int .i64 1048576] w fun e w' => e = .returned (.int .i64 (-1)) ∧ Below w.heap.size w w' := by
  go_enter Try.func15, Try.ntmps15
  go_wp2_with fail
  refine (l_szPipeS_no _ _ _ _ hn hn2).mono ?_
  rintro e _ ⟨rfl, rfl⟩
  go_wp2
  go_ret
  exact ⟨rfl, by go_grown⟩

theorem l_toNetwork (N : Int) (a : Option Addr) (n c : Nat) (l : List Pip) (w : World) (h : QAt w a n l) (hn : n ≤ 1048576) :
    Calls Try.prog 17 #[.agg #[.int .i64 N, .slice a n c]] w fun e w' => ∃ a' c', e = .returned (.agg #[.int .i64 N, .slice a' n c']) ∧ OwnQ w' w.heap.size (.slice a' n c') l ∧ Below w.heap.size w w' := by
  have H := hid h
  clear h
  go_enter Try.func17, Try.ntmps17
  go_wp2_with fail
  refine (l_toPipeS _ _ _ l _ (H.out.below (by go_grown)) (by omega)).mono ?_
  rintro e w1 ⟨a1, c1, rfl, ho, hb⟩
  obtain ⟨hc_w1, hf_w1⟩ := bcell hb
  have hz := hb.size
  simp only [World.size_alloc] at hz
  have hz0 : w.heap.size < w1.heap.size := by omega
  have hz1 : w.heap.size + 1 < w1.heap.size := by omega
  have hz2 : w.heap.size + 1 + 1 < w1.heap.size := by omega
  have HO := hid ho
  have HB := hid (bstep (by go_grown) hb : Below w.heap.size w w1)
  clear ho
  have T1 : w1.heap[w.heap.size + 1]? = some (.cells #[.int .i64 0, .slice none 0 0] 31 (0, 0)) := (hb.block _ (by simp)).trans (mid_new _ _ _ _ (by simp))
  have T2 : w1.heap[w.heap.size + 1 + 1]? = some (.cells #[.int .i64 N, .slice none 0 0] 31 (0, 0)) := (hb.block _ (by simp)).trans (last_new _ _ _ (by simp))
  have n0 : w1.cell? ⟨w.heap.size + 1 + 1, 0, none⟩ = some (.int .i64 N) := by rw [cell_of_row w1 _ _ _ _ (0, 0) T2]; rfl
  clear hb
  go_wp2
  have e7 := heap_setCell_same _ _ 1 _ _ (.slice a1 n c1) (heap_setCell_same _ _ 0 _ _ (.int .i64 N) (other_cell (b := w.heap.size + 1 + 1) (o := 1) (u := .slice a1 n c1) T1 (by omega)))
  have u0 := cell_of_row _ _ 0 _ _ (0, 0) e7
  have u1 := cell_of_row _ _ 1 _ _ (0, 0) e7
  simp only [List.setIfInBounds_toArray, List.set_cons_zero, List.set_cons_succ, List.getElem?_toArray, List.getElem?_cons_zero, List.getElem?_cons_succ] at u0 u1
  refine bodyPost_ret (v := .agg #[.int .i64 N, .slice a1 n c1]) (by simp [results, Try.results17, go_sem, *]) rfl ⟨_, _, rfl, ?_, ?_⟩
  · exact (((HO.out.far (by simp)).far (by simp)).far (by simp)).mono (by simp <;> omega)
  · exact ((HB.out.setCell (by simp <;> omega) _).setCell (by simp <;> omega) _).setCell (by simp <;> omega) _

theorem l_eqNetwork (N : Int) (a b : Option Addr) (n c d : Nat) (l : List Pip) (w : World) (h : QAt w a n l) (h' : QAt w b n l) (hn : n ≤ 1048576) :
    Calls Try.prog 20 #[.agg #[.int .i64 N, .slice a n c], .agg #[.int .i64 N, .slice b n d]] w fun e w' => e = .returned (.bool true) ∧ Below w.heap.size w w' := by
  have H := hid h
  have H' := hid h'
  clear h h'
  have hx : (N != N) = false := by simp
  go_enter Try.func20, Try.ntmps20
  go_wp2_with fail
  refine (l_eqPipeS _ _ _ _ _ l _ (H.out.below (by go_grown)) (H'.out.below (by go_grown)) (by omega)).mono ?_
  rintro e w1 ⟨rfl, hb⟩
  go_wp2
  go_ret
  exact ⟨rfl, bstep (by go_grown) hb⟩

end Go.Proofs.Ytheaagbffphdmaa
