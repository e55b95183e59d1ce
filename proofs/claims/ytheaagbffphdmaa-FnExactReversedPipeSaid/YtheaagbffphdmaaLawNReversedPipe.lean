/-
  The law FnExactReversedPipe returns true for every input, and leaves its arguments as they were. No condition.
-/
import Derived.Test.YtheaagbffphdmaaRev
import Derived.Test.YtheaagbffphdmaaPipeM
import Derived.Test.YtheaagbffphdmaaMarks
import Derived.Test.YtheaagbffphdmaaLiftN
import Derived.Test.YtheaagbffphdmaaLiftN5
set_option linter.unusedVariables false
set_option linter.unusedSimpArgs false
namespace Go.Proofs.Ytheaagbffphdmaa
open Go.ChangeShapes Go.WideShapes Go.ChangeAt Go.RowKit Go.Joins Go.Deep

set_option maxRecDepth 100000 in
set_option maxHeartbeats 8000000 in
theorem law_ReversedPipe (N : Int) (a : Option Addr) (n c : Nat) (l : List Pip) (i1 : Int) (f1_p : Option Addr) (f1_m f1_d : Nat) (f1 : List Int) (w : World) (h : QAt w a n l) (h_f1 : IntsAt w f1_p f1_m f1) (hmax : n ≤ 9223372036854775807) :
    Calls Try.prog 12 #[.agg #[.int .i64 N, .slice a n c], .slice f1_p f1_m f1_d, .int .i64 i1] w fun e w' => e = .returned (.bool true) ∧ Below w.heap.size w w' := by
  have H_l := hid h
  have H_f1 := hid h_f1
  clear h h_f1
  by_cases hm_f1 : 1048576 < f1_m
  · go_enter Try.func12, Try.ntmps12
    go_wp2
    go_ret
    exact ⟨rfl, by go_grown⟩
  by_cases hn : 1048576 < n
  · go_enter Try.func12, Try.ntmps12
    go_wp2_with fail
    refine (l_szNetwork_no _ _ _ _ _ (by omega) (by omega)).mono ?_
    rintro e w1 ⟨rfl, hb⟩
    go_wp2
    go_ret
    exact ⟨rfl, bstep (by go_grown) hb⟩
  obtain ⟨X, R, S, b, hR⟩ : ∃ X R S b, revR N l f1 i1 = (X, R, S, b) := ⟨_, _, _, _, rfl⟩
  have HR := hid hR
  have hRl : R.length ≤ 1000 ∧ S.length ≤ 1000 := revR_len hR
  clear hR
  have hx : (b != b) = false := by simp
  have hy : ((1 + 4 * (R.length : Int) + (S.length : Int)) != (1 + 4 * (R.length : Int) + (S.length : Int))) = false := by simp
  go_enter Try.func12, Try.ntmps12
  go_wp2_with fail
  refine (l_szNetwork_yes _ _ _ _ _ (by omega)).mono ?_
  rintro e w1 ⟨rfl, hb⟩
  have HB_1 := hid (bstep (by go_grown) hb : Below w.heap.size w w1)
  have B_1 := HB_1
  have S_1 := HB_1.out.size
  have T_1_1 : Hid (w1.heap[w.heap.size]? = some (.cells #[.int .i64 N, .slice a n c] 24 (0, 0))) := hid (by rw [hb.block _ (by simp <;> omega)]; exact heap_alloc_new _ _)
  have Z_1 : w.heap.size < w1.heap.size := (Array.getElem?_eq_some_iff.1 T_1_1.out).1
  have m_1_1_0 : w1.cell? ⟨w.heap.size, 0, none⟩ = some (.int .i64 N) := by rw [cell_of_row w1 _ _ _ _ (0, 0) T_1_1.out]; rfl
  have m_1_1_1 : w1.cell? ⟨w.heap.size, 1, none⟩ = some (.slice a n c) := by rw [cell_of_row w1 _ _ _ _ (0, 0) T_1_1.out]; rfl
  have z_1_1 : w.heap.size < w1.heap.size := (Array.getElem?_eq_some_iff.1 T_1_1.out).1
  clear hb
  go_wp2_with fail
  refine (l_toNetwork _ _ _ _ l _ ((H_l.out.below B_1.out).below (by go_grown)) (by omega)).mono ?_
  rintro e w2 ⟨a1, c1, rfl, o1, hb⟩
  have HB_2 := hid (bstep (by go_grown) hb : Below w1.heap.size w1 w2)
  have B_2 := hid (bstep B_1.out HB_2.out)
  have S_2 := HB_2.out.size
  have T_2_1 := hid ((HB_2.out.block w.heap.size (Array.getElem?_eq_some_iff.1 T_1_1.out).1).trans T_1_1.out)
  clear m_1_1_0 m_1_1_1 z_1_1
  have m_2_1_0 : w2.cell? ⟨w.heap.size, 0, none⟩ = some (.int .i64 N) := by rw [cell_of_row w2 _ _ _ _ (0, 0) T_2_1.out]; rfl
  have m_2_1_1 : w2.cell? ⟨w.heap.size, 1, none⟩ = some (.slice a n c) := by rw [cell_of_row w2 _ _ _ _ (0, 0) T_2_1.out]; rfl
  have z_2_1 : w.heap.size < w2.heap.size := (Array.getElem?_eq_some_iff.1 T_2_1.out).1
  clear hb
  try simp only [World.size_alloc] at o1
  have O_s_l := hid o1
  clear o1
  go_wp2_with fail
  refine (l_toIntS _ _ _ f1 _ ((H_f1.out.below B_2.out).below (by go_grown)) (by omega)).mono ?_
  rintro e w3 ⟨a2, c2, rfl, o2, hb⟩
  have HB_3 := hid (bstep (by go_grown) hb : Below w2.heap.size w2 w3)
  have B_3 := hid (bstep B_2.out HB_3.out)
  have S_3 := HB_3.out.size
  have T_3_1 := hid ((HB_3.out.block w.heap.size (Array.getElem?_eq_some_iff.1 T_2_1.out).1).trans T_2_1.out)
  clear m_2_1_0 m_2_1_1 z_2_1
  have m_3_1_0 : w3.cell? ⟨w.heap.size, 0, none⟩ = some (.int .i64 N) := by rw [cell_of_row w3 _ _ _ _ (0, 0) T_3_1.out]; rfl
  have m_3_1_1 : w3.cell? ⟨w.heap.size, 1, none⟩ = some (.slice a n c) := by rw [cell_of_row w3 _ _ _ _ (0, 0) T_3_1.out]; rfl
  have z_3_1 : w.heap.size < w3.heap.size := (Array.getElem?_eq_some_iff.1 T_3_1.out).1
  clear hb
  try simp only [World.size_alloc] at o2
  have O_s_f1 := hid o2
  clear o2
  have O_s_l_3 := hid (O_s_l.out.below HB_3.out)
  go_wp2_with fail
  refine (s_ReversedPipe N i1 _ _ _ _ _ _ l f1 _ ((OwnS.at qf_len O_s_l_3.out).below (by go_grown)) (O_s_f1.out.at.below (by go_grown)) (by omega) (by omega) X R S b HR.out).mono ?_
  rintro e w4 ⟨p3, q3, r3, t3, rfl, o3a, o3b, hap3, hb⟩
  have HB_4 := hid (bstep (by go_grown) hb : Below w3.heap.size w3 w4)
  have B_4 := hid (bstep B_3.out HB_4.out)
  have S_4 := HB_4.out.size
  have T_4_1 := hid ((HB_4.out.block w.heap.size (Array.getElem?_eq_some_iff.1 T_3_1.out).1).trans T_3_1.out)
  clear m_3_1_0 m_3_1_1 z_3_1
  have m_4_1_0 : w4.cell? ⟨w.heap.size, 0, none⟩ = some (.int .i64 N) := by rw [cell_of_row w4 _ _ _ _ (0, 0) T_4_1.out]; rfl
  have m_4_1_1 : w4.cell? ⟨w.heap.size, 1, none⟩ = some (.slice a n c) := by rw [cell_of_row w4 _ _ _ _ (0, 0) T_4_1.out]; rfl
  have z_4_1 : w.heap.size < w4.heap.size := (Array.getElem?_eq_some_iff.1 T_4_1.out).1
  clear hb
  have HA_w0 := hid hap3
  clear hap3
  try simp only [World.size_alloc] at o3a
  have O_w0 := hid o3a
  clear o3a
  try simp only [World.size_alloc] at o3b
  have O_w1 := hid o3b
  clear o3b
  go_wp2_with fail
  refine (l_toNetwork _ _ _ _ l _ ((H_l.out.below B_4.out).below (by go_grown)) (by omega)).mono ?_
  rintro e w5 ⟨a4, c4, rfl, o4, hb⟩
  have HB_5 := hid (bstep (by go_grown) hb : Below w4.heap.size w4 w5)
  have B_5 := hid (bstep B_4.out HB_5.out)
  have S_5 := HB_5.out.size
  have T_5_1 := hid ((HB_5.out.block w.heap.size (Array.getElem?_eq_some_iff.1 T_4_1.out).1).trans T_4_1.out)
  have T_5_2 : Hid (w5.heap[w4.heap.size]? = some (.cells #[.int .i64 X, .slice p3 R.length q3] 31 (0, 0))) := hid (by rw [hb.block _ (by simp <;> omega)]; exact heap_alloc_new _ _)
  have Z_2 : w4.heap.size < w5.heap.size := (Array.getElem?_eq_some_iff.1 T_5_2.out).1
  clear m_4_1_0 m_4_1_1 z_4_1
  have m_5_1_0 : w5.cell? ⟨w.heap.size, 0, none⟩ = some (.int .i64 N) := by rw [cell_of_row w5 _ _ _ _ (0, 0) T_5_1.out]; rfl
  have m_5_1_1 : w5.cell? ⟨w.heap.size, 1, none⟩ = some (.slice a n c) := by rw [cell_of_row w5 _ _ _ _ (0, 0) T_5_1.out]; rfl
  have z_5_1 : w.heap.size < w5.heap.size := (Array.getElem?_eq_some_iff.1 T_5_1.out).1
  have m_5_2_0 : w5.cell? ⟨w4.heap.size, 0, none⟩ = some (.int .i64 X) := by rw [cell_of_row w5 _ _ _ _ (0, 0) T_5_2.out]; rfl
  have m_5_2_1 : w5.cell? ⟨w4.heap.size, 1, none⟩ = some (.slice p3 R.length q3) := by rw [cell_of_row w5 _ _ _ _ (0, 0) T_5_2.out]; rfl
  have z_5_2 : w4.heap.size < w5.heap.size := (Array.getElem?_eq_some_iff.1 T_5_2.out).1
  clear hb
  try simp only [World.size_alloc] at o4
  have O_x_l := hid o4
  clear o4
  go_wp2_with fail
  refine (l_toIntS _ _ _ f1 _ ((H_f1.out.below B_5.out).below (by go_grown)) (by omega)).mono ?_
  rintro e w6 ⟨a5, c5, rfl, o5, hb⟩
  have HB_6 := hid (bstep (by go_grown) hb : Below w5.heap.size w5 w6)
  have B_6 := hid (bstep B_5.out HB_6.out)
  have S_6 := HB_6.out.size
  have T_6_1 := hid ((HB_6.out.block w.heap.size (Array.getElem?_eq_some_iff.1 T_5_1.out).1).trans T_5_1.out)
  have T_6_2 := hid ((HB_6.out.block w4.heap.size (Array.getElem?_eq_some_iff.1 T_5_2.out).1).trans T_5_2.out)
  have T_6_3 : Hid (w6.heap[w5.heap.size]? = some (.cells #[.int .i64 N, .slice a4 n c4] 31 (0, 0))) := hid (by rw [hb.block _ (by simp <;> omega)]; exact heap_alloc_new _ _)
  have Z_3 : w5.heap.size < w6.heap.size := (Array.getElem?_eq_some_iff.1 T_6_3.out).1
  clear m_5_1_0 m_5_1_1 z_5_1 m_5_2_0 m_5_2_1 z_5_2
  have m_6_1_0 : w6.cell? ⟨w.heap.size, 0, none⟩ = some (.int .i64 N) := by rw [cell_of_row w6 _ _ _ _ (0, 0) T_6_1.out]; rfl
  have m_6_1_1 : w6.cell? ⟨w.heap.size, 1, none⟩ = some (.slice a n c) := by rw [cell_of_row w6 _ _ _ _ (0, 0) T_6_1.out]; rfl
  have z_6_1 : w.heap.size < w6.heap.size := (Array.getElem?_eq_some_iff.1 T_6_1.out).1
  have m_6_2_0 : w6.cell? ⟨w4.heap.size, 0, none⟩ = some (.int .i64 X) := by rw [cell_of_row w6 _ _ _ _ (0, 0) T_6_2.out]; rfl
  have m_6_2_1 : w6.cell? ⟨w4.heap.size, 1, none⟩ = some (.slice p3 R.length q3) := by rw [cell_of_row w6 _ _ _ _ (0, 0) T_6_2.out]; rfl
  have z_6_2 : w4.heap.size < w6.heap.size := (Array.getElem?_eq_some_iff.1 T_6_2.out).1
  have m_6_3_0 : w6.cell? ⟨w5.heap.size, 0, none⟩ = some (.int .i64 N) := by rw [cell_of_row w6 _ _ _ _ (0, 0) T_6_3.out]; rfl
  have m_6_3_1 : w6.cell? ⟨w5.heap.size, 1, none⟩ = some (.slice a4 n c4) := by rw [cell_of_row w6 _ _ _ _ (0, 0) T_6_3.out]; rfl
  have z_6_3 : w5.heap.size < w6.heap.size := (Array.getElem?_eq_some_iff.1 T_6_3.out).1
  clear hb
  try simp only [World.size_alloc] at o5
  have O_x_f1 := hid o5
  clear o5
  have O_x_l_6 := hid (O_x_l.out.below HB_6.out)
  go_wp2_with fail
  refine (i_ReversedPipe N i1 _ _ _ _ _ _ l f1 _ ((OwnS.at qf_len O_x_l_6.out).below (by go_grown)) (O_x_f1.out.at.below (by go_grown)) (by omega) (by omega) X R S b HR.out).mono ?_
  rintro e w7 ⟨p6, q6, r6, t6, rfl, o6a, o6b, hap6, hb⟩
  have HB_7 := hid (bstep (by go_grown) hb : Below w6.heap.size w6 w7)
  have B_7 := hid (bstep B_6.out HB_7.out)
  have S_7 := HB_7.out.size
  have T_7_1 := hid ((HB_7.out.block w.heap.size (Array.getElem?_eq_some_iff.1 T_6_1.out).1).trans T_6_1.out)
  have T_7_2 := hid ((HB_7.out.block w4.heap.size (Array.getElem?_eq_some_iff.1 T_6_2.out).1).trans T_6_2.out)
  have T_7_3 := hid ((HB_7.out.block w5.heap.size (Array.getElem?_eq_some_iff.1 T_6_3.out).1).trans T_6_3.out)
  clear m_6_1_0 m_6_1_1 z_6_1 m_6_2_0 m_6_2_1 z_6_2 m_6_3_0 m_6_3_1 z_6_3
  have m_7_1_0 : w7.cell? ⟨w.heap.size, 0, none⟩ = some (.int .i64 N) := by rw [cell_of_row w7 _ _ _ _ (0, 0) T_7_1.out]; rfl
  have m_7_1_1 : w7.cell? ⟨w.heap.size, 1, none⟩ = some (.slice a n c) := by rw [cell_of_row w7 _ _ _ _ (0, 0) T_7_1.out]; rfl
  have z_7_1 : w.heap.size < w7.heap.size := (Array.getElem?_eq_some_iff.1 T_7_1.out).1
  have m_7_2_0 : w7.cell? ⟨w4.heap.size, 0, none⟩ = some (.int .i64 X) := by rw [cell_of_row w7 _ _ _ _ (0, 0) T_7_2.out]; rfl
  have m_7_2_1 : w7.cell? ⟨w4.heap.size, 1, none⟩ = some (.slice p3 R.length q3) := by rw [cell_of_row w7 _ _ _ _ (0, 0) T_7_2.out]; rfl
  have z_7_2 : w4.heap.size < w7.heap.size := (Array.getElem?_eq_some_iff.1 T_7_2.out).1
  have m_7_3_0 : w7.cell? ⟨w5.heap.size, 0, none⟩ = some (.int .i64 N) := by rw [cell_of_row w7 _ _ _ _ (0, 0) T_7_3.out]; rfl
  have m_7_3_1 : w7.cell? ⟨w5.heap.size, 1, none⟩ = some (.slice a4 n c4) := by rw [cell_of_row w7 _ _ _ _ (0, 0) T_7_3.out]; rfl
  have z_7_3 : w5.heap.size < w7.heap.size := (Array.getElem?_eq_some_iff.1 T_7_3.out).1
  clear hb
  have HA_g0 := hid hap6
  clear hap6
  try simp only [World.size_alloc] at o6a
  have O_g0 := hid o6a
  clear o6a
  try simp only [World.size_alloc] at o6b
  have O_g1 := hid o6b
  clear o6b
  have O_w0_7 := hid (((O_w0.out.below HB_5.out).below HB_6.out).below HB_7.out)
  go_wp2_with fail
  refine (l_eqNetwork X _ _ _ _ _ R _ ((OwnS.at qf_len O_g0.out).below (by go_grown)) ((OwnS.at qf_len O_w0_7.out).below (by go_grown)) (by omega)).mono ?_
  rintro e w8 ⟨rfl, hb⟩
  have HB_8 := hid (bstep (by go_grown) hb : Below w7.heap.size w7 w8)
  have B_8 := hid (bstep B_7.out HB_8.out)
  have S_8 := HB_8.out.size
  have T_8_1 := hid ((HB_8.out.block w.heap.size (Array.getElem?_eq_some_iff.1 T_7_1.out).1).trans T_7_1.out)
  have T_8_2 := hid ((HB_8.out.block w4.heap.size (Array.getElem?_eq_some_iff.1 T_7_2.out).1).trans T_7_2.out)
  have T_8_3 := hid ((HB_8.out.block w5.heap.size (Array.getElem?_eq_some_iff.1 T_7_3.out).1).trans T_7_3.out)
  have T_8_4 : Hid (w8.heap[w7.heap.size]? = some (.cells #[.int .i64 X, .slice p6 R.length q6] 31 (0, 0))) := hid (by rw [hb.block _ (by simp <;> omega)]; exact heap_alloc_new _ _)
  have Z_4 : w7.heap.size < w8.heap.size := (Array.getElem?_eq_some_iff.1 T_8_4.out).1
  clear m_7_1_0 m_7_1_1 z_7_1 m_7_2_0 m_7_2_1 z_7_2 m_7_3_0 m_7_3_1 z_7_3
  have m_8_1_0 : w8.cell? ⟨w.heap.size, 0, none⟩ = some (.int .i64 N) := by rw [cell_of_row w8 _ _ _ _ (0, 0) T_8_1.out]; rfl
  have m_8_1_1 : w8.cell? ⟨w.heap.size, 1, none⟩ = some (.slice a n c) := by rw [cell_of_row w8 _ _ _ _ (0, 0) T_8_1.out]; rfl
  have z_8_1 : w.heap.size < w8.heap.size := (Array.getElem?_eq_some_iff.1 T_8_1.out).1
  have m_8_2_0 : w8.cell? ⟨w4.heap.size, 0, none⟩ = some (.int .i64 X) := by rw [cell_of_row w8 _ _ _ _ (0, 0) T_8_2.out]; rfl
  have m_8_2_1 : w8.cell? ⟨w4.heap.size, 1, none⟩ = some (.slice p3 R.length q3) := by rw [cell_of_row w8 _ _ _ _ (0, 0) T_8_2.out]; rfl
  have z_8_2 : w4.heap.size < w8.heap.size := (Array.getElem?_eq_some_iff.1 T_8_2.out).1
  have m_8_3_0 : w8.cell? ⟨w5.heap.size, 0, none⟩ = some (.int .i64 N) := by rw [cell_of_row w8 _ _ _ _ (0, 0) T_8_3.out]; rfl
  have m_8_3_1 : w8.cell? ⟨w5.heap.size, 1, none⟩ = some (.slice a4 n c4) := by rw [cell_of_row w8 _ _ _ _ (0, 0) T_8_3.out]; rfl
  have z_8_3 : w5.heap.size < w8.heap.size := (Array.getElem?_eq_some_iff.1 T_8_3.out).1
  have m_8_4_0 : w8.cell? ⟨w7.heap.size, 0, none⟩ = some (.int .i64 X) := by rw [cell_of_row w8 _ _ _ _ (0, 0) T_8_4.out]; rfl
  have m_8_4_1 : w8.cell? ⟨w7.heap.size, 1, none⟩ = some (.slice p6 R.length q6) := by rw [cell_of_row w8 _ _ _ _ (0, 0) T_8_4.out]; rfl
  have z_8_4 : w7.heap.size < w8.heap.size := (Array.getElem?_eq_some_iff.1 T_8_4.out).1
  clear hb
  have O_g1_8 := hid (O_g1.out.below HB_8.out)
  have O_w1_8 := hid ((((O_w1.out.below HB_5.out).below HB_6.out).below HB_7.out).below HB_8.out)
  go_wp2_with fail
  refine (l_eqIntS _ _ _ _ _ _ S S _ (O_g1_8.out.at.below (by go_grown)) (O_w1_8.out.at.below (by go_grown)) (by omega) (by omega)).mono ?_
  rintro e w9 ⟨rfl, hb⟩
  have HB_9 := hid (bstep (by go_grown) hb : Below w8.heap.size w8 w9)
  have B_9 := hid (bstep B_8.out HB_9.out)
  have S_9 := HB_9.out.size
  have T_9_1 := hid ((HB_9.out.block w.heap.size (Array.getElem?_eq_some_iff.1 T_8_1.out).1).trans T_8_1.out)
  have T_9_2 := hid ((HB_9.out.block w4.heap.size (Array.getElem?_eq_some_iff.1 T_8_2.out).1).trans T_8_2.out)
  have T_9_3 := hid ((HB_9.out.block w5.heap.size (Array.getElem?_eq_some_iff.1 T_8_3.out).1).trans T_8_3.out)
  have T_9_4 := hid ((HB_9.out.block w7.heap.size (Array.getElem?_eq_some_iff.1 T_8_4.out).1).trans T_8_4.out)
  clear m_8_1_0 m_8_1_1 z_8_1 m_8_2_0 m_8_2_1 z_8_2 m_8_3_0 m_8_3_1 z_8_3 m_8_4_0 m_8_4_1 z_8_4
  have m_9_1_0 : w9.cell? ⟨w.heap.size, 0, none⟩ = some (.int .i64 N) := by rw [cell_of_row w9 _ _ _ _ (0, 0) T_9_1.out]; rfl
  have m_9_1_1 : w9.cell? ⟨w.heap.size, 1, none⟩ = some (.slice a n c) := by rw [cell_of_row w9 _ _ _ _ (0, 0) T_9_1.out]; rfl
  have z_9_1 : w.heap.size < w9.heap.size := (Array.getElem?_eq_some_iff.1 T_9_1.out).1
  have m_9_2_0 : w9.cell? ⟨w4.heap.size, 0, none⟩ = some (.int .i64 X) := by rw [cell_of_row w9 _ _ _ _ (0, 0) T_9_2.out]; rfl
  have m_9_2_1 : w9.cell? ⟨w4.heap.size, 1, none⟩ = some (.slice p3 R.length q3) := by rw [cell_of_row w9 _ _ _ _ (0, 0) T_9_2.out]; rfl
  have z_9_2 : w4.heap.size < w9.heap.size := (Array.getElem?_eq_some_iff.1 T_9_2.out).1
  have m_9_3_0 : w9.cell? ⟨w5.heap.size, 0, none⟩ = some (.int .i64 N) := by rw [cell_of_row w9 _ _ _ _ (0, 0) T_9_3.out]; rfl
  have m_9_3_1 : w9.cell? ⟨w5.heap.size, 1, none⟩ = some (.slice a4 n c4) := by rw [cell_of_row w9 _ _ _ _ (0, 0) T_9_3.out]; rfl
  have z_9_3 : w5.heap.size < w9.heap.size := (Array.getElem?_eq_some_iff.1 T_9_3.out).1
  have m_9_4_0 : w9.cell? ⟨w7.heap.size, 0, none⟩ = some (.int .i64 X) := by rw [cell_of_row w9 _ _ _ _ (0, 0) T_9_4.out]; rfl
  have m_9_4_1 : w9.cell? ⟨w7.heap.size, 1, none⟩ = some (.slice p6 R.length q6) := by rw [cell_of_row w9 _ _ _ _ (0, 0) T_9_4.out]; rfl
  have z_9_4 : w7.heap.size < w9.heap.size := (Array.getElem?_eq_some_iff.1 T_9_4.out).1
  clear hb
  have HA := hid (H_l.out.below B_9.out : QAt w9 _ _ _)
  have O_x_l_9 := hid (((O_x_l_6.out.below HB_7.out).below HB_8.out).below HB_9.out)
  have HX := hid (OwnS.at qf_len O_x_l_9.out)
  go_upto_region 13 with fail
  have q0 : ∀ wy wz : World, Below wy.heap.size wy wz → (wy.cell? ⟨w.heap.size, 0, none⟩ = some (.int .i64 N) ∧ wy.cell? ⟨w.heap.size, 1, none⟩ = some (.slice a n c) ∧ wy.cell? ⟨w4.heap.size, 0, none⟩ = some (.int .i64 X) ∧ wy.cell? ⟨w4.heap.size, 1, none⟩ = some (.slice p3 R.length q3) ∧ wy.cell? ⟨w5.heap.size, 0, none⟩ = some (.int .i64 N) ∧ wy.cell? ⟨w5.heap.size, 1, none⟩ = some (.slice a4 n c4) ∧ wy.cell? ⟨w7.heap.size, 0, none⟩ = some (.int .i64 X) ∧ wy.cell? ⟨w7.heap.size, 1, none⟩ = some (.slice p6 R.length q6)) → (wz.cell? ⟨w.heap.size, 0, none⟩ = some (.int .i64 N) ∧ wz.cell? ⟨w.heap.size, 1, none⟩ = some (.slice a n c) ∧ wz.cell? ⟨w4.heap.size, 0, none⟩ = some (.int .i64 X) ∧ wz.cell? ⟨w4.heap.size, 1, none⟩ = some (.slice p3 R.length q3) ∧ wz.cell? ⟨w5.heap.size, 0, none⟩ = some (.int .i64 N) ∧ wz.cell? ⟨w5.heap.size, 1, none⟩ = some (.slice a4 n c4) ∧ wz.cell? ⟨w7.heap.size, 0, none⟩ = some (.int .i64 X) ∧ wz.cell? ⟨w7.heap.size, 1, none⟩ = some (.slice p6 R.length q6)) :=
    fun wy wz hb ⟨z0, z1, z2, z3, z4, z5, z6, z7⟩ => ⟨(hb.cell (World.block_lt_of_cell? wy _ z0)).trans z0, (hb.cell (World.block_lt_of_cell? wy _ z1)).trans z1, (hb.cell (World.block_lt_of_cell? wy _ z2)).trans z2, (hb.cell (World.block_lt_of_cell? wy _ z3)).trans z3, (hb.cell (World.block_lt_of_cell? wy _ z4)).trans z4, (hb.cell (World.block_lt_of_cell? wy _ z5)).trans z5, (hb.cell (World.block_lt_of_cell? wy _ z6)).trans z6, (hb.cell (World.block_lt_of_cell? wy _ z7)).trans z7⟩
  have Q0 := hid q0
  clear q0
  go_cut [71] (fun s wx => s = .bool false ∧ Hid (Below w9.heap.size w9 wx))
  case first =>
    go_region_held3 (fun w' => (w'.cell? ⟨w.heap.size, 0, none⟩ = some (.int .i64 N) ∧ w'.cell? ⟨w.heap.size, 1, none⟩ = some (.slice a n c) ∧ w'.cell? ⟨w4.heap.size, 0, none⟩ = some (.int .i64 X) ∧ w'.cell? ⟨w4.heap.size, 1, none⟩ = some (.slice p3 R.length q3) ∧ w'.cell? ⟨w5.heap.size, 0, none⟩ = some (.int .i64 N) ∧ w'.cell? ⟨w5.heap.size, 1, none⟩ = some (.slice a4 n c4) ∧ w'.cell? ⟨w7.heap.size, 0, none⟩ = some (.int .i64 X) ∧ w'.cell? ⟨w7.heap.size, 1, none⟩ = some (.slice p6 R.length q6))) (first | go_keep | exact Q0.out _ _ (by assumption) (by first | assumption | (refine ⟨?_, ?_, ?_, ?_, ?_, ?_, ?_, ?_⟩ <;> assumption) | simp [*]))
      (first | (go_at_call 17; refine (l_toNetwork _ _ _ _ _ _ (HA.out.below (by go_grown)) (by omega)).mono ?_; rintro e wA ⟨aA, cA, rfl, oA, hbA⟩; obtain ⟨hcA, hfA⟩ := bcell hbA) | (go_at_call 20; refine (l_eqNetwork _ _ _ _ _ _ _ _ (HX.out.below (bstep (by go_grown) hbA)) (OwnS.at qf_len oA) (by omega)).mono ?_; rintro e wB ⟨rfl, hbB⟩; obtain ⟨hcB, hfB⟩ := bcell hbB))
    all_goals (go_wp2_with fail; go_meet)
    all_goals refine ⟨rfl, ?_⟩
    all_goals exact bstep (bstep ((Below.refl _ _).drew : Below w9.heap.size w9 _) hbA) hbB
  case rest =>
    obtain ⟨rfl, hx⟩ := hcut
    have HB_10 := hx
    have B_10 := hid (bstep B_9.out HB_10.out)
    have S_10 := HB_10.out.size
    have T_10_1 := hid ((HB_10.out.block w.heap.size (Array.getElem?_eq_some_iff.1 T_9_1.out).1).trans T_9_1.out)
    have T_10_2 := hid ((HB_10.out.block w4.heap.size (Array.getElem?_eq_some_iff.1 T_9_2.out).1).trans T_9_2.out)
    have T_10_3 := hid ((HB_10.out.block w5.heap.size (Array.getElem?_eq_some_iff.1 T_9_3.out).1).trans T_9_3.out)
    have T_10_4 := hid ((HB_10.out.block w7.heap.size (Array.getElem?_eq_some_iff.1 T_9_4.out).1).trans T_9_4.out)
    clear m_9_1_0 m_9_1_1 z_9_1 m_9_2_0 m_9_2_1 z_9_2 m_9_3_0 m_9_3_1 z_9_3 m_9_4_0 m_9_4_1 z_9_4
    have m_10_1_0 : wc.cell? ⟨w.heap.size, 0, none⟩ = some (.int .i64 N) := by rw [cell_of_row wc _ _ _ _ (0, 0) T_10_1.out]; rfl
    have m_10_1_1 : wc.cell? ⟨w.heap.size, 1, none⟩ = some (.slice a n c) := by rw [cell_of_row wc _ _ _ _ (0, 0) T_10_1.out]; rfl
    have z_10_1 : w.heap.size < wc.heap.size := (Array.getElem?_eq_some_iff.1 T_10_1.out).1
    have m_10_2_0 : wc.cell? ⟨w4.heap.size, 0, none⟩ = some (.int .i64 X) := by rw [cell_of_row wc _ _ _ _ (0, 0) T_10_2.out]; rfl
    have m_10_2_1 : wc.cell? ⟨w4.heap.size, 1, none⟩ = some (.slice p3 R.length q3) := by rw [cell_of_row wc _ _ _ _ (0, 0) T_10_2.out]; rfl
    have z_10_2 : w4.heap.size < wc.heap.size := (Array.getElem?_eq_some_iff.1 T_10_2.out).1
    have m_10_3_0 : wc.cell? ⟨w5.heap.size, 0, none⟩ = some (.int .i64 N) := by rw [cell_of_row wc _ _ _ _ (0, 0) T_10_3.out]; rfl
    have m_10_3_1 : wc.cell? ⟨w5.heap.size, 1, none⟩ = some (.slice a4 n c4) := by rw [cell_of_row wc _ _ _ _ (0, 0) T_10_3.out]; rfl
    have z_10_3 : w5.heap.size < wc.heap.size := (Array.getElem?_eq_some_iff.1 T_10_3.out).1
    have m_10_4_0 : wc.cell? ⟨w7.heap.size, 0, none⟩ = some (.int .i64 X) := by rw [cell_of_row wc _ _ _ _ (0, 0) T_10_4.out]; rfl
    have m_10_4_1 : wc.cell? ⟨w7.heap.size, 1, none⟩ = some (.slice p6 R.length q6) := by rw [cell_of_row wc _ _ _ _ (0, 0) T_10_4.out]; rfl
    have z_10_4 : w7.heap.size < wc.heap.size := (Array.getElem?_eq_some_iff.1 T_10_4.out).1
    go_wp2_with fail
    refine (l_toIntS _ _ _ f1 _ ((H_f1.out.below B_10.out).below (by go_grown)) (by omega)).mono ?_
    rintro e w11 ⟨a7, c7, rfl, o7, hb⟩
    have HB_11 := hid (bstep (by go_grown) hb : Below wc.heap.size wc w11)
    have B_11 := hid (bstep B_10.out HB_11.out)
    have S_11 := HB_11.out.size
    have T_11_1 := hid ((HB_11.out.block w.heap.size (Array.getElem?_eq_some_iff.1 T_10_1.out).1).trans T_10_1.out)
    have T_11_2 := hid ((HB_11.out.block w4.heap.size (Array.getElem?_eq_some_iff.1 T_10_2.out).1).trans T_10_2.out)
    have T_11_3 := hid ((HB_11.out.block w5.heap.size (Array.getElem?_eq_some_iff.1 T_10_3.out).1).trans T_10_3.out)
    have T_11_4 := hid ((HB_11.out.block w7.heap.size (Array.getElem?_eq_some_iff.1 T_10_4.out).1).trans T_10_4.out)
    clear m_10_1_0 m_10_1_1 z_10_1 m_10_2_0 m_10_2_1 z_10_2 m_10_3_0 m_10_3_1 z_10_3 m_10_4_0 m_10_4_1 z_10_4
    have m_11_1_0 : w11.cell? ⟨w.heap.size, 0, none⟩ = some (.int .i64 N) := by rw [cell_of_row w11 _ _ _ _ (0, 0) T_11_1.out]; rfl
    have m_11_1_1 : w11.cell? ⟨w.heap.size, 1, none⟩ = some (.slice a n c) := by rw [cell_of_row w11 _ _ _ _ (0, 0) T_11_1.out]; rfl
    have z_11_1 : w.heap.size < w11.heap.size := (Array.getElem?_eq_some_iff.1 T_11_1.out).1
    have m_11_2_0 : w11.cell? ⟨w4.heap.size, 0, none⟩ = some (.int .i64 X) := by rw [cell_of_row w11 _ _ _ _ (0, 0) T_11_2.out]; rfl
    have m_11_2_1 : w11.cell? ⟨w4.heap.size, 1, none⟩ = some (.slice p3 R.length q3) := by rw [cell_of_row w11 _ _ _ _ (0, 0) T_11_2.out]; rfl
    have z_11_2 : w4.heap.size < w11.heap.size := (Array.getElem?_eq_some_iff.1 T_11_2.out).1
    have m_11_3_0 : w11.cell? ⟨w5.heap.size, 0, none⟩ = some (.int .i64 N) := by rw [cell_of_row w11 _ _ _ _ (0, 0) T_11_3.out]; rfl
    have m_11_3_1 : w11.cell? ⟨w5.heap.size, 1, none⟩ = some (.slice a4 n c4) := by rw [cell_of_row w11 _ _ _ _ (0, 0) T_11_3.out]; rfl
    have z_11_3 : w5.heap.size < w11.heap.size := (Array.getElem?_eq_some_iff.1 T_11_3.out).1
    have m_11_4_0 : w11.cell? ⟨w7.heap.size, 0, none⟩ = some (.int .i64 X) := by rw [cell_of_row w11 _ _ _ _ (0, 0) T_11_4.out]; rfl
    have m_11_4_1 : w11.cell? ⟨w7.heap.size, 1, none⟩ = some (.slice p6 R.length q6) := by rw [cell_of_row w11 _ _ _ _ (0, 0) T_11_4.out]; rfl
    have z_11_4 : w7.heap.size < w11.heap.size := (Array.getElem?_eq_some_iff.1 T_11_4.out).1
    clear hb
    try simp only [World.size_alloc] at o7
    have O_y_f1 := hid o7
    clear o7
    have O_x_f1_11 := hid (((((O_x_f1.out.below HB_7.out).below HB_8.out).below HB_9.out).below HB_10.out).below HB_11.out)
    go_wp2_with fail
    refine (l_eqIntS _ _ _ _ _ _ f1 f1 _ (O_x_f1_11.out.at.below (by go_grown)) (O_y_f1.out.at.below (by go_grown)) (by omega) (by omega)).mono ?_
    rintro e w12 ⟨rfl, hb⟩
    have HB_12 := hid (bstep (by go_grown) hb : Below w11.heap.size w11 w12)
    have B_12 := hid (bstep B_11.out HB_12.out)
    have S_12 := HB_12.out.size
    have T_12_1 := hid ((HB_12.out.block w.heap.size (Array.getElem?_eq_some_iff.1 T_11_1.out).1).trans T_11_1.out)
    have T_12_2 := hid ((HB_12.out.block w4.heap.size (Array.getElem?_eq_some_iff.1 T_11_2.out).1).trans T_11_2.out)
    have T_12_3 := hid ((HB_12.out.block w5.heap.size (Array.getElem?_eq_some_iff.1 T_11_3.out).1).trans T_11_3.out)
    have T_12_4 := hid ((HB_12.out.block w7.heap.size (Array.getElem?_eq_some_iff.1 T_11_4.out).1).trans T_11_4.out)
    clear m_11_1_0 m_11_1_1 z_11_1 m_11_2_0 m_11_2_1 z_11_2 m_11_3_0 m_11_3_1 z_11_3 m_11_4_0 m_11_4_1 z_11_4
    have m_12_1_0 : w12.cell? ⟨w.heap.size, 0, none⟩ = some (.int .i64 N) := by rw [cell_of_row w12 _ _ _ _ (0, 0) T_12_1.out]; rfl
    have m_12_1_1 : w12.cell? ⟨w.heap.size, 1, none⟩ = some (.slice a n c) := by rw [cell_of_row w12 _ _ _ _ (0, 0) T_12_1.out]; rfl
    have z_12_1 : w.heap.size < w12.heap.size := (Array.getElem?_eq_some_iff.1 T_12_1.out).1
    have m_12_2_0 : w12.cell? ⟨w4.heap.size, 0, none⟩ = some (.int .i64 X) := by rw [cell_of_row w12 _ _ _ _ (0, 0) T_12_2.out]; rfl
    have m_12_2_1 : w12.cell? ⟨w4.heap.size, 1, none⟩ = some (.slice p3 R.length q3) := by rw [cell_of_row w12 _ _ _ _ (0, 0) T_12_2.out]; rfl
    have z_12_2 : w4.heap.size < w12.heap.size := (Array.getElem?_eq_some_iff.1 T_12_2.out).1
    have m_12_3_0 : w12.cell? ⟨w5.heap.size, 0, none⟩ = some (.int .i64 N) := by rw [cell_of_row w12 _ _ _ _ (0, 0) T_12_3.out]; rfl
    have m_12_3_1 : w12.cell? ⟨w5.heap.size, 1, none⟩ = some (.slice a4 n c4) := by rw [cell_of_row w12 _ _ _ _ (0, 0) T_12_3.out]; rfl
    have z_12_3 : w5.heap.size < w12.heap.size := (Array.getElem?_eq_some_iff.1 T_12_3.out).1
    have m_12_4_0 : w12.cell? ⟨w7.heap.size, 0, none⟩ = some (.int .i64 X) := by rw [cell_of_row w12 _ _ _ _ (0, 0) T_12_4.out]; rfl
    have m_12_4_1 : w12.cell? ⟨w7.heap.size, 1, none⟩ = some (.slice p6 R.length q6) := by rw [cell_of_row w12 _ _ _ _ (0, 0) T_12_4.out]; rfl
    have z_12_4 : w7.heap.size < w12.heap.size := (Array.getElem?_eq_some_iff.1 T_12_4.out).1
    clear hb
    have O_x_l_12 := hid (((O_x_l_9.out.below HB_10.out).below HB_11.out).below HB_12.out)
    have O_x_f1_12 := hid (O_x_f1_11.out.below HB_12.out)
    have O_g0_12 := hid (((((O_g0.out.below HB_8.out).below HB_9.out).below HB_10.out).below HB_11.out).below HB_12.out)
    have O_g1_12 := hid ((((O_g1_8.out.below HB_9.out).below HB_10.out).below HB_11.out).below HB_12.out)
    have O_w0_12 := hid (((((O_w0_7.out.below HB_8.out).below HB_9.out).below HB_10.out).below HB_11.out).below HB_12.out)
    have O_w1_12 := hid ((((O_w1_8.out.below HB_9.out).below HB_10.out).below HB_11.out).below HB_12.out)
    go_wp2_with fail
    refine (l_markNetwork _ _ _ _ _ l _ _ O_x_l_12.out (by omega) (by omega)).mono ?_
    rintro e w13 ⟨rfl, ho, hg⟩
    have S_13 := hg.size
    have L_13 := hid (O_x_l.out).lt
    have B_13 := hid (B_12.out.grown hg B_12.out.size (fun q hq => by have := (L_13.out q hq).1; omega))
    have O_x_f1_13 := hid (O_x_f1_12.out.kept hg (ne_of_younger O_x_f1.out.lt O_x_l.out.lt (by omega)))
    have O_g0_13 := hid (O_g0_12.out.kept hg (ne_of_younger O_g0.out.lt O_x_l.out.lt (by omega)))
    have O_g1_13 := hid (O_g1_12.out.kept hg (ne_of_younger O_g1.out.lt O_x_l.out.lt (by omega)))
    have O_w0_13 := hid (O_w0_12.out.kept hg (ne_of_older O_w0.out.lt O_x_l.out.lt (by omega)))
    have O_w1_13 := hid (O_w1_12.out.kept hg (ne_of_older O_w1.out.lt O_x_l.out.lt (by omega)))
    have T_13_1 := hid ((hg.block w.heap.size (Array.getElem?_eq_some_iff.1 T_12_1.out).1 (fun e => by have := L_13.out _ e.symm; omega)).trans T_12_1.out)
    have T_13_2 := hid ((hg.block w4.heap.size (Array.getElem?_eq_some_iff.1 T_12_2.out).1 (fun e => by have := L_13.out _ e.symm; omega)).trans T_12_2.out)
    have T_13_3 := hid ((hg.block w5.heap.size (Array.getElem?_eq_some_iff.1 T_12_3.out).1 (fun e => by have := L_13.out _ e.symm; omega)).trans T_12_3.out)
    have T_13_4 := hid ((hg.block w7.heap.size (Array.getElem?_eq_some_iff.1 T_12_4.out).1 (fun e => by have := L_13.out _ e.symm; omega)).trans T_12_4.out)
    have O_x_l_13 := hid ho
    clear m_12_1_0 m_12_1_1 z_12_1 m_12_2_0 m_12_2_1 z_12_2 m_12_3_0 m_12_3_1 z_12_3 m_12_4_0 m_12_4_1 z_12_4
    have m_13_1_0 : w13.cell? ⟨w.heap.size, 0, none⟩ = some (.int .i64 N) := by rw [cell_of_row w13 _ _ _ _ (0, 0) T_13_1.out]; rfl
    have m_13_1_1 : w13.cell? ⟨w.heap.size, 1, none⟩ = some (.slice a n c) := by rw [cell_of_row w13 _ _ _ _ (0, 0) T_13_1.out]; rfl
    have z_13_1 : w.heap.size < w13.heap.size := (Array.getElem?_eq_some_iff.1 T_13_1.out).1
    have m_13_2_0 : w13.cell? ⟨w4.heap.size, 0, none⟩ = some (.int .i64 X) := by rw [cell_of_row w13 _ _ _ _ (0, 0) T_13_2.out]; rfl
    have m_13_2_1 : w13.cell? ⟨w4.heap.size, 1, none⟩ = some (.slice p3 R.length q3) := by rw [cell_of_row w13 _ _ _ _ (0, 0) T_13_2.out]; rfl
    have z_13_2 : w4.heap.size < w13.heap.size := (Array.getElem?_eq_some_iff.1 T_13_2.out).1
    have m_13_3_0 : w13.cell? ⟨w5.heap.size, 0, none⟩ = some (.int .i64 N) := by rw [cell_of_row w13 _ _ _ _ (0, 0) T_13_3.out]; rfl
    have m_13_3_1 : w13.cell? ⟨w5.heap.size, 1, none⟩ = some (.slice a4 n c4) := by rw [cell_of_row w13 _ _ _ _ (0, 0) T_13_3.out]; rfl
    have z_13_3 : w5.heap.size < w13.heap.size := (Array.getElem?_eq_some_iff.1 T_13_3.out).1
    have m_13_4_0 : w13.cell? ⟨w7.heap.size, 0, none⟩ = some (.int .i64 X) := by rw [cell_of_row w13 _ _ _ _ (0, 0) T_13_4.out]; rfl
    have m_13_4_1 : w13.cell? ⟨w7.heap.size, 1, none⟩ = some (.slice p6 R.length q6) := by rw [cell_of_row w13 _ _ _ _ (0, 0) T_13_4.out]; rfl
    have z_13_4 : w7.heap.size < w13.heap.size := (Array.getElem?_eq_some_iff.1 T_13_4.out).1
    clear ho hg
    go_wp2_with fail
    refine (l_markIntS _ _ _ _ f1 _ _ O_x_f1_13.out (by omega) (by omega)).mono ?_
    rintro e w14 ⟨rfl, ho, hg⟩
    have S_14 := hg.size
    have L_14 := hid (O_x_f1.out).lt
    have B_14 := hid (B_13.out.grown hg B_13.out.size (fun q hq => by have := (L_14.out q hq).1; omega))
    have O_g0_14 := hid (O_g0_13.out.kept hg (ne_of_younger O_g0.out.lt O_x_f1.out.lt (by omega)))
    have O_g1_14 := hid (O_g1_13.out.kept hg (ne_of_younger O_g1.out.lt O_x_f1.out.lt (by omega)))
    have O_w0_14 := hid (O_w0_13.out.kept hg (ne_of_older O_w0.out.lt O_x_f1.out.lt (by omega)))
    have O_w1_14 := hid (O_w1_13.out.kept hg (ne_of_older O_w1.out.lt O_x_f1.out.lt (by omega)))
    have T_14_1 := hid ((hg.block w.heap.size (Array.getElem?_eq_some_iff.1 T_13_1.out).1 (fun e => by have := L_14.out _ e.symm; omega)).trans T_13_1.out)
    have T_14_2 := hid ((hg.block w4.heap.size (Array.getElem?_eq_some_iff.1 T_13_2.out).1 (fun e => by have := L_14.out _ e.symm; omega)).trans T_13_2.out)
    have T_14_3 := hid ((hg.block w5.heap.size (Array.getElem?_eq_some_iff.1 T_13_3.out).1 (fun e => by have := L_14.out _ e.symm; omega)).trans T_13_3.out)
    have T_14_4 := hid ((hg.block w7.heap.size (Array.getElem?_eq_some_iff.1 T_13_4.out).1 (fun e => by have := L_14.out _ e.symm; omega)).trans T_13_4.out)
    have O_x_f1_14 := hid ho
    clear m_13_1_0 m_13_1_1 z_13_1 m_13_2_0 m_13_2_1 z_13_2 m_13_3_0 m_13_3_1 z_13_3 m_13_4_0 m_13_4_1 z_13_4
    have m_14_1_0 : w14.cell? ⟨w.heap.size, 0, none⟩ = some (.int .i64 N) := by rw [cell_of_row w14 _ _ _ _ (0, 0) T_14_1.out]; rfl
    have m_14_1_1 : w14.cell? ⟨w.heap.size, 1, none⟩ = some (.slice a n c) := by rw [cell_of_row w14 _ _ _ _ (0, 0) T_14_1.out]; rfl
    have z_14_1 : w.heap.size < w14.heap.size := (Array.getElem?_eq_some_iff.1 T_14_1.out).1
    have m_14_2_0 : w14.cell? ⟨w4.heap.size, 0, none⟩ = some (.int .i64 X) := by rw [cell_of_row w14 _ _ _ _ (0, 0) T_14_2.out]; rfl
    have m_14_2_1 : w14.cell? ⟨w4.heap.size, 1, none⟩ = some (.slice p3 R.length q3) := by rw [cell_of_row w14 _ _ _ _ (0, 0) T_14_2.out]; rfl
    have z_14_2 : w4.heap.size < w14.heap.size := (Array.getElem?_eq_some_iff.1 T_14_2.out).1
    have m_14_3_0 : w14.cell? ⟨w5.heap.size, 0, none⟩ = some (.int .i64 N) := by rw [cell_of_row w14 _ _ _ _ (0, 0) T_14_3.out]; rfl
    have m_14_3_1 : w14.cell? ⟨w5.heap.size, 1, none⟩ = some (.slice a4 n c4) := by rw [cell_of_row w14 _ _ _ _ (0, 0) T_14_3.out]; rfl
    have z_14_3 : w5.heap.size < w14.heap.size := (Array.getElem?_eq_some_iff.1 T_14_3.out).1
    have m_14_4_0 : w14.cell? ⟨w7.heap.size, 0, none⟩ = some (.int .i64 X) := by rw [cell_of_row w14 _ _ _ _ (0, 0) T_14_4.out]; rfl
    have m_14_4_1 : w14.cell? ⟨w7.heap.size, 1, none⟩ = some (.slice p6 R.length q6) := by rw [cell_of_row w14 _ _ _ _ (0, 0) T_14_4.out]; rfl
    have z_14_4 : w7.heap.size < w14.heap.size := (Array.getElem?_eq_some_iff.1 T_14_4.out).1
    clear ho hg
    go_wp2_with fail
    refine (l_eqNetwork X _ _ _ _ _ R _ ((OwnS.at qf_len O_g0_14.out).below (by go_grown)) ((OwnS.at qf_len O_w0_14.out).below (by go_grown)) (by omega)).mono ?_
    rintro e w15 ⟨rfl, hb⟩
    have HB_15 := hid (bstep (by go_grown) hb : Below w14.heap.size w14 w15)
    have B_15 := hid (bstep B_14.out HB_15.out)
    have S_15 := HB_15.out.size
    have T_15_1 := hid ((HB_15.out.block w.heap.size (Array.getElem?_eq_some_iff.1 T_14_1.out).1).trans T_14_1.out)
    have T_15_2 := hid ((HB_15.out.block w4.heap.size (Array.getElem?_eq_some_iff.1 T_14_2.out).1).trans T_14_2.out)
    have T_15_3 := hid ((HB_15.out.block w5.heap.size (Array.getElem?_eq_some_iff.1 T_14_3.out).1).trans T_14_3.out)
    have T_15_4 := hid ((HB_15.out.block w7.heap.size (Array.getElem?_eq_some_iff.1 T_14_4.out).1).trans T_14_4.out)
    clear m_14_1_0 m_14_1_1 z_14_1 m_14_2_0 m_14_2_1 z_14_2 m_14_3_0 m_14_3_1 z_14_3 m_14_4_0 m_14_4_1 z_14_4
    have m_15_1_0 : w15.cell? ⟨w.heap.size, 0, none⟩ = some (.int .i64 N) := by rw [cell_of_row w15 _ _ _ _ (0, 0) T_15_1.out]; rfl
    have m_15_1_1 : w15.cell? ⟨w.heap.size, 1, none⟩ = some (.slice a n c) := by rw [cell_of_row w15 _ _ _ _ (0, 0) T_15_1.out]; rfl
    have z_15_1 : w.heap.size < w15.heap.size := (Array.getElem?_eq_some_iff.1 T_15_1.out).1
    have m_15_2_0 : w15.cell? ⟨w4.heap.size, 0, none⟩ = some (.int .i64 X) := by rw [cell_of_row w15 _ _ _ _ (0, 0) T_15_2.out]; rfl
    have m_15_2_1 : w15.cell? ⟨w4.heap.size, 1, none⟩ = some (.slice p3 R.length q3) := by rw [cell_of_row w15 _ _ _ _ (0, 0) T_15_2.out]; rfl
    have z_15_2 : w4.heap.size < w15.heap.size := (Array.getElem?_eq_some_iff.1 T_15_2.out).1
    have m_15_3_0 : w15.cell? ⟨w5.heap.size, 0, none⟩ = some (.int .i64 N) := by rw [cell_of_row w15 _ _ _ _ (0, 0) T_15_3.out]; rfl
    have m_15_3_1 : w15.cell? ⟨w5.heap.size, 1, none⟩ = some (.slice a4 n c4) := by rw [cell_of_row w15 _ _ _ _ (0, 0) T_15_3.out]; rfl
    have z_15_3 : w5.heap.size < w15.heap.size := (Array.getElem?_eq_some_iff.1 T_15_3.out).1
    have m_15_4_0 : w15.cell? ⟨w7.heap.size, 0, none⟩ = some (.int .i64 X) := by rw [cell_of_row w15 _ _ _ _ (0, 0) T_15_4.out]; rfl
    have m_15_4_1 : w15.cell? ⟨w7.heap.size, 1, none⟩ = some (.slice p6 R.length q6) := by rw [cell_of_row w15 _ _ _ _ (0, 0) T_15_4.out]; rfl
    have z_15_4 : w7.heap.size < w15.heap.size := (Array.getElem?_eq_some_iff.1 T_15_4.out).1
    clear hb
    have O_g1_15 := hid (O_g1_14.out.below HB_15.out)
    have O_w1_15 := hid (O_w1_14.out.below HB_15.out)
    go_wp2_with fail
    refine (l_eqIntS _ _ _ _ _ _ S S _ (O_g1_15.out.at.below (by go_grown)) (O_w1_15.out.at.below (by go_grown)) (by omega) (by omega)).mono ?_
    rintro e w16 ⟨rfl, hb⟩
    have HB_16 := hid (bstep (by go_grown) hb : Below w15.heap.size w15 w16)
    have B_16 := hid (bstep B_15.out HB_16.out)
    have S_16 := HB_16.out.size
    have T_16_1 := hid ((HB_16.out.block w.heap.size (Array.getElem?_eq_some_iff.1 T_15_1.out).1).trans T_15_1.out)
    have T_16_2 := hid ((HB_16.out.block w4.heap.size (Array.getElem?_eq_some_iff.1 T_15_2.out).1).trans T_15_2.out)
    have T_16_3 := hid ((HB_16.out.block w5.heap.size (Array.getElem?_eq_some_iff.1 T_15_3.out).1).trans T_15_3.out)
    have T_16_4 := hid ((HB_16.out.block w7.heap.size (Array.getElem?_eq_some_iff.1 T_15_4.out).1).trans T_15_4.out)
    clear m_15_1_0 m_15_1_1 z_15_1 m_15_2_0 m_15_2_1 z_15_2 m_15_3_0 m_15_3_1 z_15_3 m_15_4_0 m_15_4_1 z_15_4
    have m_16_1_0 : w16.cell? ⟨w.heap.size, 0, none⟩ = some (.int .i64 N) := by rw [cell_of_row w16 _ _ _ _ (0, 0) T_16_1.out]; rfl
    have m_16_1_1 : w16.cell? ⟨w.heap.size, 1, none⟩ = some (.slice a n c) := by rw [cell_of_row w16 _ _ _ _ (0, 0) T_16_1.out]; rfl
    have z_16_1 : w.heap.size < w16.heap.size := (Array.getElem?_eq_some_iff.1 T_16_1.out).1
    have m_16_2_0 : w16.cell? ⟨w4.heap.size, 0, none⟩ = some (.int .i64 X) := by rw [cell_of_row w16 _ _ _ _ (0, 0) T_16_2.out]; rfl
    have m_16_2_1 : w16.cell? ⟨w4.heap.size, 1, none⟩ = some (.slice p3 R.length q3) := by rw [cell_of_row w16 _ _ _ _ (0, 0) T_16_2.out]; rfl
    have z_16_2 : w4.heap.size < w16.heap.size := (Array.getElem?_eq_some_iff.1 T_16_2.out).1
    have m_16_3_0 : w16.cell? ⟨w5.heap.size, 0, none⟩ = some (.int .i64 N) := by rw [cell_of_row w16 _ _ _ _ (0, 0) T_16_3.out]; rfl
    have m_16_3_1 : w16.cell? ⟨w5.heap.size, 1, none⟩ = some (.slice a4 n c4) := by rw [cell_of_row w16 _ _ _ _ (0, 0) T_16_3.out]; rfl
    have z_16_3 : w5.heap.size < w16.heap.size := (Array.getElem?_eq_some_iff.1 T_16_3.out).1
    have m_16_4_0 : w16.cell? ⟨w7.heap.size, 0, none⟩ = some (.int .i64 X) := by rw [cell_of_row w16 _ _ _ _ (0, 0) T_16_4.out]; rfl
    have m_16_4_1 : w16.cell? ⟨w7.heap.size, 1, none⟩ = some (.slice p6 R.length q6) := by rw [cell_of_row w16 _ _ _ _ (0, 0) T_16_4.out]; rfl
    have z_16_4 : w7.heap.size < w16.heap.size := (Array.getElem?_eq_some_iff.1 T_16_4.out).1
    clear hb
    have O_g0_16 := hid ((O_g0_14.out.below HB_15.out).below HB_16.out)
    have O_g1_16 := hid (O_g1_15.out.below HB_16.out)
    have O_w0_16 := hid ((O_w0_14.out.below HB_15.out).below HB_16.out)
    have O_w1_16 := hid (O_w1_15.out.below HB_16.out)
    go_wp2_with fail
    refine (l_markNetwork _ _ _ _ _ R _ _ O_g0_16.out (by omega) (by omega)).mono ?_
    rintro e w17 ⟨rfl, ho, hg⟩
    have S_17 := hg.size
    have L_17 := hid (O_g0.out).lt
    have B_17 := hid (B_16.out.grown hg B_16.out.size (fun q hq => by have := (L_17.out q hq).1; omega))
    have O_g1_17 := hid (O_g1_16.out.kept hg (ap_symm HA_g0.out))
    have O_w0_17 := hid (O_w0_16.out.kept hg (ne_of_older O_w0.out.lt O_g0.out.lt (by omega)))
    have O_w1_17 := hid (O_w1_16.out.kept hg (ne_of_older O_w1.out.lt O_g0.out.lt (by omega)))
    have T_17_1 := hid ((hg.block w.heap.size (Array.getElem?_eq_some_iff.1 T_16_1.out).1 (fun e => by have := L_17.out _ e.symm; omega)).trans T_16_1.out)
    have T_17_2 := hid ((hg.block w4.heap.size (Array.getElem?_eq_some_iff.1 T_16_2.out).1 (fun e => by have := L_17.out _ e.symm; omega)).trans T_16_2.out)
    have T_17_3 := hid ((hg.block w5.heap.size (Array.getElem?_eq_some_iff.1 T_16_3.out).1 (fun e => by have := L_17.out _ e.symm; omega)).trans T_16_3.out)
    have T_17_4 := hid ((hg.block w7.heap.size (Array.getElem?_eq_some_iff.1 T_16_4.out).1 (fun e => by have := L_17.out _ e.symm; omega)).trans T_16_4.out)
    have O_g0_17 := hid ho
    clear m_16_1_0 m_16_1_1 z_16_1 m_16_2_0 m_16_2_1 z_16_2 m_16_3_0 m_16_3_1 z_16_3 m_16_4_0 m_16_4_1 z_16_4
    have m_17_1_0 : w17.cell? ⟨w.heap.size, 0, none⟩ = some (.int .i64 N) := by rw [cell_of_row w17 _ _ _ _ (0, 0) T_17_1.out]; rfl
    have m_17_1_1 : w17.cell? ⟨w.heap.size, 1, none⟩ = some (.slice a n c) := by rw [cell_of_row w17 _ _ _ _ (0, 0) T_17_1.out]; rfl
    have z_17_1 : w.heap.size < w17.heap.size := (Array.getElem?_eq_some_iff.1 T_17_1.out).1
    have m_17_2_0 : w17.cell? ⟨w4.heap.size, 0, none⟩ = some (.int .i64 X) := by rw [cell_of_row w17 _ _ _ _ (0, 0) T_17_2.out]; rfl
    have m_17_2_1 : w17.cell? ⟨w4.heap.size, 1, none⟩ = some (.slice p3 R.length q3) := by rw [cell_of_row w17 _ _ _ _ (0, 0) T_17_2.out]; rfl
    have z_17_2 : w4.heap.size < w17.heap.size := (Array.getElem?_eq_some_iff.1 T_17_2.out).1
    have m_17_3_0 : w17.cell? ⟨w5.heap.size, 0, none⟩ = some (.int .i64 N) := by rw [cell_of_row w17 _ _ _ _ (0, 0) T_17_3.out]; rfl
    have m_17_3_1 : w17.cell? ⟨w5.heap.size, 1, none⟩ = some (.slice a4 n c4) := by rw [cell_of_row w17 _ _ _ _ (0, 0) T_17_3.out]; rfl
    have z_17_3 : w5.heap.size < w17.heap.size := (Array.getElem?_eq_some_iff.1 T_17_3.out).1
    have m_17_4_0 : w17.cell? ⟨w7.heap.size, 0, none⟩ = some (.int .i64 X) := by rw [cell_of_row w17 _ _ _ _ (0, 0) T_17_4.out]; rfl
    have m_17_4_1 : w17.cell? ⟨w7.heap.size, 1, none⟩ = some (.slice p6 R.length q6) := by rw [cell_of_row w17 _ _ _ _ (0, 0) T_17_4.out]; rfl
    have z_17_4 : w7.heap.size < w17.heap.size := (Array.getElem?_eq_some_iff.1 T_17_4.out).1
    clear ho hg
    go_wp2_with fail
    refine (l_markIntS _ _ _ _ S _ _ O_g1_17.out (by omega) (by omega)).mono ?_
    rintro e w18 ⟨rfl, ho, hg⟩
    have S_18 := hg.size
    have L_18 := hid (O_g1.out).lt
    have B_18 := hid (B_17.out.grown hg B_17.out.size (fun q hq => by have := (L_18.out q hq).1; omega))
    have O_g0_18 := hid (O_g0_17.out.kept hg (HA_g0.out))
    have O_w0_18 := hid (O_w0_17.out.kept hg (ne_of_older O_w0.out.lt O_g1.out.lt (by omega)))
    have O_w1_18 := hid (O_w1_17.out.kept hg (ne_of_older O_w1.out.lt O_g1.out.lt (by omega)))
    have T_18_1 := hid ((hg.block w.heap.size (Array.getElem?_eq_some_iff.1 T_17_1.out).1 (fun e => by have := L_18.out _ e.symm; omega)).trans T_17_1.out)
    have T_18_2 := hid ((hg.block w4.heap.size (Array.getElem?_eq_some_iff.1 T_17_2.out).1 (fun e => by have := L_18.out _ e.symm; omega)).trans T_17_2.out)
    have T_18_3 := hid ((hg.block w5.heap.size (Array.getElem?_eq_some_iff.1 T_17_3.out).1 (fun e => by have := L_18.out _ e.symm; omega)).trans T_17_3.out)
    have T_18_4 := hid ((hg.block w7.heap.size (Array.getElem?_eq_some_iff.1 T_17_4.out).1 (fun e => by have := L_18.out _ e.symm; omega)).trans T_17_4.out)
    have O_g1_18 := hid ho
    clear m_17_1_0 m_17_1_1 z_17_1 m_17_2_0 m_17_2_1 z_17_2 m_17_3_0 m_17_3_1 z_17_3 m_17_4_0 m_17_4_1 z_17_4
    have m_18_1_0 : w18.cell? ⟨w.heap.size, 0, none⟩ = some (.int .i64 N) := by rw [cell_of_row w18 _ _ _ _ (0, 0) T_18_1.out]; rfl
    have m_18_1_1 : w18.cell? ⟨w.heap.size, 1, none⟩ = some (.slice a n c) := by rw [cell_of_row w18 _ _ _ _ (0, 0) T_18_1.out]; rfl
    have z_18_1 : w.heap.size < w18.heap.size := (Array.getElem?_eq_some_iff.1 T_18_1.out).1
    have m_18_2_0 : w18.cell? ⟨w4.heap.size, 0, none⟩ = some (.int .i64 X) := by rw [cell_of_row w18 _ _ _ _ (0, 0) T_18_2.out]; rfl
    have m_18_2_1 : w18.cell? ⟨w4.heap.size, 1, none⟩ = some (.slice p3 R.length q3) := by rw [cell_of_row w18 _ _ _ _ (0, 0) T_18_2.out]; rfl
    have z_18_2 : w4.heap.size < w18.heap.size := (Array.getElem?_eq_some_iff.1 T_18_2.out).1
    have m_18_3_0 : w18.cell? ⟨w5.heap.size, 0, none⟩ = some (.int .i64 N) := by rw [cell_of_row w18 _ _ _ _ (0, 0) T_18_3.out]; rfl
    have m_18_3_1 : w18.cell? ⟨w5.heap.size, 1, none⟩ = some (.slice a4 n c4) := by rw [cell_of_row w18 _ _ _ _ (0, 0) T_18_3.out]; rfl
    have z_18_3 : w5.heap.size < w18.heap.size := (Array.getElem?_eq_some_iff.1 T_18_3.out).1
    have m_18_4_0 : w18.cell? ⟨w7.heap.size, 0, none⟩ = some (.int .i64 X) := by rw [cell_of_row w18 _ _ _ _ (0, 0) T_18_4.out]; rfl
    have m_18_4_1 : w18.cell? ⟨w7.heap.size, 1, none⟩ = some (.slice p6 R.length q6) := by rw [cell_of_row w18 _ _ _ _ (0, 0) T_18_4.out]; rfl
    have z_18_4 : w7.heap.size < w18.heap.size := (Array.getElem?_eq_some_iff.1 T_18_4.out).1
    clear ho hg
    go_wp2_with fail
    refine (l_heldNetwork _ _ _ _ _ _ ((OwnS.at qf_len O_g0_18.out).below (by go_grown)) (by omega) (by omega)).mono ?_
    rintro e w19 ⟨rfl, hb⟩
    have HB_19 := hid (bstep (by go_grown) hb : Below w18.heap.size w18 w19)
    have B_19 := hid (bstep B_18.out HB_19.out)
    have S_19 := HB_19.out.size
    have T_19_1 := hid ((HB_19.out.block w.heap.size (Array.getElem?_eq_some_iff.1 T_18_1.out).1).trans T_18_1.out)
    have T_19_2 := hid ((HB_19.out.block w4.heap.size (Array.getElem?_eq_some_iff.1 T_18_2.out).1).trans T_18_2.out)
    have T_19_3 := hid ((HB_19.out.block w5.heap.size (Array.getElem?_eq_some_iff.1 T_18_3.out).1).trans T_18_3.out)
    have T_19_4 := hid ((HB_19.out.block w7.heap.size (Array.getElem?_eq_some_iff.1 T_18_4.out).1).trans T_18_4.out)
    clear m_18_1_0 m_18_1_1 z_18_1 m_18_2_0 m_18_2_1 z_18_2 m_18_3_0 m_18_3_1 z_18_3 m_18_4_0 m_18_4_1 z_18_4
    have m_19_1_0 : w19.cell? ⟨w.heap.size, 0, none⟩ = some (.int .i64 N) := by rw [cell_of_row w19 _ _ _ _ (0, 0) T_19_1.out]; rfl
    have m_19_1_1 : w19.cell? ⟨w.heap.size, 1, none⟩ = some (.slice a n c) := by rw [cell_of_row w19 _ _ _ _ (0, 0) T_19_1.out]; rfl
    have z_19_1 : w.heap.size < w19.heap.size := (Array.getElem?_eq_some_iff.1 T_19_1.out).1
    have m_19_2_0 : w19.cell? ⟨w4.heap.size, 0, none⟩ = some (.int .i64 X) := by rw [cell_of_row w19 _ _ _ _ (0, 0) T_19_2.out]; rfl
    have m_19_2_1 : w19.cell? ⟨w4.heap.size, 1, none⟩ = some (.slice p3 R.length q3) := by rw [cell_of_row w19 _ _ _ _ (0, 0) T_19_2.out]; rfl
    have z_19_2 : w4.heap.size < w19.heap.size := (Array.getElem?_eq_some_iff.1 T_19_2.out).1
    have m_19_3_0 : w19.cell? ⟨w5.heap.size, 0, none⟩ = some (.int .i64 N) := by rw [cell_of_row w19 _ _ _ _ (0, 0) T_19_3.out]; rfl
    have m_19_3_1 : w19.cell? ⟨w5.heap.size, 1, none⟩ = some (.slice a4 n c4) := by rw [cell_of_row w19 _ _ _ _ (0, 0) T_19_3.out]; rfl
    have z_19_3 : w5.heap.size < w19.heap.size := (Array.getElem?_eq_some_iff.1 T_19_3.out).1
    have m_19_4_0 : w19.cell? ⟨w7.heap.size, 0, none⟩ = some (.int .i64 X) := by rw [cell_of_row w19 _ _ _ _ (0, 0) T_19_4.out]; rfl
    have m_19_4_1 : w19.cell? ⟨w7.heap.size, 1, none⟩ = some (.slice p6 R.length q6) := by rw [cell_of_row w19 _ _ _ _ (0, 0) T_19_4.out]; rfl
    have z_19_4 : w7.heap.size < w19.heap.size := (Array.getElem?_eq_some_iff.1 T_19_4.out).1
    clear hb
    have O_g1_19 := hid (O_g1_18.out.below HB_19.out)
    go_wp2_with fail
    refine (l_heldIntS _ _ _ _ _ (O_g1_19.out.at.below (by go_grown)) (by omega) (by omega)).mono ?_
    rintro e _ ⟨rfl, rfl⟩
    go_wp2_with fail
    refine (l_toNetwork _ _ _ _ l _ ((H_l.out.below B_19.out).below (by go_grown)) (by omega)).mono ?_
    rintro e w20 ⟨a8, c8, rfl, o8, hb⟩
    have HB_20 := hid (bstep (by go_grown) hb : Below w19.heap.size w19 w20)
    have B_20 := hid (bstep B_19.out HB_20.out)
    have S_20 := HB_20.out.size
    have T_20_1 := hid ((HB_20.out.block w.heap.size (Array.getElem?_eq_some_iff.1 T_19_1.out).1).trans T_19_1.out)
    have T_20_2 := hid ((HB_20.out.block w4.heap.size (Array.getElem?_eq_some_iff.1 T_19_2.out).1).trans T_19_2.out)
    have T_20_3 := hid ((HB_20.out.block w5.heap.size (Array.getElem?_eq_some_iff.1 T_19_3.out).1).trans T_19_3.out)
    have T_20_4 := hid ((HB_20.out.block w7.heap.size (Array.getElem?_eq_some_iff.1 T_19_4.out).1).trans T_19_4.out)
    clear m_19_1_0 m_19_1_1 z_19_1 m_19_2_0 m_19_2_1 z_19_2 m_19_3_0 m_19_3_1 z_19_3 m_19_4_0 m_19_4_1 z_19_4
    have m_20_1_0 : w20.cell? ⟨w.heap.size, 0, none⟩ = some (.int .i64 N) := by rw [cell_of_row w20 _ _ _ _ (0, 0) T_20_1.out]; rfl
    have m_20_1_1 : w20.cell? ⟨w.heap.size, 1, none⟩ = some (.slice a n c) := by rw [cell_of_row w20 _ _ _ _ (0, 0) T_20_1.out]; rfl
    have z_20_1 : w.heap.size < w20.heap.size := (Array.getElem?_eq_some_iff.1 T_20_1.out).1
    have m_20_2_0 : w20.cell? ⟨w4.heap.size, 0, none⟩ = some (.int .i64 X) := by rw [cell_of_row w20 _ _ _ _ (0, 0) T_20_2.out]; rfl
    have m_20_2_1 : w20.cell? ⟨w4.heap.size, 1, none⟩ = some (.slice p3 R.length q3) := by rw [cell_of_row w20 _ _ _ _ (0, 0) T_20_2.out]; rfl
    have z_20_2 : w4.heap.size < w20.heap.size := (Array.getElem?_eq_some_iff.1 T_20_2.out).1
    have m_20_3_0 : w20.cell? ⟨w5.heap.size, 0, none⟩ = some (.int .i64 N) := by rw [cell_of_row w20 _ _ _ _ (0, 0) T_20_3.out]; rfl
    have m_20_3_1 : w20.cell? ⟨w5.heap.size, 1, none⟩ = some (.slice a4 n c4) := by rw [cell_of_row w20 _ _ _ _ (0, 0) T_20_3.out]; rfl
    have z_20_3 : w5.heap.size < w20.heap.size := (Array.getElem?_eq_some_iff.1 T_20_3.out).1
    have m_20_4_0 : w20.cell? ⟨w7.heap.size, 0, none⟩ = some (.int .i64 X) := by rw [cell_of_row w20 _ _ _ _ (0, 0) T_20_4.out]; rfl
    have m_20_4_1 : w20.cell? ⟨w7.heap.size, 1, none⟩ = some (.slice p6 R.length q6) := by rw [cell_of_row w20 _ _ _ _ (0, 0) T_20_4.out]; rfl
    have z_20_4 : w7.heap.size < w20.heap.size := (Array.getElem?_eq_some_iff.1 T_20_4.out).1
    clear hb
    try simp only [World.size_alloc] at o8
    have O_z_l := hid o8
    clear o8
    go_wp2_with fail
    refine (l_toIntS _ _ _ f1 _ ((H_f1.out.below B_20.out).below (by go_grown)) (by omega)).mono ?_
    rintro e w21 ⟨a9, c9, rfl, o9, hb⟩
    have HB_21 := hid (bstep (by go_grown) hb : Below w20.heap.size w20 w21)
    have B_21 := hid (bstep B_20.out HB_21.out)
    have S_21 := HB_21.out.size
    have T_21_1 := hid ((HB_21.out.block w.heap.size (Array.getElem?_eq_some_iff.1 T_20_1.out).1).trans T_20_1.out)
    have T_21_2 := hid ((HB_21.out.block w4.heap.size (Array.getElem?_eq_some_iff.1 T_20_2.out).1).trans T_20_2.out)
    have T_21_3 := hid ((HB_21.out.block w5.heap.size (Array.getElem?_eq_some_iff.1 T_20_3.out).1).trans T_20_3.out)
    have T_21_4 := hid ((HB_21.out.block w7.heap.size (Array.getElem?_eq_some_iff.1 T_20_4.out).1).trans T_20_4.out)
    clear m_20_1_0 m_20_1_1 z_20_1 m_20_2_0 m_20_2_1 z_20_2 m_20_3_0 m_20_3_1 z_20_3 m_20_4_0 m_20_4_1 z_20_4
    have m_21_1_0 : w21.cell? ⟨w.heap.size, 0, none⟩ = some (.int .i64 N) := by rw [cell_of_row w21 _ _ _ _ (0, 0) T_21_1.out]; rfl
    have m_21_1_1 : w21.cell? ⟨w.heap.size, 1, none⟩ = some (.slice a n c) := by rw [cell_of_row w21 _ _ _ _ (0, 0) T_21_1.out]; rfl
    have z_21_1 : w.heap.size < w21.heap.size := (Array.getElem?_eq_some_iff.1 T_21_1.out).1
    have m_21_2_0 : w21.cell? ⟨w4.heap.size, 0, none⟩ = some (.int .i64 X) := by rw [cell_of_row w21 _ _ _ _ (0, 0) T_21_2.out]; rfl
    have m_21_2_1 : w21.cell? ⟨w4.heap.size, 1, none⟩ = some (.slice p3 R.length q3) := by rw [cell_of_row w21 _ _ _ _ (0, 0) T_21_2.out]; rfl
    have z_21_2 : w4.heap.size < w21.heap.size := (Array.getElem?_eq_some_iff.1 T_21_2.out).1
    have m_21_3_0 : w21.cell? ⟨w5.heap.size, 0, none⟩ = some (.int .i64 N) := by rw [cell_of_row w21 _ _ _ _ (0, 0) T_21_3.out]; rfl
    have m_21_3_1 : w21.cell? ⟨w5.heap.size, 1, none⟩ = some (.slice a4 n c4) := by rw [cell_of_row w21 _ _ _ _ (0, 0) T_21_3.out]; rfl
    have z_21_3 : w5.heap.size < w21.heap.size := (Array.getElem?_eq_some_iff.1 T_21_3.out).1
    have m_21_4_0 : w21.cell? ⟨w7.heap.size, 0, none⟩ = some (.int .i64 X) := by rw [cell_of_row w21 _ _ _ _ (0, 0) T_21_4.out]; rfl
    have m_21_4_1 : w21.cell? ⟨w7.heap.size, 1, none⟩ = some (.slice p6 R.length q6) := by rw [cell_of_row w21 _ _ _ _ (0, 0) T_21_4.out]; rfl
    have z_21_4 : w7.heap.size < w21.heap.size := (Array.getElem?_eq_some_iff.1 T_21_4.out).1
    clear hb
    try simp only [World.size_alloc] at o9
    have O_z_f1 := hid o9
    clear o9
    have O_z_l_21 := hid (O_z_l.out.below HB_21.out)
    go_wp2_with fail
    refine (i_ReversedPipe N i1 _ _ _ _ _ _ l f1 _ ((OwnS.at qf_len O_z_l_21.out).below (by go_grown)) (O_z_f1.out.at.below (by go_grown)) (by omega) (by omega) X R S b HR.out).mono ?_
    rintro e w22 ⟨p10, q10, r10, t10, rfl, o10a, o10b, hap10, hb⟩
    have HB_22 := hid (bstep (by go_grown) hb : Below w21.heap.size w21 w22)
    have B_22 := hid (bstep B_21.out HB_22.out)
    have S_22 := HB_22.out.size
    have T_22_1 := hid ((HB_22.out.block w.heap.size (Array.getElem?_eq_some_iff.1 T_21_1.out).1).trans T_21_1.out)
    have T_22_2 := hid ((HB_22.out.block w4.heap.size (Array.getElem?_eq_some_iff.1 T_21_2.out).1).trans T_21_2.out)
    have T_22_3 := hid ((HB_22.out.block w5.heap.size (Array.getElem?_eq_some_iff.1 T_21_3.out).1).trans T_21_3.out)
    have T_22_4 := hid ((HB_22.out.block w7.heap.size (Array.getElem?_eq_some_iff.1 T_21_4.out).1).trans T_21_4.out)
    clear m_21_1_0 m_21_1_1 z_21_1 m_21_2_0 m_21_2_1 z_21_2 m_21_3_0 m_21_3_1 z_21_3 m_21_4_0 m_21_4_1 z_21_4
    have m_22_1_0 : w22.cell? ⟨w.heap.size, 0, none⟩ = some (.int .i64 N) := by rw [cell_of_row w22 _ _ _ _ (0, 0) T_22_1.out]; rfl
    have m_22_1_1 : w22.cell? ⟨w.heap.size, 1, none⟩ = some (.slice a n c) := by rw [cell_of_row w22 _ _ _ _ (0, 0) T_22_1.out]; rfl
    have z_22_1 : w.heap.size < w22.heap.size := (Array.getElem?_eq_some_iff.1 T_22_1.out).1
    have m_22_2_0 : w22.cell? ⟨w4.heap.size, 0, none⟩ = some (.int .i64 X) := by rw [cell_of_row w22 _ _ _ _ (0, 0) T_22_2.out]; rfl
    have m_22_2_1 : w22.cell? ⟨w4.heap.size, 1, none⟩ = some (.slice p3 R.length q3) := by rw [cell_of_row w22 _ _ _ _ (0, 0) T_22_2.out]; rfl
    have z_22_2 : w4.heap.size < w22.heap.size := (Array.getElem?_eq_some_iff.1 T_22_2.out).1
    have m_22_3_0 : w22.cell? ⟨w5.heap.size, 0, none⟩ = some (.int .i64 N) := by rw [cell_of_row w22 _ _ _ _ (0, 0) T_22_3.out]; rfl
    have m_22_3_1 : w22.cell? ⟨w5.heap.size, 1, none⟩ = some (.slice a4 n c4) := by rw [cell_of_row w22 _ _ _ _ (0, 0) T_22_3.out]; rfl
    have z_22_3 : w5.heap.size < w22.heap.size := (Array.getElem?_eq_some_iff.1 T_22_3.out).1
    have m_22_4_0 : w22.cell? ⟨w7.heap.size, 0, none⟩ = some (.int .i64 X) := by rw [cell_of_row w22 _ _ _ _ (0, 0) T_22_4.out]; rfl
    have m_22_4_1 : w22.cell? ⟨w7.heap.size, 1, none⟩ = some (.slice p6 R.length q6) := by rw [cell_of_row w22 _ _ _ _ (0, 0) T_22_4.out]; rfl
    have z_22_4 : w7.heap.size < w22.heap.size := (Array.getElem?_eq_some_iff.1 T_22_4.out).1
    clear hb
    have HA_h0 := hid hap10
    clear hap10
    try simp only [World.size_alloc] at o10a
    have O_h0 := hid o10a
    clear o10a
    try simp only [World.size_alloc] at o10b
    have O_h1 := hid o10b
    clear o10b
    have O_w0_22 := hid ((((O_w0_18.out.below HB_19.out).below HB_20.out).below HB_21.out).below HB_22.out)
    go_wp2_with fail
    refine (l_eqNetwork X _ _ _ _ _ R _ ((OwnS.at qf_len O_h0.out).below (by go_grown)) ((OwnS.at qf_len O_w0_22.out).below (by go_grown)) (by omega)).mono ?_
    rintro e w23 ⟨rfl, hb⟩
    have HB_23 := hid (bstep (by go_grown) hb : Below w22.heap.size w22 w23)
    have B_23 := hid (bstep B_22.out HB_23.out)
    have S_23 := HB_23.out.size
    have T_23_1 := hid ((HB_23.out.block w.heap.size (Array.getElem?_eq_some_iff.1 T_22_1.out).1).trans T_22_1.out)
    have T_23_2 := hid ((HB_23.out.block w4.heap.size (Array.getElem?_eq_some_iff.1 T_22_2.out).1).trans T_22_2.out)
    have T_23_3 := hid ((HB_23.out.block w5.heap.size (Array.getElem?_eq_some_iff.1 T_22_3.out).1).trans T_22_3.out)
    have T_23_4 := hid ((HB_23.out.block w7.heap.size (Array.getElem?_eq_some_iff.1 T_22_4.out).1).trans T_22_4.out)
    have T_23_5 : Hid (w23.heap[w22.heap.size]? = some (.cells #[.int .i64 X, .slice p10 R.length q10] 31 (0, 0))) := hid (by rw [hb.block _ (by simp <;> omega)]; exact heap_alloc_new _ _)
    have Z_5 : w22.heap.size < w23.heap.size := (Array.getElem?_eq_some_iff.1 T_23_5.out).1
    clear m_22_1_0 m_22_1_1 z_22_1 m_22_2_0 m_22_2_1 z_22_2 m_22_3_0 m_22_3_1 z_22_3 m_22_4_0 m_22_4_1 z_22_4
    have m_23_1_0 : w23.cell? ⟨w.heap.size, 0, none⟩ = some (.int .i64 N) := by rw [cell_of_row w23 _ _ _ _ (0, 0) T_23_1.out]; rfl
    have m_23_1_1 : w23.cell? ⟨w.heap.size, 1, none⟩ = some (.slice a n c) := by rw [cell_of_row w23 _ _ _ _ (0, 0) T_23_1.out]; rfl
    have z_23_1 : w.heap.size < w23.heap.size := (Array.getElem?_eq_some_iff.1 T_23_1.out).1
    have m_23_2_0 : w23.cell? ⟨w4.heap.size, 0, none⟩ = some (.int .i64 X) := by rw [cell_of_row w23 _ _ _ _ (0, 0) T_23_2.out]; rfl
    have m_23_2_1 : w23.cell? ⟨w4.heap.size, 1, none⟩ = some (.slice p3 R.length q3) := by rw [cell_of_row w23 _ _ _ _ (0, 0) T_23_2.out]; rfl
    have z_23_2 : w4.heap.size < w23.heap.size := (Array.getElem?_eq_some_iff.1 T_23_2.out).1
    have m_23_3_0 : w23.cell? ⟨w5.heap.size, 0, none⟩ = some (.int .i64 N) := by rw [cell_of_row w23 _ _ _ _ (0, 0) T_23_3.out]; rfl
    have m_23_3_1 : w23.cell? ⟨w5.heap.size, 1, none⟩ = some (.slice a4 n c4) := by rw [cell_of_row w23 _ _ _ _ (0, 0) T_23_3.out]; rfl
    have z_23_3 : w5.heap.size < w23.heap.size := (Array.getElem?_eq_some_iff.1 T_23_3.out).1
    have m_23_4_0 : w23.cell? ⟨w7.heap.size, 0, none⟩ = some (.int .i64 X) := by rw [cell_of_row w23 _ _ _ _ (0, 0) T_23_4.out]; rfl
    have m_23_4_1 : w23.cell? ⟨w7.heap.size, 1, none⟩ = some (.slice p6 R.length q6) := by rw [cell_of_row w23 _ _ _ _ (0, 0) T_23_4.out]; rfl
    have z_23_4 : w7.heap.size < w23.heap.size := (Array.getElem?_eq_some_iff.1 T_23_4.out).1
    have m_23_5_0 : w23.cell? ⟨w22.heap.size, 0, none⟩ = some (.int .i64 X) := by rw [cell_of_row w23 _ _ _ _ (0, 0) T_23_5.out]; rfl
    have m_23_5_1 : w23.cell? ⟨w22.heap.size, 1, none⟩ = some (.slice p10 R.length q10) := by rw [cell_of_row w23 _ _ _ _ (0, 0) T_23_5.out]; rfl
    have z_23_5 : w22.heap.size < w23.heap.size := (Array.getElem?_eq_some_iff.1 T_23_5.out).1
    clear hb
    have O_h1_23 := hid (O_h1.out.below HB_23.out)
    have O_w1_23 := hid (((((O_w1_18.out.below HB_19.out).below HB_20.out).below HB_21.out).below HB_22.out).below HB_23.out)
    go_wp2_with fail
    refine (l_eqIntS _ _ _ _ _ _ S S _ (O_h1_23.out.at.below (by go_grown)) (O_w1_23.out.at.below (by go_grown)) (by omega) (by omega)).mono ?_
    rintro e w24 ⟨rfl, hb⟩
    have HB_24 := hid (bstep (by go_grown) hb : Below w23.heap.size w23 w24)
    have B_24 := hid (bstep B_23.out HB_24.out)
    have S_24 := HB_24.out.size
    have T_24_1 := hid ((HB_24.out.block w.heap.size (Array.getElem?_eq_some_iff.1 T_23_1.out).1).trans T_23_1.out)
    have T_24_2 := hid ((HB_24.out.block w4.heap.size (Array.getElem?_eq_some_iff.1 T_23_2.out).1).trans T_23_2.out)
    have T_24_3 := hid ((HB_24.out.block w5.heap.size (Array.getElem?_eq_some_iff.1 T_23_3.out).1).trans T_23_3.out)
    have T_24_4 := hid ((HB_24.out.block w7.heap.size (Array.getElem?_eq_some_iff.1 T_23_4.out).1).trans T_23_4.out)
    have T_24_5 := hid ((HB_24.out.block w22.heap.size (Array.getElem?_eq_some_iff.1 T_23_5.out).1).trans T_23_5.out)
    clear m_23_1_0 m_23_1_1 z_23_1 m_23_2_0 m_23_2_1 z_23_2 m_23_3_0 m_23_3_1 z_23_3 m_23_4_0 m_23_4_1 z_23_4 m_23_5_0 m_23_5_1 z_23_5
    have m_24_1_0 : w24.cell? ⟨w.heap.size, 0, none⟩ = some (.int .i64 N) := by rw [cell_of_row w24 _ _ _ _ (0, 0) T_24_1.out]; rfl
    have m_24_1_1 : w24.cell? ⟨w.heap.size, 1, none⟩ = some (.slice a n c) := by rw [cell_of_row w24 _ _ _ _ (0, 0) T_24_1.out]; rfl
    have z_24_1 : w.heap.size < w24.heap.size := (Array.getElem?_eq_some_iff.1 T_24_1.out).1
    have m_24_2_0 : w24.cell? ⟨w4.heap.size, 0, none⟩ = some (.int .i64 X) := by rw [cell_of_row w24 _ _ _ _ (0, 0) T_24_2.out]; rfl
    have m_24_2_1 : w24.cell? ⟨w4.heap.size, 1, none⟩ = some (.slice p3 R.length q3) := by rw [cell_of_row w24 _ _ _ _ (0, 0) T_24_2.out]; rfl
    have z_24_2 : w4.heap.size < w24.heap.size := (Array.getElem?_eq_some_iff.1 T_24_2.out).1
    have m_24_3_0 : w24.cell? ⟨w5.heap.size, 0, none⟩ = some (.int .i64 N) := by rw [cell_of_row w24 _ _ _ _ (0, 0) T_24_3.out]; rfl
    have m_24_3_1 : w24.cell? ⟨w5.heap.size, 1, none⟩ = some (.slice a4 n c4) := by rw [cell_of_row w24 _ _ _ _ (0, 0) T_24_3.out]; rfl
    have z_24_3 : w5.heap.size < w24.heap.size := (Array.getElem?_eq_some_iff.1 T_24_3.out).1
    have m_24_4_0 : w24.cell? ⟨w7.heap.size, 0, none⟩ = some (.int .i64 X) := by rw [cell_of_row w24 _ _ _ _ (0, 0) T_24_4.out]; rfl
    have m_24_4_1 : w24.cell? ⟨w7.heap.size, 1, none⟩ = some (.slice p6 R.length q6) := by rw [cell_of_row w24 _ _ _ _ (0, 0) T_24_4.out]; rfl
    have z_24_4 : w7.heap.size < w24.heap.size := (Array.getElem?_eq_some_iff.1 T_24_4.out).1
    have m_24_5_0 : w24.cell? ⟨w22.heap.size, 0, none⟩ = some (.int .i64 X) := by rw [cell_of_row w24 _ _ _ _ (0, 0) T_24_5.out]; rfl
    have m_24_5_1 : w24.cell? ⟨w22.heap.size, 1, none⟩ = some (.slice p10 R.length q10) := by rw [cell_of_row w24 _ _ _ _ (0, 0) T_24_5.out]; rfl
    have z_24_5 : w22.heap.size < w24.heap.size := (Array.getElem?_eq_some_iff.1 T_24_5.out).1
    clear hb
    have O_g0_24 := hid ((((((O_g0_18.out.below HB_19.out).below HB_20.out).below HB_21.out).below HB_22.out).below HB_23.out).below HB_24.out)
    go_wp2_with fail
    refine (l_heldNetwork _ _ _ _ _ _ ((OwnS.at qf_len O_g0_24.out).below (by go_grown)) (by omega) (by omega)).mono ?_
    rintro e w25 ⟨rfl, hb⟩
    have HB_25 := hid (bstep (by go_grown) hb : Below w24.heap.size w24 w25)
    have B_25 := hid (bstep B_24.out HB_25.out)
    have S_25 := HB_25.out.size
    have T_25_1 := hid ((HB_25.out.block w.heap.size (Array.getElem?_eq_some_iff.1 T_24_1.out).1).trans T_24_1.out)
    have T_25_2 := hid ((HB_25.out.block w4.heap.size (Array.getElem?_eq_some_iff.1 T_24_2.out).1).trans T_24_2.out)
    have T_25_3 := hid ((HB_25.out.block w5.heap.size (Array.getElem?_eq_some_iff.1 T_24_3.out).1).trans T_24_3.out)
    have T_25_4 := hid ((HB_25.out.block w7.heap.size (Array.getElem?_eq_some_iff.1 T_24_4.out).1).trans T_24_4.out)
    have T_25_5 := hid ((HB_25.out.block w22.heap.size (Array.getElem?_eq_some_iff.1 T_24_5.out).1).trans T_24_5.out)
    clear m_24_1_0 m_24_1_1 z_24_1 m_24_2_0 m_24_2_1 z_24_2 m_24_3_0 m_24_3_1 z_24_3 m_24_4_0 m_24_4_1 z_24_4 m_24_5_0 m_24_5_1 z_24_5
    have m_25_1_0 : w25.cell? ⟨w.heap.size, 0, none⟩ = some (.int .i64 N) := by rw [cell_of_row w25 _ _ _ _ (0, 0) T_25_1.out]; rfl
    have m_25_1_1 : w25.cell? ⟨w.heap.size, 1, none⟩ = some (.slice a n c) := by rw [cell_of_row w25 _ _ _ _ (0, 0) T_25_1.out]; rfl
    have z_25_1 : w.heap.size < w25.heap.size := (Array.getElem?_eq_some_iff.1 T_25_1.out).1
    have m_25_2_0 : w25.cell? ⟨w4.heap.size, 0, none⟩ = some (.int .i64 X) := by rw [cell_of_row w25 _ _ _ _ (0, 0) T_25_2.out]; rfl
    have m_25_2_1 : w25.cell? ⟨w4.heap.size, 1, none⟩ = some (.slice p3 R.length q3) := by rw [cell_of_row w25 _ _ _ _ (0, 0) T_25_2.out]; rfl
    have z_25_2 : w4.heap.size < w25.heap.size := (Array.getElem?_eq_some_iff.1 T_25_2.out).1
    have m_25_3_0 : w25.cell? ⟨w5.heap.size, 0, none⟩ = some (.int .i64 N) := by rw [cell_of_row w25 _ _ _ _ (0, 0) T_25_3.out]; rfl
    have m_25_3_1 : w25.cell? ⟨w5.heap.size, 1, none⟩ = some (.slice a4 n c4) := by rw [cell_of_row w25 _ _ _ _ (0, 0) T_25_3.out]; rfl
    have z_25_3 : w5.heap.size < w25.heap.size := (Array.getElem?_eq_some_iff.1 T_25_3.out).1
    have m_25_4_0 : w25.cell? ⟨w7.heap.size, 0, none⟩ = some (.int .i64 X) := by rw [cell_of_row w25 _ _ _ _ (0, 0) T_25_4.out]; rfl
    have m_25_4_1 : w25.cell? ⟨w7.heap.size, 1, none⟩ = some (.slice p6 R.length q6) := by rw [cell_of_row w25 _ _ _ _ (0, 0) T_25_4.out]; rfl
    have z_25_4 : w7.heap.size < w25.heap.size := (Array.getElem?_eq_some_iff.1 T_25_4.out).1
    have m_25_5_0 : w25.cell? ⟨w22.heap.size, 0, none⟩ = some (.int .i64 X) := by rw [cell_of_row w25 _ _ _ _ (0, 0) T_25_5.out]; rfl
    have m_25_5_1 : w25.cell? ⟨w22.heap.size, 1, none⟩ = some (.slice p10 R.length q10) := by rw [cell_of_row w25 _ _ _ _ (0, 0) T_25_5.out]; rfl
    have z_25_5 : w22.heap.size < w25.heap.size := (Array.getElem?_eq_some_iff.1 T_25_5.out).1
    clear hb
    have O_g1_25 := hid ((((((O_g1_19.out.below HB_20.out).below HB_21.out).below HB_22.out).below HB_23.out).below HB_24.out).below HB_25.out)
    go_wp2_with fail
    refine (l_heldIntS _ _ _ _ _ (O_g1_25.out.at.below (by go_grown)) (by omega) (by omega)).mono ?_
    rintro e _ ⟨rfl, rfl⟩
    go_wp2
    go_ret
    exact ⟨rfl, B_25.out⟩

set_option maxRecDepth 100000 in
theorem fnExactReversedPipe_lifted (os : Os) (started : os.Started) (H : Type) (enc : TypeId × Value → H) :
    ReturnsInHanded {} Try.checked os 12 .any (Rows.fnExactReversedPipeSpec.pre6 enc Try.prog Try.f12 Rows.fnExactReversedPipeRow.domain false) (Rows.fnExactReversedPipeSpec.post enc Try.prog Try.f12 false true false false) := by
  refine returnsInHanded_of_change (C := Try.checked) Try.own started (by kernel_rfl) Try.func12
    (ChangeSpec.witness6 (enc := enc) (C := Try.checked) false ⟨#[], #[.agg #[.int .i64 0, .slice none 0 0], .slice none 0 0, .int .i64 0], []⟩ 8 (by kernel_rfl) (by kernel_rfl) (by kernel_rfl) (by kernel_rfl)) ?_
  intro W base args ds gs before hval0 hW _ _
  have hval : ∀ (j : Nat) t v, Try.f12.params[j]? = some t → args[j]? = some v → Value.okWide Try.prog W .any base t v := hval0
  have hW' : DataW.Whole enc Try.prog Try.f12.params.toList Rows.fnExactReversedPipeSpec.vars false W args.toList ds gs before := hW
  obtain ⟨p, q, hA0, hV, rfl, hfz, hnd⟩ := hW
  have hlt : ∀ x ∈ p, x.block < W.heap.size := fun x hx => hW'.lt x (by simp [hx])
  have hA : DataW.TrodAll enc Try.prog W 0 (fun _ => true) true Try.f12.params.toList args.toList ds p := hA0
  rw [Try.params12] at hA hval
  clear hA0 hval0
  obtain ⟨v0, v1, v2, d0, d1, d2, p0, p1, p2, rfl, rfl, rfl, h0, h1, h2⟩ := trodAll_three hA
  obtain ⟨rfl, rfl⟩ := trodVars_none hV
  obtain ⟨N0, x0, n0, k0, l0, rfl, g0, m0⟩ := open_net (hval 0 24 v0 rfl rfl) h0
  obtain ⟨x1, n1, k1, l1, rfl, g1, b1⟩ := open_ints_at (hval 1 25 v1 rfl rfl) h1
  obtain ⟨i2, rfl, rfl, rfl, wi2⟩ := open_int Try.underlying3 (hval 2 3 v2 rfl rfl) h2
  refine (law_ReversedPipe N0 x0 n0 k0 l0 i2 x1 n1 k1 l1 W g0 g1 m0).mono fun e W' ⟨he, hb⟩ => ?_
  subst he
  exact ⟨_, rfl, law_post rfl rfl (by kernel_rfl) hW' rfl rfl rfl hb⟩

theorem fnExactReversedPipe_proved : Rows.FnExactReversedPipeSaid :=
  OpenClaim.holds_of_wide 12 Try.f12 rfl rfl rfl rfl rfl rfl rfl ⟨rfl, rfl, rfl, rfl, rfl⟩ rfl rfl rfl rfl rfl (by kernel_rfl) Try.func12 (by kernel_rfl)
    (of_decide_eq_true (by kernel_rfl)) (by unfold Func.isWrapper; first | (rw [if_pos (by decide +kernel)]; kernel_rfl) | (rw [if_neg (by decide +kernel)]; exact ⟨rfl, rfl⟩))
    (fun os started H enc _ => fnExactReversedPipe_lifted os started H enc)

end Go.Proofs.Ytheaagbffphdmaa
