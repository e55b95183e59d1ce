/-
  The law FnExactWeakNodes returns true for every input, and leaves its arguments as they were. No condition.
-/
import Derived.Test.YthhogblnndmenaaWeak
import Derived.Test.YthhogblnndmenaaLiftN6
import Derived.Test.YthhogblnndmenaaPipeM
import Derived.Test.YthhogblnndmenaaMarks
import Derived.Test.YthhogblnndmenaaLiftN
import Derived.Test.YthhogblnndmenaaLiftN5
set_option linter.unusedVariables false
set_option linter.unusedSimpArgs false
namespace Go.Proofs.Ythhogblnndmenaa
open Go.ChangeShapes Go.WideShapes Go.ChangeAt Go.RowKit Go.Joins Go.Deep

set_option maxRecDepth 100000 in
set_option maxHeartbeats 8000000 in
theorem law_WeakNodes (N : Int) (a : Option Addr) (n c : Nat) (l : List Pip) (i1 : Int) (i2 : Int) (i3 : Int) (f1_p : Option Addr) (f1_m f1_d : Nat) (f1 : List Int) (f2_p : Option Addr) (f2_m f2_d : Nat) (f2 : List Int) (w : World) (h : QAt w a n l) (h_f1 : IntsAt w f1_p f1_m f1) (h_f2 : IntsAt w f2_p f2_m f2) (hmax : n ≤ 9223372036854775807) :
    Calls Try.prog 12 #[.agg #[.int .i64 N, .slice a n c], .int .i64 i1, .slice f1_p f1_m f1_d, .int .i64 i2, .slice f2_p f2_m f2_d, .int .i64 i3] w fun e w' => e = .returned (.bool true) ∧ Below w.heap.size w w' := by
  have H_l := hid h
  have H_f1 := hid h_f1
  have H_f2 := hid h_f2
  clear h h_f1 h_f2
  by_cases hm_f1 : 1048576 < f1_m
  · go_enter Try.func12, Try.ntmps12
    go_wp2
    go_ret
    exact ⟨rfl, by go_grown⟩
  by_cases hm_f2 : 1048576 < f2_m
  · go_enter Try.func12, Try.ntmps12
    go_wp2
    go_ret
    exact ⟨rfl, by go_grown⟩
  by_cases hn : 1048576 < n
  · go_enter Try.func12, Try.ntmps12
    go_wp2_with fail
    refine (l_szNetwork_no _ _ _ _ _ (by omega) (by omega)).mono ?_
    rintro e w1 ⟨rfl, hb⟩
    go_wp2
    go_ret
    exact ⟨rfl, bstep (by go_grown) hb⟩
  obtain ⟨R, b, hR⟩ : ∃ R b, weakR N l i1 f1 i2 f2 i3 = (R, b) := ⟨_, _, rfl⟩
  have HR := hid hR
  have hRl : R.length ≤ 1000 := weakR_len hR
  clear hR
  have hx : (b != b) = false := by simp
  have hy : ((1 + (R.length : Int)) != (1 + (R.length : Int))) = false := by simp
  go_enter Try.func12, Try.ntmps12
  go_wp2_with fail
  refine (l_szNetwork_yes _ _ _ _ _ (by omega)).mono ?_
  rintro e w1 ⟨rfl, hb⟩
  have HB_1 := hid (bstep (by go_grown) hb : Below w.heap.size w w1)
  have B_1 := HB_1
  have S_1 := HB_1.out.size
  have T_1_1 : Hid (w1.heap[w.heap.size]? = some (.cells #[.int .i64 N, .slice a n c] 24 (0, 0))) := hid (by rw [hb.block _ (by simp <;> omega)]; exact heap_alloc_new _ _)
  have Z_1 : w.heap.size < w1.heap.size := (Array.getElem?_eq_some_iff.1 T_1_1.out).1
  have m_1_1_0 : w1.cell? ⟨w.heap.size, 0, none⟩ = some (.int .i64 N) := by rw [cell_of_row w1 _ _ _ _ (0, 0) T_1_1.out]; rfl
  have m_1_1_1 : w1.cell? ⟨w.heap.size, 1, none⟩ = some (.slice a n c) := by rw [cell_of_row w1 _ _ _ _ (0, 0) T_1_1.out]; rfl
  have z_1_1 : w.heap.size < w1.heap.size := (Array.getElem?_eq_some_iff.1 T_1_1.out).1
  clear hb
  go_wp2_with fail
  refine (l_toNetwork _ _ _ _ l _ ((H_l.out.below B_1.out).below (by go_grown)) (by omega)).mono ?_
  rintro e w2 ⟨a1, c1, rfl, o1, hb⟩
  have HB_2 := hid (bstep (by go_grown) hb : Below w1.heap.size w1 w2)
  have B_2 := hid (bstep B_1.out HB_2.out)
  have S_2 := HB_2.out.size
  have T_2_1 := hid ((HB_2.out.block w.heap.size (Array.getElem?_eq_some_iff.1 T_1_1.out).1).trans T_1_1.out)
  clear m_1_1_0 m_1_1_1 z_1_1
  have m_2_1_0 : w2.cell? ⟨w.heap.size, 0, none⟩ = some (.int .i64 N) := by rw [cell_of_row w2 _ _ _ _ (0, 0) T_2_1.out]; rfl
  have m_2_1_1 : w2.cell? ⟨w.heap.size, 1, none⟩ = some (.slice a n c) := by rw [cell_of_row w2 _ _ _ _ (0, 0) T_2_1.out]; rfl
  have z_2_1 : w.heap.size < w2.heap.size := (Array.getElem?_eq_some_iff.1 T_2_1.out).1
  clear hb
  try simp only [World.size_alloc] at o1
  have O_s_l := hid o1
  clear o1
  go_wp2_with fail
  refine (l_toIntS _ _ _ f1 _ ((H_f1.out.below B_2.out).below (by go_grown)) (by omega)).mono ?_
  rintro e w3 ⟨a2, c2, rfl, o2, hb⟩
  have HB_3 := hid (bstep (by go_grown) hb : Below w2.heap.size w2 w3)
  have B_3 := hid (bstep B_2.out HB_3.out)
  have S_3 := HB_3.out.size
  have T_3_1 := hid ((HB_3.out.block w.heap.size (Array.getElem?_eq_some_iff.1 T_2_1.out).1).trans T_2_1.out)
  clear m_2_1_0 m_2_1_1 z_2_1
  have m_3_1_0 : w3.cell? ⟨w.heap.size, 0, none⟩ = some (.int .i64 N) := by rw [cell_of_row w3 _ _ _ _ (0, 0) T_3_1.out]; rfl
  have m_3_1_1 : w3.cell? ⟨w.heap.size, 1, none⟩ = some (.slice a n c) := by rw [cell_of_row w3 _ _ _ _ (0, 0) T_3_1.out]; rfl
  have z_3_1 : w.heap.size < w3.heap.size := (Array.getElem?_eq_some_iff.1 T_3_1.out).1
  clear hb
  try simp only [World.size_alloc] at o2
  have O_s_f1 := hid o2
  clear o2
  go_wp2_with fail
  refine (l_toIntS _ _ _ f2 _ ((H_f2.out.below B_3.out).below (by go_grown)) (by omega)).mono ?_
  rintro e w4 ⟨a3, c3, rfl, o3, hb⟩
  have HB_4 := hid (bstep (by go_grown) hb : Below w3.heap.size w3 w4)
  have B_4 := hid (bstep B_3.out HB_4.out)
  have S_4 := HB_4.out.size
  have T_4_1 := hid ((HB_4.out.block w.heap.size (Array.getElem?_eq_some_iff.1 T_3_1.out).1).trans T_3_1.out)
  clear m_3_1_0 m_3_1_1 z_3_1
  have m_4_1_0 : w4.cell? ⟨w.heap.size, 0, none⟩ = some (.int .i64 N) := by rw [cell_of_row w4 _ _ _ _ (0, 0) T_4_1.out]; rfl
  have m_4_1_1 : w4.cell? ⟨w.heap.size, 1, none⟩ = some (.slice a n c) := by rw [cell_of_row w4 _ _ _ _ (0, 0) T_4_1.out]; rfl
  have z_4_1 : w.heap.size < w4.heap.size := (Array.getElem?_eq_some_iff.1 T_4_1.out).1
  clear hb
  try simp only [World.size_alloc] at o3
  have O_s_f2 := hid o3
  clear o3
  have O_s_l_4 := hid ((O_s_l.out.below HB_3.out).below HB_4.out)
  have O_s_f1_4 := hid (O_s_f1.out.below HB_4.out)
  go_wp2_with fail
  refine (s_WeakNodes N i1 i2 i3 _ _ _ _ _ _ _ _ _ l f1 f2 _ ((OwnS.at qf_len O_s_l_4.out).below (by go_grown)) (O_s_f1_4.out.at.below (by go_grown)) (O_s_f2.out.at.below (by go_grown)) (by omega) (by omega) (by omega) (own_capQ O_s_l_4.out) R b HR.out).mono ?_
  rintro e w5 ⟨a4, c4, rfl, o4, hb⟩
  have HB_5 := hid (bstep (by go_grown) hb : Below w4.heap.size w4 w5)
  have B_5 := hid (bstep B_4.out HB_5.out)
  have S_5 := HB_5.out.size
  have T_5_1 := hid ((HB_5.out.block w.heap.size (Array.getElem?_eq_some_iff.1 T_4_1.out).1).trans T_4_1.out)
  clear m_4_1_0 m_4_1_1 z_4_1
  have m_5_1_0 : w5.cell? ⟨w.heap.size, 0, none⟩ = some (.int .i64 N) := by rw [cell_of_row w5 _ _ _ _ (0, 0) T_5_1.out]; rfl
  have m_5_1_1 : w5.cell? ⟨w.heap.size, 1, none⟩ = some (.slice a n c) := by rw [cell_of_row w5 _ _ _ _ (0, 0) T_5_1.out]; rfl
  have z_5_1 : w.heap.size < w5.heap.size := (Array.getElem?_eq_some_iff.1 T_5_1.out).1
  clear hb
  try simp only [World.size_alloc] at o4
  have O_w0 := hid o4
  clear o4
  go_wp2_with fail
  refine (l_toNetwork _ _ _ _ l _ ((H_l.out.below B_5.out).below (by go_grown)) (by omega)).mono ?_
  rintro e w6 ⟨a5, c5, rfl, o5, hb⟩
  have HB_6 := hid (bstep (by go_grown) hb : Below w5.heap.size w5 w6)
  have B_6 := hid (bstep B_5.out HB_6.out)
  have S_6 := HB_6.out.size
  have T_6_1 := hid ((HB_6.out.block w.heap.size (Array.getElem?_eq_some_iff.1 T_5_1.out).1).trans T_5_1.out)
  clear m_5_1_0 m_5_1_1 z_5_1
  have m_6_1_0 : w6.cell? ⟨w.heap.size, 0, none⟩ = some (.int .i64 N) := by rw [cell_of_row w6 _ _ _ _ (0, 0) T_6_1.out]; rfl
  have m_6_1_1 : w6.cell? ⟨w.heap.size, 1, none⟩ = some (.slice a n c) := by rw [cell_of_row w6 _ _ _ _ (0, 0) T_6_1.out]; rfl
  have z_6_1 : w.heap.size < w6.heap.size := (Array.getElem?_eq_some_iff.1 T_6_1.out).1
  clear hb
  try simp only [World.size_alloc] at o5
  have O_x_l := hid o5
  clear o5
  go_wp2_with fail
  refine (l_toIntS _ _ _ f1 _ ((H_f1.out.below B_6.out).below (by go_grown)) (by omega)).mono ?_
  rintro e w7 ⟨a6, c6, rfl, o6, hb⟩
  have HB_7 := hid (bstep (by go_grown) hb : Below w6.heap.size w6 w7)
  have B_7 := hid (bstep B_6.out HB_7.out)
  have S_7 := HB_7.out.size
  have T_7_1 := hid ((HB_7.out.block w.heap.size (Array.getElem?_eq_some_iff.1 T_6_1.out).1).trans T_6_1.out)
  have T_7_2 : Hid (w7.heap[w6.heap.size]? = some (.cells #[.int .i64 N, .slice a5 n c5] 31 (0, 0))) := hid (by rw [hb.block _ (by simp <;> omega)]; exact heap_alloc_new _ _)
  have Z_2 : w6.heap.size < w7.heap.size := (Array.getElem?_eq_some_iff.1 T_7_2.out).1
  clear m_6_1_0 m_6_1_1 z_6_1
  have m_7_1_0 : w7.cell? ⟨w.heap.size, 0, none⟩ = some (.int .i64 N) := by rw [cell_of_row w7 _ _ _ _ (0, 0) T_7_1.out]; rfl
  have m_7_1_1 : w7.cell? ⟨w.heap.size, 1, none⟩ = some (.slice a n c) := by rw [cell_of_row w7 _ _ _ _ (0, 0) T_7_1.out]; rfl
  have z_7_1 : w.heap.size < w7.heap.size := (Array.getElem?_eq_some_iff.1 T_7_1.out).1
  have m_7_2_0 : w7.cell? ⟨w6.heap.size, 0, none⟩ = some (.int .i64 N) := by rw [cell_of_row w7 _ _ _ _ (0, 0) T_7_2.out]; rfl
  have m_7_2_1 : w7.cell? ⟨w6.heap.size, 1, none⟩ = some (.slice a5 n c5) := by rw [cell_of_row w7 _ _ _ _ (0, 0) T_7_2.out]; rfl
  have z_7_2 : w6.heap.size < w7.heap.size := (Array.getElem?_eq_some_iff.1 T_7_2.out).1
  clear hb
  try simp only [World.size_alloc] at o6
  have O_x_f1 := hid o6
  clear o6
  go_wp2_with fail
  refine (l_toIntS _ _ _ f2 _ ((H_f2.out.below B_7.out).below (by go_grown)) (by omega)).mono ?_
  rintro e w8 ⟨a7, c7, rfl, o7, hb⟩
  have HB_8 := hid (bstep (by go_grown) hb : Below w7.heap.size w7 w8)
  have B_8 := hid (bstep B_7.out HB_8.out)
  have S_8 := HB_8.out.size
  have T_8_1 := hid ((HB_8.out.block w.heap.size (Array.getElem?_eq_some_iff.1 T_7_1.out).1).trans T_7_1.out)
  have T_8_2 := hid ((HB_8.out.block w6.heap.size (Array.getElem?_eq_some_iff.1 T_7_2.out).1).trans T_7_2.out)
  clear m_7_1_0 m_7_1_1 z_7_1 m_7_2_0 m_7_2_1 z_7_2
  have m_8_1_0 : w8.cell? ⟨w.heap.size, 0, none⟩ = some (.int .i64 N) := by rw [cell_of_row w8 _ _ _ _ (0, 0) T_8_1.out]; rfl
  have m_8_1_1 : w8.cell? ⟨w.heap.size, 1, none⟩ = some (.slice a n c) := by rw [cell_of_row w8 _ _ _ _ (0, 0) T_8_1.out]; rfl
  have z_8_1 : w.heap.size < w8.heap.size := (Array.getElem?_eq_some_iff.1 T_8_1.out).1
  have m_8_2_0 : w8.cell? ⟨w6.heap.size, 0, none⟩ = some (.int .i64 N) := by rw [cell_of_row w8 _ _ _ _ (0, 0) T_8_2.out]; rfl
  have m_8_2_1 : w8.cell? ⟨w6.heap.size, 1, none⟩ = some (.slice a5 n c5) := by rw [cell_of_row w8 _ _ _ _ (0, 0) T_8_2.out]; rfl
  have z_8_2 : w6.heap.size < w8.heap.size := (Array.getElem?_eq_some_iff.1 T_8_2.out).1
  clear hb
  try simp only [World.size_alloc] at o7
  have O_x_f2 := hid o7
  clear o7
  have O_x_l_8 := hid ((O_x_l.out.below HB_7.out).below HB_8.out)
  have O_x_f1_8 := hid (O_x_f1.out.below HB_8.out)
  go_wp2_with fail
  refine (i_WeakNodes N i1 i2 i3 _ _ _ _ _ _ _ _ _ l f1 f2 _ ((OwnS.at qf_len O_x_l_8.out).below (by go_grown)) (O_x_f1_8.out.at.below (by go_grown)) (O_x_f2.out.at.below (by go_grown)) (by omega) (by omega) (by omega) R b HR.out).mono ?_
  rintro e w9 ⟨a8, c8, rfl, o8, hb⟩
  have HB_9 := hid (bstep (by go_grown) hb : Below w8.heap.size w8 w9)
  have B_9 := hid (bstep B_8.out HB_9.out)
  have S_9 := HB_9.out.size
  have T_9_1 := hid ((HB_9.out.block w.heap.size (Array.getElem?_eq_some_iff.1 T_8_1.out).1).trans T_8_1.out)
  have T_9_2 := hid ((HB_9.out.block w6.heap.size (Array.getElem?_eq_some_iff.1 T_8_2.out).1).trans T_8_2.out)
  clear m_8_1_0 m_8_1_1 z_8_1 m_8_2_0 m_8_2_1 z_8_2
  have m_9_1_0 : w9.cell? ⟨w.heap.size, 0, none⟩ = some (.int .i64 N) := by rw [cell_of_row w9 _ _ _ _ (0, 0) T_9_1.out]; rfl
  have m_9_1_1 : w9.cell? ⟨w.heap.size, 1, none⟩ = some (.slice a n c) := by rw [cell_of_row w9 _ _ _ _ (0, 0) T_9_1.out]; rfl
  have z_9_1 : w.heap.size < w9.heap.size := (Array.getElem?_eq_some_iff.1 T_9_1.out).1
  have m_9_2_0 : w9.cell? ⟨w6.heap.size, 0, none⟩ = some (.int .i64 N) := by rw [cell_of_row w9 _ _ _ _ (0, 0) T_9_2.out]; rfl
  have m_9_2_1 : w9.cell? ⟨w6.heap.size, 1, none⟩ = some (.slice a5 n c5) := by rw [cell_of_row w9 _ _ _ _ (0, 0) T_9_2.out]; rfl
  have z_9_2 : w6.heap.size < w9.heap.size := (Array.getElem?_eq_some_iff.1 T_9_2.out).1
  clear hb
  try simp only [World.size_alloc] at o8
  have O_g0 := hid o8
  clear o8
  have O_w0_9 := hid ((((O_w0.out.below HB_6.out).below HB_7.out).below HB_8.out).below HB_9.out)
  go_wp2_with fail
  refine (l_eqIntS _ _ _ _ _ _ R R _ (O_g0.out.at.below (by go_grown)) (O_w0_9.out.at.below (by go_grown)) (by omega) (by omega)).mono ?_
  rintro e w10 ⟨rfl, hb⟩
  have HB_10 := hid (bstep (by go_grown) hb : Below w9.heap.size w9 w10)
  have B_10 := hid (bstep B_9.out HB_10.out)
  have S_10 := HB_10.out.size
  have T_10_1 := hid ((HB_10.out.block w.heap.size (Array.getElem?_eq_some_iff.1 T_9_1.out).1).trans T_9_1.out)
  have T_10_2 := hid ((HB_10.out.block w6.heap.size (Array.getElem?_eq_some_iff.1 T_9_2.out).1).trans T_9_2.out)
  clear m_9_1_0 m_9_1_1 z_9_1 m_9_2_0 m_9_2_1 z_9_2
  have m_10_1_0 : w10.cell? ⟨w.heap.size, 0, none⟩ = some (.int .i64 N) := by rw [cell_of_row w10 _ _ _ _ (0, 0) T_10_1.out]; rfl
  have m_10_1_1 : w10.cell? ⟨w.heap.size, 1, none⟩ = some (.slice a n c) := by rw [cell_of_row w10 _ _ _ _ (0, 0) T_10_1.out]; rfl
  have z_10_1 : w.heap.size < w10.heap.size := (Array.getElem?_eq_some_iff.1 T_10_1.out).1
  have m_10_2_0 : w10.cell? ⟨w6.heap.size, 0, none⟩ = some (.int .i64 N) := by rw [cell_of_row w10 _ _ _ _ (0, 0) T_10_2.out]; rfl
  have m_10_2_1 : w10.cell? ⟨w6.heap.size, 1, none⟩ = some (.slice a5 n c5) := by rw [cell_of_row w10 _ _ _ _ (0, 0) T_10_2.out]; rfl
  have z_10_2 : w6.heap.size < w10.heap.size := (Array.getElem?_eq_some_iff.1 T_10_2.out).1
  clear hb
  have HA := hid (H_l.out.below B_10.out : QAt w10 _ _ _)
  have O_x_l_10 := hid ((O_x_l_8.out.below HB_9.out).below HB_10.out)
  have HX := hid (OwnS.at qf_len O_x_l_10.out)
  go_upto_region 16 with fail
  have q0 : ∀ wy wz : World, Below wy.heap.size wy wz → (wy.cell? ⟨w.heap.size, 0, none⟩ = some (.int .i64 N) ∧ wy.cell? ⟨w.heap.size, 1, none⟩ = some (.slice a n c) ∧ wy.cell? ⟨w6.heap.size, 0, none⟩ = some (.int .i64 N) ∧ wy.cell? ⟨w6.heap.size, 1, none⟩ = some (.slice a5 n c5)) → (wz.cell? ⟨w.heap.size, 0, none⟩ = some (.int .i64 N) ∧ wz.cell? ⟨w.heap.size, 1, none⟩ = some (.slice a n c) ∧ wz.cell? ⟨w6.heap.size, 0, none⟩ = some (.int .i64 N) ∧ wz.cell? ⟨w6.heap.size, 1, none⟩ = some (.slice a5 n c5)) :=
    fun wy wz hb ⟨z0, z1, z2, z3⟩ => ⟨(hb.cell (World.block_lt_of_cell? wy _ z0)).trans z0, (hb.cell (World.block_lt_of_cell? wy _ z1)).trans z1, (hb.cell (World.block_lt_of_cell? wy _ z2)).trans z2, (hb.cell (World.block_lt_of_cell? wy _ z3)).trans z3⟩
  have Q0 := hid q0
  clear q0
  go_cut [79] (fun s wx => s = .bool false ∧ Hid (Below w10.heap.size w10 wx))
  case first =>
    go_region_held3 (fun w' => (w'.cell? ⟨w.heap.size, 0, none⟩ = some (.int .i64 N) ∧ w'.cell? ⟨w.heap.size, 1, none⟩ = some (.slice a n c) ∧ w'.cell? ⟨w6.heap.size, 0, none⟩ = some (.int .i64 N) ∧ w'.cell? ⟨w6.heap.size, 1, none⟩ = some (.slice a5 n c5))) (first | go_keep | exact Q0.out _ _ (by assumption) (by first | assumption | (refine ⟨?_, ?_, ?_, ?_⟩ <;> assumption) | simp [*]))
      (first | (go_at_call 16; refine (l_toNetwork _ _ _ _ _ _ (HA.out.below (by go_grown)) (by omega)).mono ?_; rintro e wA ⟨aA, cA, rfl, oA, hbA⟩; obtain ⟨hcA, hfA⟩ := bcell hbA) | (go_at_call 20; refine (l_eqNetwork _ _ _ _ _ _ _ _ (HX.out.below (bstep (by go_grown) hbA)) (OwnS.at qf_len oA) (by omega)).mono ?_; rintro e wB ⟨rfl, hbB⟩; obtain ⟨hcB, hfB⟩ := bcell hbB))
    all_goals (go_wp2_with fail; go_meet)
    all_goals refine ⟨rfl, ?_⟩
    all_goals exact bstep (bstep ((Below.refl _ _).drew : Below w10.heap.size w10 _) hbA) hbB
  case rest =>
    obtain ⟨rfl, hx⟩ := hcut
    have HB_11 := hx
    have B_11 := hid (bstep B_10.out HB_11.out)
    have S_11 := HB_11.out.size
    have T_11_1 := hid ((HB_11.out.block w.heap.size (Array.getElem?_eq_some_iff.1 T_10_1.out).1).trans T_10_1.out)
    have T_11_2 := hid ((HB_11.out.block w6.heap.size (Array.getElem?_eq_some_iff.1 T_10_2.out).1).trans T_10_2.out)
    clear m_10_1_0 m_10_1_1 z_10_1 m_10_2_0 m_10_2_1 z_10_2
    have m_11_1_0 : wc.cell? ⟨w.heap.size, 0, none⟩ = some (.int .i64 N) := by rw [cell_of_row wc _ _ _ _ (0, 0) T_11_1.out]; rfl
    have m_11_1_1 : wc.cell? ⟨w.heap.size, 1, none⟩ = some (.slice a n c) := by rw [cell_of_row wc _ _ _ _ (0, 0) T_11_1.out]; rfl
    have z_11_1 : w.heap.size < wc.heap.size := (Array.getElem?_eq_some_iff.1 T_11_1.out).1
    have m_11_2_0 : wc.cell? ⟨w6.heap.size, 0, none⟩ = some (.int .i64 N) := by rw [cell_of_row wc _ _ _ _ (0, 0) T_11_2.out]; rfl
    have m_11_2_1 : wc.cell? ⟨w6.heap.size, 1, none⟩ = some (.slice a5 n c5) := by rw [cell_of_row wc _ _ _ _ (0, 0) T_11_2.out]; rfl
    have z_11_2 : w6.heap.size < wc.heap.size := (Array.getElem?_eq_some_iff.1 T_11_2.out).1
    go_wp2_with fail
    refine (l_toIntS _ _ _ f1 _ ((H_f1.out.below B_11.out).below (by go_grown)) (by omega)).mono ?_
    rintro e w12 ⟨a9, c9, rfl, o9, hb⟩
    have HB_12 := hid (bstep (by go_grown) hb : Below wc.heap.size wc w12)
    have B_12 := hid (bstep B_11.out HB_12.out)
    have S_12 := HB_12.out.size
    have T_12_1 := hid ((HB_12.out.block w.heap.size (Array.getElem?_eq_some_iff.1 T_11_1.out).1).trans T_11_1.out)
    have T_12_2 := hid ((HB_12.out.block w6.heap.size (Array.getElem?_eq_some_iff.1 T_11_2.out).1).trans T_11_2.out)
    clear m_11_1_0 m_11_1_1 z_11_1 m_11_2_0 m_11_2_1 z_11_2
    have m_12_1_0 : w12.cell? ⟨w.heap.size, 0, none⟩ = some (.int .i64 N) := by rw [cell_of_row w12 _ _ _ _ (0, 0) T_12_1.out]; rfl
    have m_12_1_1 : w12.cell? ⟨w.heap.size, 1, none⟩ = some (.slice a n c) := by rw [cell_of_row w12 _ _ _ _ (0, 0) T_12_1.out]; rfl
    have z_12_1 : w.heap.size < w12.heap.size := (Array.getElem?_eq_some_iff.1 T_12_1.out).1
    have m_12_2_0 : w12.cell? ⟨w6.heap.size, 0, none⟩ = some (.int .i64 N) := by rw [cell_of_row w12 _ _ _ _ (0, 0) T_12_2.out]; rfl
    have m_12_2_1 : w12.cell? ⟨w6.heap.size, 1, none⟩ = some (.slice a5 n c5) := by rw [cell_of_row w12 _ _ _ _ (0, 0) T_12_2.out]; rfl
    have z_12_2 : w6.heap.size < w12.heap.size := (Array.getElem?_eq_some_iff.1 T_12_2.out).1
    clear hb
    try simp only [World.size_alloc] at o9
    have O_y_f1 := hid o9
    clear o9
    have O_x_f1_12 := hid ((((O_x_f1_8.out.below HB_9.out).below HB_10.out).below HB_11.out).below HB_12.out)
    go_wp2_with fail
    refine (l_eqIntS _ _ _ _ _ _ f1 f1 _ (O_x_f1_12.out.at.below (by go_grown)) (O_y_f1.out.at.below (by go_grown)) (by omega) (by omega)).mono ?_
    rintro e w13 ⟨rfl, hb⟩
    have HB_13 := hid (bstep (by go_grown) hb : Below w12.heap.size w12 w13)
    have B_13 := hid (bstep B_12.out HB_13.out)
    have S_13 := HB_13.out.size
    have T_13_1 := hid ((HB_13.out.block w.heap.size (Array.getElem?_eq_some_iff.1 T_12_1.out).1).trans T_12_1.out)
    have T_13_2 := hid ((HB_13.out.block w6.heap.size (Array.getElem?_eq_some_iff.1 T_12_2.out).1).trans T_12_2.out)
    clear m_12_1_0 m_12_1_1 z_12_1 m_12_2_0 m_12_2_1 z_12_2
    have m_13_1_0 : w13.cell? ⟨w.heap.size, 0, none⟩ = some (.int .i64 N) := by rw [cell_of_row w13 _ _ _ _ (0, 0) T_13_1.out]; rfl
    have m_13_1_1 : w13.cell? ⟨w.heap.size, 1, none⟩ = some (.slice a n c) := by rw [cell_of_row w13 _ _ _ _ (0, 0) T_13_1.out]; rfl
    have z_13_1 : w.heap.size < w13.heap.size := (Array.getElem?_eq_some_iff.1 T_13_1.out).1
    have m_13_2_0 : w13.cell? ⟨w6.heap.size, 0, none⟩ = some (.int .i64 N) := by rw [cell_of_row w13 _ _ _ _ (0, 0) T_13_2.out]; rfl
    have m_13_2_1 : w13.cell? ⟨w6.heap.size, 1, none⟩ = some (.slice a5 n c5) := by rw [cell_of_row w13 _ _ _ _ (0, 0) T_13_2.out]; rfl
    have z_13_2 : w6.heap.size < w13.heap.size := (Array.getElem?_eq_some_iff.1 T_13_2.out).1
    clear hb
    go_wp2_with fail
    refine (l_toIntS _ _ _ f2 _ ((H_f2.out.below B_13.out).below (by go_grown)) (by omega)).mono ?_
    rintro e w14 ⟨a10, c10, rfl, o10, hb⟩
    have HB_14 := hid (bstep (by go_grown) hb : Below w13.heap.size w13 w14)
    have B_14 := hid (bstep B_13.out HB_14.out)
    have S_14 := HB_14.out.size
    have T_14_1 := hid ((HB_14.out.block w.heap.size (Array.getElem?_eq_some_iff.1 T_13_1.out).1).trans T_13_1.out)
    have T_14_2 := hid ((HB_14.out.block w6.heap.size (Array.getElem?_eq_some_iff.1 T_13_2.out).1).trans T_13_2.out)
    clear m_13_1_0 m_13_1_1 z_13_1 m_13_2_0 m_13_2_1 z_13_2
    have m_14_1_0 : w14.cell? ⟨w.heap.size, 0, none⟩ = some (.int .i64 N) := by rw [cell_of_row w14 _ _ _ _ (0, 0) T_14_1.out]; rfl
    have m_14_1_1 : w14.cell? ⟨w.heap.size, 1, none⟩ = some (.slice a n c) := by rw [cell_of_row w14 _ _ _ _ (0, 0) T_14_1.out]; rfl
    have z_14_1 : w.heap.size < w14.heap.size := (Array.getElem?_eq_some_iff.1 T_14_1.out).1
    have m_14_2_0 : w14.cell? ⟨w6.heap.size, 0, none⟩ = some (.int .i64 N) := by rw [cell_of_row w14 _ _ _ _ (0, 0) T_14_2.out]; rfl
    have m_14_2_1 : w14.cell? ⟨w6.heap.size, 1, none⟩ = some (.slice a5 n c5) := by rw [cell_of_row w14 _ _ _ _ (0, 0) T_14_2.out]; rfl
    have z_14_2 : w6.heap.size < w14.heap.size := (Array.getElem?_eq_some_iff.1 T_14_2.out).1
    clear hb
    try simp only [World.size_alloc] at o10
    have O_y_f2 := hid o10
    clear o10
    have O_x_f2_14 := hid ((((((O_x_f2.out.below HB_9.out).below HB_10.out).below HB_11.out).below HB_12.out).below HB_13.out).below HB_14.out)
    go_wp2_with fail
    refine (l_eqIntS _ _ _ _ _ _ f2 f2 _ (O_x_f2_14.out.at.below (by go_grown)) (O_y_f2.out.at.below (by go_grown)) (by omega) (by omega)).mono ?_
    rintro e w15 ⟨rfl, hb⟩
    have HB_15 := hid (bstep (by go_grown) hb : Below w14.heap.size w14 w15)
    have B_15 := hid (bstep B_14.out HB_15.out)
    have S_15 := HB_15.out.size
    have T_15_1 := hid ((HB_15.out.block w.heap.size (Array.getElem?_eq_some_iff.1 T_14_1.out).1).trans T_14_1.out)
    have T_15_2 := hid ((HB_15.out.block w6.heap.size (Array.getElem?_eq_some_iff.1 T_14_2.out).1).trans T_14_2.out)
    clear m_14_1_0 m_14_1_1 z_14_1 m_14_2_0 m_14_2_1 z_14_2
    have m_15_1_0 : w15.cell? ⟨w.heap.size, 0, none⟩ = some (.int .i64 N) := by rw [cell_of_row w15 _ _ _ _ (0, 0) T_15_1.out]; rfl
    have m_15_1_1 : w15.cell? ⟨w.heap.size, 1, none⟩ = some (.slice a n c) := by rw [cell_of_row w15 _ _ _ _ (0, 0) T_15_1.out]; rfl
    have z_15_1 : w.heap.size < w15.heap.size := (Array.getElem?_eq_some_iff.1 T_15_1.out).1
    have m_15_2_0 : w15.cell? ⟨w6.heap.size, 0, none⟩ = some (.int .i64 N) := by rw [cell_of_row w15 _ _ _ _ (0, 0) T_15_2.out]; rfl
    have m_15_2_1 : w15.cell? ⟨w6.heap.size, 1, none⟩ = some (.slice a5 n c5) := by rw [cell_of_row w15 _ _ _ _ (0, 0) T_15_2.out]; rfl
    have z_15_2 : w6.heap.size < w15.heap.size := (Array.getElem?_eq_some_iff.1 T_15_2.out).1
    clear hb
    have O_x_l_15 := hid (((((O_x_l_10.out.below HB_11.out).below HB_12.out).below HB_13.out).below HB_14.out).below HB_15.out)
    have O_x_f1_15 := hid (((O_x_f1_12.out.below HB_13.out).below HB_14.out).below HB_15.out)
    have O_x_f2_15 := hid (O_x_f2_14.out.below HB_15.out)
    have O_g0_15 := hid ((((((O_g0.out.below HB_10.out).below HB_11.out).below HB_12.out).below HB_13.out).below HB_14.out).below HB_15.out)
    have O_w0_15 := hid ((((((O_w0_9.out.below HB_10.out).below HB_11.out).below HB_12.out).below HB_13.out).below HB_14.out).below HB_15.out)
    go_wp2_with fail
    refine (l_markNetwork _ _ _ _ _ l _ _ O_x_l_15.out (by omega) (by omega)).mono ?_
    rintro e w16 ⟨rfl, ho, hg⟩
    have S_16 := hg.size
    have L_16 := hid (O_x_l.out).lt
    have B_16 := hid (B_15.out.grown hg B_15.out.size (fun q hq => by have := (L_16.out q hq).1; omega))
    have O_x_f1_16 := hid (O_x_f1_15.out.kept hg (ne_of_younger O_x_f1.out.lt O_x_l.out.lt (by omega)))
    have O_x_f2_16 := hid (O_x_f2_15.out.kept hg (ne_of_younger O_x_f2.out.lt O_x_l.out.lt (by omega)))
    have O_g0_16 := hid (O_g0_15.out.kept hg (ne_of_younger O_g0.out.lt O_x_l.out.lt (by omega)))
    have O_w0_16 := hid (O_w0_15.out.kept hg (ne_of_older O_w0.out.lt O_x_l.out.lt (by omega)))
    have T_16_1 := hid ((hg.block w.heap.size (Array.getElem?_eq_some_iff.1 T_15_1.out).1 (fun e => by have := L_16.out _ e.symm; omega)).trans T_15_1.out)
    have T_16_2 := hid ((hg.block w6.heap.size (Array.getElem?_eq_some_iff.1 T_15_2.out).1 (fun e => by have := L_16.out _ e.symm; omega)).trans T_15_2.out)
    have O_x_l_16 := hid ho
    clear m_15_1_0 m_15_1_1 z_15_1 m_15_2_0 m_15_2_1 z_15_2
    have m_16_1_0 : w16.cell? ⟨w.heap.size, 0, none⟩ = some (.int .i64 N) := by rw [cell_of_row w16 _ _ _ _ (0, 0) T_16_1.out]; rfl
    have m_16_1_1 : w16.cell? ⟨w.heap.size, 1, none⟩ = some (.slice a n c) := by rw [cell_of_row w16 _ _ _ _ (0, 0) T_16_1.out]; rfl
    have z_16_1 : w.heap.size < w16.heap.size := (Array.getElem?_eq_some_iff.1 T_16_1.out).1
    have m_16_2_0 : w16.cell? ⟨w6.heap.size, 0, none⟩ = some (.int .i64 N) := by rw [cell_of_row w16 _ _ _ _ (0, 0) T_16_2.out]; rfl
    have m_16_2_1 : w16.cell? ⟨w6.heap.size, 1, none⟩ = some (.slice a5 n c5) := by rw [cell_of_row w16 _ _ _ _ (0, 0) T_16_2.out]; rfl
    have z_16_2 : w6.heap.size < w16.heap.size := (Array.getElem?_eq_some_iff.1 T_16_2.out).1
    clear ho hg
    go_wp2_with fail
    refine (l_markIntS _ _ _ _ f1 _ _ O_x_f1_16.out (by omega) (by omega)).mono ?_
    rintro e w17 ⟨rfl, ho, hg⟩
    have S_17 := hg.size
    have L_17 := hid (O_x_f1.out).lt
    have B_17 := hid (B_16.out.grown hg B_16.out.size (fun q hq => by have := (L_17.out q hq).1; omega))
    have O_x_f2_17 := hid (O_x_f2_16.out.kept hg (ne_of_younger O_x_f2.out.lt O_x_f1.out.lt (by omega)))
    have O_g0_17 := hid (O_g0_16.out.kept hg (ne_of_younger O_g0.out.lt O_x_f1.out.lt (by omega)))
    have O_w0_17 := hid (O_w0_16.out.kept hg (ne_of_older O_w0.out.lt O_x_f1.out.lt (by omega)))
    have T_17_1 := hid ((hg.block w.heap.size (Array.getElem?_eq_some_iff.1 T_16_1.out).1 (fun e => by have := L_17.out _ e.symm; omega)).trans T_16_1.out)
    have T_17_2 := hid ((hg.block w6.heap.size (Array.getElem?_eq_some_iff.1 T_16_2.out).1 (fun e => by have := L_17.out _ e.symm; omega)).trans T_16_2.out)
    have O_x_f1_17 := hid ho
    clear m_16_1_0 m_16_1_1 z_16_1 m_16_2_0 m_16_2_1 z_16_2
    have m_17_1_0 : w17.cell? ⟨w.heap.size, 0, none⟩ = some (.int .i64 N) := by rw [cell_of_row w17 _ _ _ _ (0, 0) T_17_1.out]; rfl
    have m_17_1_1 : w17.cell? ⟨w.heap.size, 1, none⟩ = some (.slice a n c) := by rw [cell_of_row w17 _ _ _ _ (0, 0) T_17_1.out]; rfl
    have z_17_1 : w.heap.size < w17.heap.size := (Array.getElem?_eq_some_iff.1 T_17_1.out).1
    have m_17_2_0 : w17.cell? ⟨w6.heap.size, 0, none⟩ = some (.int .i64 N) := by rw [cell_of_row w17 _ _ _ _ (0, 0) T_17_2.out]; rfl
    have m_17_2_1 : w17.cell? ⟨w6.heap.size, 1, none⟩ = some (.slice a5 n c5) := by rw [cell_of_row w17 _ _ _ _ (0, 0) T_17_2.out]; rfl
    have z_17_2 : w6.heap.size < w17.heap.size := (Array.getElem?_eq_some_iff.1 T_17_2.out).1
    clear ho hg
    go_wp2_with fail
    refine (l_markIntS _ _ _ _ f2 _ _ O_x_f2_17.out (by omega) (by omega)).mono ?_
    rintro e w18 ⟨rfl, ho, hg⟩
    have S_18 := hg.size
    have L_18 := hid (O_x_f2.out).lt
    have B_18 := hid (B_17.out.grown hg B_17.out.size (fun q hq => by have := (L_18.out q hq).1; omega))
    have O_g0_18 := hid (O_g0_17.out.kept hg (ne_of_younger O_g0.out.lt O_x_f2.out.lt (by omega)))
    have O_w0_18 := hid (O_w0_17.out.kept hg (ne_of_older O_w0.out.lt O_x_f2.out.lt (by omega)))
    have T_18_1 := hid ((hg.block w.heap.size (Array.getElem?_eq_some_iff.1 T_17_1.out).1 (fun e => by have := L_18.out _ e.symm; omega)).trans T_17_1.out)
    have T_18_2 := hid ((hg.block w6.heap.size (Array.getElem?_eq_some_iff.1 T_17_2.out).1 (fun e => by have := L_18.out _ e.symm; omega)).trans T_17_2.out)
    have O_x_f2_18 := hid ho
    clear m_17_1_0 m_17_1_1 z_17_1 m_17_2_0 m_17_2_1 z_17_2
    have m_18_1_0 : w18.cell? ⟨w.heap.size, 0, none⟩ = some (.int .i64 N) := by rw [cell_of_row w18 _ _ _ _ (0, 0) T_18_1.out]; rfl
    have m_18_1_1 : w18.cell? ⟨w.heap.size, 1, none⟩ = some (.slice a n c) := by rw [cell_of_row w18 _ _ _ _ (0, 0) T_18_1.out]; rfl
    have z_18_1 : w.heap.size < w18.heap.size := (Array.getElem?_eq_some_iff.1 T_18_1.out).1
    have m_18_2_0 : w18.cell? ⟨w6.heap.size, 0, none⟩ = some (.int .i64 N) := by rw [cell_of_row w18 _ _ _ _ (0, 0) T_18_2.out]; rfl
    have m_18_2_1 : w18.cell? ⟨w6.heap.size, 1, none⟩ = some (.slice a5 n c5) := by rw [cell_of_row w18 _ _ _ _ (0, 0) T_18_2.out]; rfl
    have z_18_2 : w6.heap.size < w18.heap.size := (Array.getElem?_eq_some_iff.1 T_18_2.out).1
    clear ho hg
    go_wp2_with fail
    refine (l_eqIntS _ _ _ _ _ _ R R _ (O_g0_18.out.at.below (by go_grown)) (O_w0_18.out.at.below (by go_grown)) (by omega) (by omega)).mono ?_
    rintro e w19 ⟨rfl, hb⟩
    have HB_19 := hid (bstep (by go_grown) hb : Below w18.heap.size w18 w19)
    have B_19 := hid (bstep B_18.out HB_19.out)
    have S_19 := HB_19.out.size
    have T_19_1 := hid ((HB_19.out.block w.heap.size (Array.getElem?_eq_some_iff.1 T_18_1.out).1).trans T_18_1.out)
    have T_19_2 := hid ((HB_19.out.block w6.heap.size (Array.getElem?_eq_some_iff.1 T_18_2.out).1).trans T_18_2.out)
    clear m_18_1_0 m_18_1_1 z_18_1 m_18_2_0 m_18_2_1 z_18_2
    have m_19_1_0 : w19.cell? ⟨w.heap.size, 0, none⟩ = some (.int .i64 N) := by rw [cell_of_row w19 _ _ _ _ (0, 0) T_19_1.out]; rfl
    have m_19_1_1 : w19.cell? ⟨w.heap.size, 1, none⟩ = some (.slice a n c) := by rw [cell_of_row w19 _ _ _ _ (0, 0) T_19_1.out]; rfl
    have z_19_1 : w.heap.size < w19.heap.size := (Array.getElem?_eq_some_iff.1 T_19_1.out).1
    have m_19_2_0 : w19.cell? ⟨w6.heap.size, 0, none⟩ = some (.int .i64 N) := by rw [cell_of_row w19 _ _ _ _ (0, 0) T_19_2.out]; rfl
    have m_19_2_1 : w19.cell? ⟨w6.heap.size, 1, none⟩ = some (.slice a5 n c5) := by rw [cell_of_row w19 _ _ _ _ (0, 0) T_19_2.out]; rfl
    have z_19_2 : w6.heap.size < w19.heap.size := (Array.getElem?_eq_some_iff.1 T_19_2.out).1
    clear hb
    have O_g0_19 := hid (O_g0_18.out.below HB_19.out)
    have O_w0_19 := hid (O_w0_18.out.below HB_19.out)
    go_wp2_with fail
    refine (l_markIntS _ _ _ _ R _ _ O_g0_19.out (by omega) (by omega)).mono ?_
    rintro e w20 ⟨rfl, ho, hg⟩
    have S_20 := hg.size
    have L_20 := hid (O_g0.out).lt
    have B_20 := hid (B_19.out.grown hg B_19.out.size (fun q hq => by have := (L_20.out q hq).1; omega))
    have O_w0_20 := hid (O_w0_19.out.kept hg (ne_of_older O_w0.out.lt O_g0.out.lt (by omega)))
    have T_20_1 := hid ((hg.block w.heap.size (Array.getElem?_eq_some_iff.1 T_19_1.out).1 (fun e => by have := L_20.out _ e.symm; omega)).trans T_19_1.out)
    have T_20_2 := hid ((hg.block w6.heap.size (Array.getElem?_eq_some_iff.1 T_19_2.out).1 (fun e => by have := L_20.out _ e.symm; omega)).trans T_19_2.out)
    have O_g0_20 := hid ho
    clear m_19_1_0 m_19_1_1 z_19_1 m_19_2_0 m_19_2_1 z_19_2
    have m_20_1_0 : w20.cell? ⟨w.heap.size, 0, none⟩ = some (.int .i64 N) := by rw [cell_of_row w20 _ _ _ _ (0, 0) T_20_1.out]; rfl
    have m_20_1_1 : w20.cell? ⟨w.heap.size, 1, none⟩ = some (.slice a n c) := by rw [cell_of_row w20 _ _ _ _ (0, 0) T_20_1.out]; rfl
    have z_20_1 : w.heap.size < w20.heap.size := (Array.getElem?_eq_some_iff.1 T_20_1.out).1
    have m_20_2_0 : w20.cell? ⟨w6.heap.size, 0, none⟩ = some (.int .i64 N) := by rw [cell_of_row w20 _ _ _ _ (0, 0) T_20_2.out]; rfl
    have m_20_2_1 : w20.cell? ⟨w6.heap.size, 1, none⟩ = some (.slice a5 n c5) := by rw [cell_of_row w20 _ _ _ _ (0, 0) T_20_2.out]; rfl
    have z_20_2 : w6.heap.size < w20.heap.size := (Array.getElem?_eq_some_iff.1 T_20_2.out).1
    clear ho hg
    go_wp2_with fail
    refine (l_heldIntS _ _ _ _ _ (O_g0_20.out.at.below (by go_grown)) (by omega) (by omega)).mono ?_
    rintro e _ ⟨rfl, rfl⟩
    go_wp2_with fail
    refine (l_toNetwork _ _ _ _ l _ ((H_l.out.below B_20.out).below (by go_grown)) (by omega)).mono ?_
    rintro e w21 ⟨a11, c11, rfl, o11, hb⟩
    have HB_21 := hid (bstep (by go_grown) hb : Below w20.heap.size w20 w21)
    have B_21 := hid (bstep B_20.out HB_21.out)
    have S_21 := HB_21.out.size
    have T_21_1 := hid ((HB_21.out.block w.heap.size (Array.getElem?_eq_some_iff.1 T_20_1.out).1).trans T_20_1.out)
    have T_21_2 := hid ((HB_21.out.block w6.heap.size (Array.getElem?_eq_some_iff.1 T_20_2.out).1).trans T_20_2.out)
    clear m_20_1_0 m_20_1_1 z_20_1 m_20_2_0 m_20_2_1 z_20_2
    have m_21_1_0 : w21.cell? ⟨w.heap.size, 0, none⟩ = some (.int .i64 N) := by rw [cell_of_row w21 _ _ _ _ (0, 0) T_21_1.out]; rfl
    have m_21_1_1 : w21.cell? ⟨w.heap.size, 1, none⟩ = some (.slice a n c) := by rw [cell_of_row w21 _ _ _ _ (0, 0) T_21_1.out]; rfl
    have z_21_1 : w.heap.size < w21.heap.size := (Array.getElem?_eq_some_iff.1 T_21_1.out).1
    have m_21_2_0 : w21.cell? ⟨w6.heap.size, 0, none⟩ = some (.int .i64 N) := by rw [cell_of_row w21 _ _ _ _ (0, 0) T_21_2.out]; rfl
    have m_21_2_1 : w21.cell? ⟨w6.heap.size, 1, none⟩ = some (.slice a5 n c5) := by rw [cell_of_row w21 _ _ _ _ (0, 0) T_21_2.out]; rfl
    have z_21_2 : w6.heap.size < w21.heap.size := (Array.getElem?_eq_some_iff.1 T_21_2.out).1
    clear hb
    try simp only [World.size_alloc] at o11
    have O_z_l := hid o11
    clear o11
    go_wp2_with fail
    refine (l_toIntS _ _ _ f1 _ ((H_f1.out.below B_21.out).below (by go_grown)) (by omega)).mono ?_
    rintro e w22 ⟨a12, c12, rfl, o12, hb⟩
    have HB_22 := hid (bstep (by go_grown) hb : Below w21.heap.size w21 w22)
    have B_22 := hid (bstep B_21.out HB_22.out)
    have S_22 := HB_22.out.size
    have T_22_1 := hid ((HB_22.out.block w.heap.size (Array.getElem?_eq_some_iff.1 T_21_1.out).1).trans T_21_1.out)
    have T_22_2 := hid ((HB_22.out.block w6.heap.size (Array.getElem?_eq_some_iff.1 T_21_2.out).1).trans T_21_2.out)
    clear m_21_1_0 m_21_1_1 z_21_1 m_21_2_0 m_21_2_1 z_21_2
    have m_22_1_0 : w22.cell? ⟨w.heap.size, 0, none⟩ = some (.int .i64 N) := by rw [cell_of_row w22 _ _ _ _ (0, 0) T_22_1.out]; rfl
    have m_22_1_1 : w22.cell? ⟨w.heap.size, 1, none⟩ = some (.slice a n c) := by rw [cell_of_row w22 _ _ _ _ (0, 0) T_22_1.out]; rfl
    have z_22_1 : w.heap.size < w22.heap.size := (Array.getElem?_eq_some_iff.1 T_22_1.out).1
    have m_22_2_0 : w22.cell? ⟨w6.heap.size, 0, none⟩ = some (.int .i64 N) := by rw [cell_of_row w22 _ _ _ _ (0, 0) T_22_2.out]; rfl
    have m_22_2_1 : w22.cell? ⟨w6.heap.size, 1, none⟩ = some (.slice a5 n c5) := by rw [cell_of_row w22 _ _ _ _ (0, 0) T_22_2.out]; rfl
    have z_22_2 : w6.heap.size < w22.heap.size := (Array.getElem?_eq_some_iff.1 T_22_2.out).1
    clear hb
    try simp only [World.size_alloc] at o12
    have O_z_f1 := hid o12
    clear o12
    go_wp2_with fail
    refine (l_toIntS _ _ _ f2 _ ((H_f2.out.below B_22.out).below (by go_grown)) (by omega)).mono ?_
    rintro e w23 ⟨a13, c13, rfl, o13, hb⟩
    have HB_23 := hid (bstep (by go_grown) hb : Below w22.heap.size w22 w23)
    have B_23 := hid (bstep B_22.out HB_23.out)
    have S_23 := HB_23.out.size
    have T_23_1 := hid ((HB_23.out.block w.heap.size (Array.getElem?_eq_some_iff.1 T_22_1.out).1).trans T_22_1.out)
    have T_23_2 := hid ((HB_23.out.block w6.heap.size (Array.getElem?_eq_some_iff.1 T_22_2.out).1).trans T_22_2.out)
    clear m_22_1_0 m_22_1_1 z_22_1 m_22_2_0 m_22_2_1 z_22_2
    have m_23_1_0 : w23.cell? ⟨w.heap.size, 0, none⟩ = some (.int .i64 N) := by rw [cell_of_row w23 _ _ _ _ (0, 0) T_23_1.out]; rfl
    have m_23_1_1 : w23.cell? ⟨w.heap.size, 1, none⟩ = some (.slice a n c) := by rw [cell_of_row w23 _ _ _ _ (0, 0) T_23_1.out]; rfl
    have z_23_1 : w.heap.size < w23.heap.size := (Array.getElem?_eq_some_iff.1 T_23_1.out).1
    have m_23_2_0 : w23.cell? ⟨w6.heap.size, 0, none⟩ = some (.int .i64 N) := by rw [cell_of_row w23 _ _ _ _ (0, 0) T_23_2.out]; rfl
    have m_23_2_1 : w23.cell? ⟨w6.heap.size, 1, none⟩ = some (.slice a5 n c5) := by rw [cell_of_row w23 _ _ _ _ (0, 0) T_23_2.out]; rfl
    have z_23_2 : w6.heap.size < w23.heap.size := (Array.getElem?_eq_some_iff.1 T_23_2.out).1
    clear hb
    try simp only [World.size_alloc] at o13
    have O_z_f2 := hid o13
    clear o13
    have O_z_l_23 := hid ((O_z_l.out.below HB_22.out).below HB_23.out)
    have O_z_f1_23 := hid (O_z_f1.out.below HB_23.out)
    go_wp2_with fail
    refine (i_WeakNodes N i1 i2 i3 _ _ _ _ _ _ _ _ _ l f1 f2 _ ((OwnS.at qf_len O_z_l_23.out).below (by go_grown)) (O_z_f1_23.out.at.below (by go_grown)) (O_z_f2.out.at.below (by go_grown)) (by omega) (by omega) (by omega) R b HR.out).mono ?_
    rintro e w24 ⟨a14, c14, rfl, o14, hb⟩
    have HB_24 := hid (bstep (by go_grown) hb : Below w23.heap.size w23 w24)
    have B_24 := hid (bstep B_23.out HB_24.out)
    have S_24 := HB_24.out.size
    have T_24_1 := hid ((HB_24.out.block w.heap.size (Array.getElem?_eq_some_iff.1 T_23_1.out).1).trans T_23_1.out)
    have T_24_2 := hid ((HB_24.out.block w6.heap.size (Array.getElem?_eq_some_iff.1 T_23_2.out).1).trans T_23_2.out)
    clear m_23_1_0 m_23_1_1 z_23_1 m_23_2_0 m_23_2_1 z_23_2
    have m_24_1_0 : w24.cell? ⟨w.heap.size, 0, none⟩ = some (.int .i64 N) := by rw [cell_of_row w24 _ _ _ _ (0, 0) T_24_1.out]; rfl
    have m_24_1_1 : w24.cell? ⟨w.heap.size, 1, none⟩ = some (.slice a n c) := by rw [cell_of_row w24 _ _ _ _ (0, 0) T_24_1.out]; rfl
    have z_24_1 : w.heap.size < w24.heap.size := (Array.getElem?_eq_some_iff.1 T_24_1.out).1
    have m_24_2_0 : w24.cell? ⟨w6.heap.size, 0, none⟩ = some (.int .i64 N) := by rw [cell_of_row w24 _ _ _ _ (0, 0) T_24_2.out]; rfl
    have m_24_2_1 : w24.cell? ⟨w6.heap.size, 1, none⟩ = some (.slice a5 n c5) := by rw [cell_of_row w24 _ _ _ _ (0, 0) T_24_2.out]; rfl
    have z_24_2 : w6.heap.size < w24.heap.size := (Array.getElem?_eq_some_iff.1 T_24_2.out).1
    clear hb
    try simp only [World.size_alloc] at o14
    have O_h0 := hid o14
    clear o14
    have O_w0_24 := hid ((((O_w0_20.out.below HB_21.out).below HB_22.out).below HB_23.out).below HB_24.out)
    go_wp2_with fail
    refine (l_eqIntS _ _ _ _ _ _ R R _ (O_h0.out.at.below (by go_grown)) (O_w0_24.out.at.below (by go_grown)) (by omega) (by omega)).mono ?_
    rintro e w25 ⟨rfl, hb⟩
    have HB_25 := hid (bstep (by go_grown) hb : Below w24.heap.size w24 w25)
    have B_25 := hid (bstep B_24.out HB_25.out)
    have S_25 := HB_25.out.size
    have T_25_1 := hid ((HB_25.out.block w.heap.size (Array.getElem?_eq_some_iff.1 T_24_1.out).1).trans T_24_1.out)
    have T_25_2 := hid ((HB_25.out.block w6.heap.size (Array.getElem?_eq_some_iff.1 T_24_2.out).1).trans T_24_2.out)
    clear m_24_1_0 m_24_1_1 z_24_1 m_24_2_0 m_24_2_1 z_24_2
    have m_25_1_0 : w25.cell? ⟨w.heap.size, 0, none⟩ = some (.int .i64 N) := by rw [cell_of_row w25 _ _ _ _ (0, 0) T_25_1.out]; rfl
    have m_25_1_1 : w25.cell? ⟨w.heap.size, 1, none⟩ = some (.slice a n c) := by rw [cell_of_row w25 _ _ _ _ (0, 0) T_25_1.out]; rfl
    have z_25_1 : w.heap.size < w25.heap.size := (Array.getElem?_eq_some_iff.1 T_25_1.out).1
    have m_25_2_0 : w25.cell? ⟨w6.heap.size, 0, none⟩ = some (.int .i64 N) := by rw [cell_of_row w25 _ _ _ _ (0, 0) T_25_2.out]; rfl
    have m_25_2_1 : w25.cell? ⟨w6.heap.size, 1, none⟩ = some (.slice a5 n c5) := by rw [cell_of_row w25 _ _ _ _ (0, 0) T_25_2.out]; rfl
    have z_25_2 : w6.heap.size < w25.heap.size := (Array.getElem?_eq_some_iff.1 T_25_2.out).1
    clear hb
    have O_g0_25 := hid (((((O_g0_20.out.below HB_21.out).below HB_22.out).below HB_23.out).below HB_24.out).below HB_25.out)
    go_wp2_with fail
    refine (l_heldIntS _ _ _ _ _ (O_g0_25.out.at.below (by go_grown)) (by omega) (by omega)).mono ?_
    rintro e _ ⟨rfl, rfl⟩
    go_wp2
    go_ret
    exact ⟨rfl, B_25.out⟩

set_option maxRecDepth 100000 in
theorem fnExactWeakNodes_lifted (os : Os) (started : os.Started) (H : Type) (enc : TypeId × Value → H) :
    ReturnsInHanded {} Try.checked os 12 .any (Rows.fnExactWeakNodesSpec.pre6 enc Try.prog Try.f12 Rows.fnExactWeakNodesRow.domain false) (Rows.fnExactWeakNodesSpec.post enc Try.prog Try.f12 false true false false) := by
  refine returnsInHanded_of_change (C := Try.checked) Try.own started (by kernel_rfl) Try.func12
    (ChangeSpec.witness6 (enc := enc) (C := Try.checked) false ⟨#[], #[.agg #[.int .i64 0, .slice none 0 0], .int .i64 0, .slice none 0 0, .int .i64 0, .slice none 0 0, .int .i64 0], []⟩ 8 (by kernel_rfl) (by kernel_rfl) (by kernel_rfl) (by kernel_rfl)) ?_
  intro W base args ds gs before hval0 hW _ _
  have hval : ∀ (j : Nat) t v, Try.f12.params[j]? = some t → args[j]? = some v → Value.okWide Try.prog W .any base t v := hval0
  have hW' : DataW.Whole enc Try.prog Try.f12.params.toList Rows.fnExactWeakNodesSpec.vars false W args.toList ds gs before := hW
  obtain ⟨p, q, hA0, hV, rfl, hfz, hnd⟩ := hW
  have hlt : ∀ x ∈ p, x.block < W.heap.size := fun x hx => hW'.lt x (by simp [hx])
  have hA : DataW.TrodAll enc Try.prog W 0 (fun _ => true) true Try.f12.params.toList args.toList ds p := hA0
  rw [Try.params12] at hA hval
  clear hA0 hval0
  obtain ⟨v0, v1, v2, v3, v4, v5, d0, d1, d2, d3, d4, d5, p0, p1, p2, p3, p4, p5, rfl, rfl, rfl, h0, h1, h2, h3, h4, h5⟩ := trodAll_six hA
  obtain ⟨rfl, rfl⟩ := trodVars_none hV
  obtain ⟨N0, x0, n0, k0, l0, rfl, g0, m0⟩ := open_net (hval 0 24 v0 rfl rfl) h0
  obtain ⟨i1, rfl, rfl, rfl, wi1⟩ := open_int Try.underlying3 (hval 1 3 v1 rfl rfl) h1
  obtain ⟨x2, n2, k2, l2, rfl, g2, b2⟩ := open_ints_at (hval 2 25 v2 rfl rfl) h2
  obtain ⟨i3, rfl, rfl, rfl, wi3⟩ := open_int Try.underlying3 (hval 3 3 v3 rfl rfl) h3
  obtain ⟨x4, n4, k4, l4, rfl, g4, b4⟩ := open_ints_at (hval 4 25 v4 rfl rfl) h4
  obtain ⟨i5, rfl, rfl, rfl, wi5⟩ := open_int Try.underlying3 (hval 5 3 v5 rfl rfl) h5
  refine (law_WeakNodes N0 x0 n0 k0 l0 i1 i3 i5 x2 n2 k2 l2 x4 n4 k4 l4 W g0 g2 g4 m0).mono fun e W' ⟨he, hb⟩ => ?_
  subst he
  exact ⟨_, rfl, law_post rfl rfl (by kernel_rfl) hW' rfl rfl rfl hb⟩

theorem fnExactWeakNodes_proved : Rows.FnExactWeakNodesSaid :=
  OpenClaim.holds_of_wide 12 Try.f12 rfl rfl rfl rfl rfl rfl rfl ⟨rfl, rfl, rfl, rfl, rfl⟩ rfl rfl rfl rfl rfl (by kernel_rfl) Try.func12 (by kernel_rfl)
    (of_decide_eq_true (by kernel_rfl)) (by unfold Func.isWrapper; first | (rw [if_pos (by decide +kernel)]; kernel_rfl) | (rw [if_neg (by decide +kernel)]; exact ⟨rfl, rfl⟩))
    (fun os started H enc _ => fnExactWeakNodes_lifted os started H enc)

end Go.Proofs.Ythhogblnndmenaa
