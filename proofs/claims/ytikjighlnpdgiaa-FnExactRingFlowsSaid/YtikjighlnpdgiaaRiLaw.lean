/-
  The law FnExactRingFlows returns true for every input, and leaves its arguments as they were. No condition.
-/
import Derived.Test.YtikjighlnpdgiaaRi11
import Derived.Test.YtikjighlnpdgiaaRi13
import Derived.Test.YtikjighlnpdgiaaRi14
set_option linter.unusedVariables false
set_option linter.unusedSimpArgs false
namespace Go.Proofs.Ytikjighlnpdgiaa
open Go.ChangeShapes Go.WideShapes Go.ChangeAt Go.RowKit Go.Joins Go.Deep

set_option maxRecDepth 100000 in
set_option maxHeartbeats 8000000 in
theorem law_RingFlows (N : Int) (a : Option Addr) (n c : Nat) (l : List Pip) (i1 : Int) (f1_p : Option Addr) (f1_m f1_d : Nat) (f1 : List Int) (w : World) (h : QAt w a n l) (h_f1 : IntsAt w f1_p f1_m f1) (hmax : n ≤ 9223372036854775807) :
    Calls Try.prog 3 #[.agg #[.int .i64 N, .slice a n c], .int .i64 i1, .slice f1_p f1_m f1_d] w fun e w' => e = .returned (.bool true) ∧ Below w.heap.size w w' := by
  have H_l := hid h
  have H_f1 := hid h_f1
  clear h h_f1
  by_cases hm_f1 : 1048576 < f1_m
  · go_enter Try.func3, Try.ntmps3
    go_wp2
    go_ret
    exact ⟨rfl, by go_grown⟩
  by_cases hn : 1048576 < n
  · go_enter Try.func3, Try.ntmps3
    go_wp2_with fail
    refine (l_szNetwork_no _ _ _ _ _ (by omega) (by omega)).mono ?_
    rintro e w1 ⟨rfl, hb⟩
    go_wp2
    go_ret
    exact ⟨rfl, bstep (by go_grown) hb⟩
  obtain ⟨R, b, hR⟩ : ∃ R b, ringsR N l i1 f1 = (R, b) := ⟨_, _, rfl⟩
  have HR := hid hR
  have hRl : R.length ≤ 1000 := ringsR_len hR
  clear hR
  have hx : (b != b) = false := by simp
  have hy : ((1 + (R.length : Int)) != (1 + (R.length : Int))) = false := by simp
  go_enter Try.func3, Try.ntmps3
  go_wp2_with fail
  refine (l_szNetwork_yes _ _ _ _ _ (by omega)).mono ?_
  rintro e w1 ⟨rfl, hb⟩
  have HB_1 := hid (bstep (by go_grown) hb : Below w.heap.size w w1)
  have B_1 := HB_1
  have S_1 := HB_1.out.size
  have T_1_1 : Hid (w1.heap[w.heap.size]? = some (.cells #[.int .i64 N, .slice a n c] 24 (0, 0))) := hid (by rw [hb.block _ (by simp <;> omega)]; exact heap_alloc_new _ _)
  have Z_1 : w.heap.size < w1.heap.size := (Array.getElem?_eq_some_iff.1 T_1_1.out).1
  have m_1_1_0 : w1.cell? ⟨w.heap.size, 0, none⟩ = some (.int .i64 N) := by rw [cell_of_row w1 _ _ _ _ (0, 0) T_1_1.out]; rfl
  have m_1_1_1 : w1.cell? ⟨w.heap.size, 1, none⟩ = some (.slice a n c) := by rw [cell_of_row w1 _ _ _ _ (0, 0) T_1_1.out]; rfl
  have z_1_1 : w.heap.size < w1.heap.size := (Array.getElem?_eq_some_iff.1 T_1_1.out).1
  clear hb
  go_wp2_with fail
  refine (l_toNetwork _ _ _ _ l _ ((H_l.out.below B_1.out).below (by go_grown)) (by omega)).mono ?_
  rintro e w2 ⟨a1, c1, rfl, o1, hb⟩
  have HB_2 := hid (bstep (by go_grown) hb : Below w1.heap.size w1 w2)
  have B_2 := hid (bstep B_1.out HB_2.out)
  have S_2 := HB_2.out.size
  have T_2_1 := hid ((HB_2.out.block w.heap.size (Array.getElem?_eq_some_iff.1 T_1_1.out).1).trans T_1_1.out)
  clear m_1_1_0 m_1_1_1 z_1_1
  have m_2_1_0 : w2.cell? ⟨w.heap.size, 0, none⟩ = some (.int .i64 N) := by rw [cell_of_row w2 _ _ _ _ (0, 0) T_2_1.out]; rfl
  have m_2_1_1 : w2.cell? ⟨w.heap.size, 1, none⟩ = some (.slice a n c) := by rw [cell_of_row w2 _ _ _ _ (0, 0) T_2_1.out]; rfl
  have z_2_1 : w.heap.size < w2.heap.size := (Array.getElem?_eq_some_iff.1 T_2_1.out).1
  clear hb
  try simp only [World.size_alloc] at o1
  have O_s_l := hid o1
  clear o1
  go_wp2_with fail
  refine (l_toIntS _ _ _ f1 _ ((H_f1.out.below B_2.out).below (by go_grown)) (by omega)).mono ?_
  rintro e w3 ⟨a2, c2, rfl, o2, hb⟩
  have HB_3 := hid (bstep (by go_grown) hb : Below w2.heap.size w2 w3)
  have B_3 := hid (bstep B_2.out HB_3.out)
  have S_3 := HB_3.out.size
  have T_3_1 := hid ((HB_3.out.block w.heap.size (Array.getElem?_eq_some_iff.1 T_2_1.out).1).trans T_2_1.out)
  clear m_2_1_0 m_2_1_1 z_2_1
  have m_3_1_0 : w3.cell? ⟨w.heap.size, 0, none⟩ = some (.int .i64 N) := by rw [cell_of_row w3 _ _ _ _ (0, 0) T_3_1.out]; rfl
  have m_3_1_1 : w3.cell? ⟨w.heap.size, 1, none⟩ = some (.slice a n c) := by rw [cell_of_row w3 _ _ _ _ (0, 0) T_3_1.out]; rfl
  have z_3_1 : w.heap.size < w3.heap.size := (Array.getElem?_eq_some_iff.1 T_3_1.out).1
  clear hb
  try simp only [World.size_alloc] at o2
  have O_s_f1 := hid o2
  clear o2
  have O_s_l_3 := hid (O_s_l.out.below HB_3.out)
  go_wp2_with fail
  refine (s_RingFlows N i1 _ _ _ _ _ _ l f1 _ ((OwnS.at qf_len O_s_l_3.out).below (by go_grown)) (O_s_f1.out.at.below (by go_grown)) (by omega) (by omega) (own_capQ O_s_l_3.out) R b HR.out).mono ?_
  rintro e w4 ⟨a3, c3, rfl, o3, hb⟩
  have HB_4 := hid (bstep (by go_grown) hb : Below w3.heap.size w3 w4)
  have B_4 := hid (bstep B_3.out HB_4.out)
  have S_4 := HB_4.out.size
  have T_4_1 := hid ((HB_4.out.block w.heap.size (Array.getElem?_eq_some_iff.1 T_3_1.out).1).trans T_3_1.out)
  clear m_3_1_0 m_3_1_1 z_3_1
  have m_4_1_0 : w4.cell? ⟨w.heap.size, 0, none⟩ = some (.int .i64 N) := by rw [cell_of_row w4 _ _ _ _ (0, 0) T_4_1.out]; rfl
  have m_4_1_1 : w4.cell? ⟨w.heap.size, 1, none⟩ = some (.slice a n c) := by rw [cell_of_row w4 _ _ _ _ (0, 0) T_4_1.out]; rfl
  have z_4_1 : w.heap.size < w4.heap.size := (Array.getElem?_eq_some_iff.1 T_4_1.out).1
  clear hb
  try simp only [World.size_alloc] at o3
  have O_w0 := hid o3
  clear o3
  go_wp2_with fail
  refine (l_toNetwork _ _ _ _ l _ ((H_l.out.below B_4.out).below (by go_grown)) (by omega)).mono ?_
  rintro e w5 ⟨a4, c4, rfl, o4, hb⟩
  have HB_5 := hid (bstep (by go_grown) hb : Below w4.heap.size w4 w5)
  have B_5 := hid (bstep B_4.out HB_5.out)
  have S_5 := HB_5.out.size
  have T_5_1 := hid ((HB_5.out.block w.heap.size (Array.getElem?_eq_some_iff.1 T_4_1.out).1).trans T_4_1.out)
  clear m_4_1_0 m_4_1_1 z_4_1
  have m_5_1_0 : w5.cell? ⟨w.heap.size, 0, none⟩ = some (.int .i64 N) := by rw [cell_of_row w5 _ _ _ _ (0, 0) T_5_1.out]; rfl
  have m_5_1_1 : w5.cell? ⟨w.heap.size, 1, none⟩ = some (.slice a n c) := by rw [cell_of_row w5 _ _ _ _ (0, 0) T_5_1.out]; rfl
  have z_5_1 : w.heap.size < w5.heap.size := (Array.getElem?_eq_some_iff.1 T_5_1.out).1
  clear hb
  try simp only [World.size_alloc] at o4
  have O_x_l := hid o4
  clear o4
  go_wp2_with fail
  refine (l_toIntS _ _ _ f1 _ ((H_f1.out.below B_5.out).below (by go_grown)) (by omega)).mono ?_
  rintro e w6 ⟨a5, c5, rfl, o5, hb⟩
  have HB_6 := hid (bstep (by go_grown) hb : Below w5.heap.size w5 w6)
  have B_6 := hid (bstep B_5.out HB_6.out)
  have S_6 := HB_6.out.size
  have T_6_1 := hid ((HB_6.out.block w.heap.size (Array.getElem?_eq_some_iff.1 T_5_1.out).1).trans T_5_1.out)
  have T_6_2 : Hid (w6.heap[w5.heap.size]? = some (.cells #[.int .i64 N, .slice a4 n c4] 31 (0, 0))) := hid (by rw [hb.block _ (by simp <;> omega)]; exact heap_alloc_new _ _)
  have Z_2 : w5.heap.size < w6.heap.size := (Array.getElem?_eq_some_iff.1 T_6_2.out).1
  clear m_5_1_0 m_5_1_1 z_5_1
  have m_6_1_0 : w6.cell? ⟨w.heap.size, 0, none⟩ = some (.int .i64 N) := by rw [cell_of_row w6 _ _ _ _ (0, 0) T_6_1.out]; rfl
  have m_6_1_1 : w6.cell? ⟨w.heap.size, 1, none⟩ = some (.slice a n c) := by rw [cell_of_row w6 _ _ _ _ (0, 0) T_6_1.out]; rfl
  have z_6_1 : w.heap.size < w6.heap.size := (Array.getElem?_eq_some_iff.1 T_6_1.out).1
  have m_6_2_0 : w6.cell? ⟨w5.heap.size, 0, none⟩ = some (.int .i64 N) := by rw [cell_of_row w6 _ _ _ _ (0, 0) T_6_2.out]; rfl
  have m_6_2_1 : w6.cell? ⟨w5.heap.size, 1, none⟩ = some (.slice a4 n c4) := by rw [cell_of_row w6 _ _ _ _ (0, 0) T_6_2.out]; rfl
  have z_6_2 : w5.heap.size < w6.heap.size := (Array.getElem?_eq_some_iff.1 T_6_2.out).1
  clear hb
  try simp only [World.size_alloc] at o5
  have O_x_f1 := hid o5
  clear o5
  have O_x_l_6 := hid (O_x_l.out.below HB_6.out)
  go_wp2_with fail
  refine (i_RingFlows N i1 _ _ _ _ _ _ l f1 _ ((OwnS.at qf_len O_x_l_6.out).below (by go_grown)) (O_x_f1.out.at.below (by go_grown)) (by omega) (by omega) R b HR.out).mono ?_
  rintro e w7 ⟨a6, c6, rfl, o6, hb⟩
  have HB_7 := hid (bstep (by go_grown) hb : Below w6.heap.size w6 w7)
  have B_7 := hid (bstep B_6.out HB_7.out)
  have S_7 := HB_7.out.size
  have T_7_1 := hid ((HB_7.out.block w.heap.size (Array.getElem?_eq_some_iff.1 T_6_1.out).1).trans T_6_1.out)
  have T_7_2 := hid ((HB_7.out.block w5.heap.size (Array.getElem?_eq_some_iff.1 T_6_2.out).1).trans T_6_2.out)
  clear m_6_1_0 m_6_1_1 z_6_1 m_6_2_0 m_6_2_1 z_6_2
  have m_7_1_0 : w7.cell? ⟨w.heap.size, 0, none⟩ = some (.int .i64 N) := by rw [cell_of_row w7 _ _ _ _ (0, 0) T_7_1.out]; rfl
  have m_7_1_1 : w7.cell? ⟨w.heap.size, 1, none⟩ = some (.slice a n c) := by rw [cell_of_row w7 _ _ _ _ (0, 0) T_7_1.out]; rfl
  have z_7_1 : w.heap.size < w7.heap.size := (Array.getElem?_eq_some_iff.1 T_7_1.out).1
  have m_7_2_0 : w7.cell? ⟨w5.heap.size, 0, none⟩ = some (.int .i64 N) := by rw [cell_of_row w7 _ _ _ _ (0, 0) T_7_2.out]; rfl
  have m_7_2_1 : w7.cell? ⟨w5.heap.size, 1, none⟩ = some (.slice a4 n c4) := by rw [cell_of_row w7 _ _ _ _ (0, 0) T_7_2.out]; rfl
  have z_7_2 : w5.heap.size < w7.heap.size := (Array.getElem?_eq_some_iff.1 T_7_2.out).1
  clear hb
  try simp only [World.size_alloc] at o6
  have O_g0 := hid o6
  clear o6
  have O_w0_7 := hid (((O_w0.out.below HB_5.out).below HB_6.out).below HB_7.out)
  go_wp2_with fail
  refine (l_eqIntS _ _ _ _ _ _ R R _ (O_g0.out.at.below (by go_grown)) (O_w0_7.out.at.below (by go_grown)) (by omega) (by omega)).mono ?_
  rintro e w8 ⟨rfl, hb⟩
  have HB_8 := hid (bstep (by go_grown) hb : Below w7.heap.size w7 w8)
  have B_8 := hid (bstep B_7.out HB_8.out)
  have S_8 := HB_8.out.size
  have T_8_1 := hid ((HB_8.out.block w.heap.size (Array.getElem?_eq_some_iff.1 T_7_1.out).1).trans T_7_1.out)
  have T_8_2 := hid ((HB_8.out.block w5.heap.size (Array.getElem?_eq_some_iff.1 T_7_2.out).1).trans T_7_2.out)
  clear m_7_1_0 m_7_1_1 z_7_1 m_7_2_0 m_7_2_1 z_7_2
  have m_8_1_0 : w8.cell? ⟨w.heap.size, 0, none⟩ = some (.int .i64 N) := by rw [cell_of_row w8 _ _ _ _ (0, 0) T_8_1.out]; rfl
  have m_8_1_1 : w8.cell? ⟨w.heap.size, 1, none⟩ = some (.slice a n c) := by rw [cell_of_row w8 _ _ _ _ (0, 0) T_8_1.out]; rfl
  have z_8_1 : w.heap.size < w8.heap.size := (Array.getElem?_eq_some_iff.1 T_8_1.out).1
  have m_8_2_0 : w8.cell? ⟨w5.heap.size, 0, none⟩ = some (.int .i64 N) := by rw [cell_of_row w8 _ _ _ _ (0, 0) T_8_2.out]; rfl
  have m_8_2_1 : w8.cell? ⟨w5.heap.size, 1, none⟩ = some (.slice a4 n c4) := by rw [cell_of_row w8 _ _ _ _ (0, 0) T_8_2.out]; rfl
  have z_8_2 : w5.heap.size < w8.heap.size := (Array.getElem?_eq_some_iff.1 T_8_2.out).1
  clear hb
  have HA := hid (H_l.out.below B_8.out : QAt w8 _ _ _)
  have O_x_l_8 := hid ((O_x_l_6.out.below HB_7.out).below HB_8.out)
  have HX := hid (OwnS.at qf_len O_x_l_8.out)
  go_upto_region 13 with fail
  have q0 : ∀ wy wz : World, Below wy.heap.size wy wz → (wy.cell? ⟨w.heap.size, 0, none⟩ = some (.int .i64 N) ∧ wy.cell? ⟨w.heap.size, 1, none⟩ = some (.slice a n c) ∧ wy.cell? ⟨w5.heap.size, 0, none⟩ = some (.int .i64 N) ∧ wy.cell? ⟨w5.heap.size, 1, none⟩ = some (.slice a4 n c4)) → (wz.cell? ⟨w.heap.size, 0, none⟩ = some (.int .i64 N) ∧ wz.cell? ⟨w.heap.size, 1, none⟩ = some (.slice a n c) ∧ wz.cell? ⟨w5.heap.size, 0, none⟩ = some (.int .i64 N) ∧ wz.cell? ⟨w5.heap.size, 1, none⟩ = some (.slice a4 n c4)) :=
    fun wy wz hb ⟨z0, z1, z2, z3⟩ => ⟨(hb.cell (World.block_lt_of_cell? wy _ z0)).trans z0, (hb.cell (World.block_lt_of_cell? wy _ z1)).trans z1, (hb.cell (World.block_lt_of_cell? wy _ z2)).trans z2, (hb.cell (World.block_lt_of_cell? wy _ z3)).trans z3⟩
  have Q0 := hid q0
  clear q0
  go_cut [60] (fun s wx => s = .bool false ∧ Hid (Below w8.heap.size w8 wx))
  case first =>
    go_region_held3 (fun w' => (w'.cell? ⟨w.heap.size, 0, none⟩ = some (.int .i64 N) ∧ w'.cell? ⟨w.heap.size, 1, none⟩ = some (.slice a n c) ∧ w'.cell? ⟨w5.heap.size, 0, none⟩ = some (.int .i64 N) ∧ w'.cell? ⟨w5.heap.size, 1, none⟩ = some (.slice a4 n c4))) (first | go_keep | exact Q0.out _ _ (by assumption) (by first | assumption | (refine ⟨?_, ?_, ?_, ?_⟩ <;> assumption) | simp [*]))
      (first | (go_at_call 7; refine (l_toNetwork _ _ _ _ _ _ (HA.out.below (by go_grown)) (by omega)).mono ?_; rintro e wA ⟨aA, cA, rfl, oA, hbA⟩; obtain ⟨hcA, hfA⟩ := bcell hbA) | (go_at_call 11; refine (l_eqNetwork _ _ _ _ _ _ _ _ (HX.out.below (bstep (by go_grown) hbA)) (OwnS.at qf_len oA) (by omega)).mono ?_; rintro e wB ⟨rfl, hbB⟩; obtain ⟨hcB, hfB⟩ := bcell hbB))
    all_goals (go_wp2_with fail; go_meet)
    all_goals refine ⟨rfl, ?_⟩
    all_goals exact bstep (bstep ((Below.refl _ _).drew : Below w8.heap.size w8 _) hbA) hbB
  case rest =>
    obtain ⟨rfl, hx⟩ := hcut
    have HB_9 := hx
    have B_9 := hid (bstep B_8.out HB_9.out)
    have S_9 := HB_9.out.size
    have T_9_1 := hid ((HB_9.out.block w.heap.size (Array.getElem?_eq_some_iff.1 T_8_1.out).1).trans T_8_1.out)
    have T_9_2 := hid ((HB_9.out.block w5.heap.size (Array.getElem?_eq_some_iff.1 T_8_2.out).1).trans T_8_2.out)
    clear m_8_1_0 m_8_1_1 z_8_1 m_8_2_0 m_8_2_1 z_8_2
    have m_9_1_0 : wc.cell? ⟨w.heap.size, 0, none⟩ = some (.int .i64 N) := by rw [cell_of_row wc _ _ _ _ (0, 0) T_9_1.out]; rfl
    have m_9_1_1 : wc.cell? ⟨w.heap.size, 1, none⟩ = some (.slice a n c) := by rw [cell_of_row wc _ _ _ _ (0, 0) T_9_1.out]; rfl
    have z_9_1 : w.heap.size < wc.heap.size := (Array.getElem?_eq_some_iff.1 T_9_1.out).1
    have m_9_2_0 : wc.cell? ⟨w5.heap.size, 0, none⟩ = some (.int .i64 N) := by rw [cell_of_row wc _ _ _ _ (0, 0) T_9_2.out]; rfl
    have m_9_2_1 : wc.cell? ⟨w5.heap.size, 1, none⟩ = some (.slice a4 n c4) := by rw [cell_of_row wc _ _ _ _ (0, 0) T_9_2.out]; rfl
    have z_9_2 : w5.heap.size < wc.heap.size := (Array.getElem?_eq_some_iff.1 T_9_2.out).1
    go_wp2_with fail
    refine (l_toIntS _ _ _ f1 _ ((H_f1.out.below B_9.out).below (by go_grown)) (by omega)).mono ?_
    rintro e w10 ⟨a7, c7, rfl, o7, hb⟩
    have HB_10 := hid (bstep (by go_grown) hb : Below wc.heap.size wc w10)
    have B_10 := hid (bstep B_9.out HB_10.out)
    have S_10 := HB_10.out.size
    have T_10_1 := hid ((HB_10.out.block w.heap.size (Array.getElem?_eq_some_iff.1 T_9_1.out).1).trans T_9_1.out)
    have T_10_2 := hid ((HB_10.out.block w5.heap.size (Array.getElem?_eq_some_iff.1 T_9_2.out).1).trans T_9_2.out)
    clear m_9_1_0 m_9_1_1 z_9_1 m_9_2_0 m_9_2_1 z_9_2
    have m_10_1_0 : w10.cell? ⟨w.heap.size, 0, none⟩ = some (.int .i64 N) := by rw [cell_of_row w10 _ _ _ _ (0, 0) T_10_1.out]; rfl
    have m_10_1_1 : w10.cell? ⟨w.heap.size, 1, none⟩ = some (.slice a n c) := by rw [cell_of_row w10 _ _ _ _ (0, 0) T_10_1.out]; rfl
    have z_10_1 : w.heap.size < w10.heap.size := (Array.getElem?_eq_some_iff.1 T_10_1.out).1
    have m_10_2_0 : w10.cell? ⟨w5.heap.size, 0, none⟩ = some (.int .i64 N) := by rw [cell_of_row w10 _ _ _ _ (0, 0) T_10_2.out]; rfl
    have m_10_2_1 : w10.cell? ⟨w5.heap.size, 1, none⟩ = some (.slice a4 n c4) := by rw [cell_of_row w10 _ _ _ _ (0, 0) T_10_2.out]; rfl
    have z_10_2 : w5.heap.size < w10.heap.size := (Array.getElem?_eq_some_iff.1 T_10_2.out).1
    clear hb
    try simp only [World.size_alloc] at o7
    have O_y_f1 := hid o7
    clear o7
    have O_x_f1_10 := hid ((((O_x_f1.out.below HB_7.out).below HB_8.out).below HB_9.out).below HB_10.out)
    go_wp2_with fail
    refine (l_eqIntS _ _ _ _ _ _ f1 f1 _ (O_x_f1_10.out.at.below (by go_grown)) (O_y_f1.out.at.below (by go_grown)) (by omega) (by omega)).mono ?_
    rintro e w11 ⟨rfl, hb⟩
    have HB_11 := hid (bstep (by go_grown) hb : Below w10.heap.size w10 w11)
    have B_11 := hid (bstep B_10.out HB_11.out)
    have S_11 := HB_11.out.size
    have T_11_1 := hid ((HB_11.out.block w.heap.size (Array.getElem?_eq_some_iff.1 T_10_1.out).1).trans T_10_1.out)
    have T_11_2 := hid ((HB_11.out.block w5.heap.size (Array.getElem?_eq_some_iff.1 T_10_2.out).1).trans T_10_2.out)
    clear m_10_1_0 m_10_1_1 z_10_1 m_10_2_0 m_10_2_1 z_10_2
    have m_11_1_0 : w11.cell? ⟨w.heap.size, 0, none⟩ = some (.int .i64 N) := by rw [cell_of_row w11 _ _ _ _ (0, 0) T_11_1.out]; rfl
    have m_11_1_1 : w11.cell? ⟨w.heap.size, 1, none⟩ = some (.slice a n c) := by rw [cell_of_row w11 _ _ _ _ (0, 0) T_11_1.out]; rfl
    have z_11_1 : w.heap.size < w11.heap.size := (Array.getElem?_eq_some_iff.1 T_11_1.out).1
    have m_11_2_0 : w11.cell? ⟨w5.heap.size, 0, none⟩ = some (.int .i64 N) := by rw [cell_of_row w11 _ _ _ _ (0, 0) T_11_2.out]; rfl
    have m_11_2_1 : w11.cell? ⟨w5.heap.size, 1, none⟩ = some (.slice a4 n c4) := by rw [cell_of_row w11 _ _ _ _ (0, 0) T_11_2.out]; rfl
    have z_11_2 : w5.heap.size < w11.heap.size := (Array.getElem?_eq_some_iff.1 T_11_2.out).1
    clear hb
    have O_x_l_11 := hid (((O_x_l_8.out.below HB_9.out).below HB_10.out).below HB_11.out)
    have O_x_f1_11 := hid (O_x_f1_10.out.below HB_11.out)
    have O_g0_11 := hid ((((O_g0.out.below HB_8.out).below HB_9.out).below HB_10.out).below HB_11.out)
    have O_w0_11 := hid ((((O_w0_7.out.below HB_8.out).below HB_9.out).below HB_10.out).below HB_11.out)
    go_wp2_with fail
    refine (l_markNetwork _ _ _ _ _ l _ _ O_x_l_11.out (by omega) (by omega)).mono ?_
    rintro e w12 ⟨rfl, ho, hg⟩
    have S_12 := hg.size
    have L_12 := hid (O_x_l.out).lt
    have B_12 := hid (B_11.out.grown hg B_11.out.size (fun q hq => by have := (L_12.out q hq).1; omega))
    have O_x_f1_12 := hid (O_x_f1_11.out.kept hg (ne_of_younger O_x_f1.out.lt O_x_l.out.lt (by omega)))
    have O_g0_12 := hid (O_g0_11.out.kept hg (ne_of_younger O_g0.out.lt O_x_l.out.lt (by omega)))
    have O_w0_12 := hid (O_w0_11.out.kept hg (ne_of_older O_w0.out.lt O_x_l.out.lt (by omega)))
    have T_12_1 := hid ((hg.block w.heap.size (Array.getElem?_eq_some_iff.1 T_11_1.out).1 (fun e => by have := L_12.out _ e.symm; omega)).trans T_11_1.out)
    have T_12_2 := hid ((hg.block w5.heap.size (Array.getElem?_eq_some_iff.1 T_11_2.out).1 (fun e => by have := L_12.out _ e.symm; omega)).trans T_11_2.out)
    have O_x_l_12 := hid ho
    clear m_11_1_0 m_11_1_1 z_11_1 m_11_2_0 m_11_2_1 z_11_2
    have m_12_1_0 : w12.cell? ⟨w.heap.size, 0, none⟩ = some (.int .i64 N) := by rw [cell_of_row w12 _ _ _ _ (0, 0) T_12_1.out]; rfl
    have m_12_1_1 : w12.cell? ⟨w.heap.size, 1, none⟩ = some (.slice a n c) := by rw [cell_of_row w12 _ _ _ _ (0, 0) T_12_1.out]; rfl
    have z_12_1 : w.heap.size < w12.heap.size := (Array.getElem?_eq_some_iff.1 T_12_1.out).1
    have m_12_2_0 : w12.cell? ⟨w5.heap.size, 0, none⟩ = some (.int .i64 N) := by rw [cell_of_row w12 _ _ _ _ (0, 0) T_12_2.out]; rfl
    have m_12_2_1 : w12.cell? ⟨w5.heap.size, 1, none⟩ = some (.slice a4 n c4) := by rw [cell_of_row w12 _ _ _ _ (0, 0) T_12_2.out]; rfl
    have z_12_2 : w5.heap.size < w12.heap.size := (Array.getElem?_eq_some_iff.1 T_12_2.out).1
    clear ho hg
    go_wp2_with fail
    refine (l_markIntS _ _ _ _ f1 _ _ O_x_f1_12.out (by omega) (by omega)).mono ?_
    rintro e w13 ⟨rfl, ho, hg⟩
    have S_13 := hg.size
    have L_13 := hid (O_x_f1.out).lt
    have B_13 := hid (B_12.out.grown hg B_12.out.size (fun q hq => by have := (L_13.out q hq).1; omega))
    have O_g0_13 := hid (O_g0_12.out.kept hg (ne_of_younger O_g0.out.lt O_x_f1.out.lt (by omega)))
    have O_w0_13 := hid (O_w0_12.out.kept hg (ne_of_older O_w0.out.lt O_x_f1.out.lt (by omega)))
    have T_13_1 := hid ((hg.block w.heap.size (Array.getElem?_eq_some_iff.1 T_12_1.out).1 (fun e => by have := L_13.out _ e.symm; omega)).trans T_12_1.out)
    have T_13_2 := hid ((hg.block w5.heap.size (Array.getElem?_eq_some_iff.1 T_12_2.out).1 (fun e => by have := L_13.out _ e.symm; omega)).trans T_12_2.out)
    have O_x_f1_13 := hid ho
    clear m_12_1_0 m_12_1_1 z_12_1 m_12_2_0 m_12_2_1 z_12_2
    have m_13_1_0 : w13.cell? ⟨w.heap.size, 0, none⟩ = some (.int .i64 N) := by rw [cell_of_row w13 _ _ _ _ (0, 0) T_13_1.out]; rfl
    have m_13_1_1 : w13.cell? ⟨w.heap.size, 1, none⟩ = some (.slice a n c) := by rw [cell_of_row w13 _ _ _ _ (0, 0) T_13_1.out]; rfl
    have z_13_1 : w.heap.size < w13.heap.size := (Array.getElem?_eq_some_iff.1 T_13_1.out).1
    have m_13_2_0 : w13.cell? ⟨w5.heap.size, 0, none⟩ = some (.int .i64 N) := by rw [cell_of_row w13 _ _ _ _ (0, 0) T_13_2.out]; rfl
    have m_13_2_1 : w13.cell? ⟨w5.heap.size, 1, none⟩ = some (.slice a4 n c4) := by rw [cell_of_row w13 _ _ _ _ (0, 0) T_13_2.out]; rfl
    have z_13_2 : w5.heap.size < w13.heap.size := (Array.getElem?_eq_some_iff.1 T_13_2.out).1
    clear ho hg
    go_wp2_with fail
    refine (l_eqIntS _ _ _ _ _ _ R R _ (O_g0_13.out.at.below (by go_grown)) (O_w0_13.out.at.below (by go_grown)) (by omega) (by omega)).mono ?_
    rintro e w14 ⟨rfl, hb⟩
    have HB_14 := hid (bstep (by go_grown) hb : Below w13.heap.size w13 w14)
    have B_14 := hid (bstep B_13.out HB_14.out)
    have S_14 := HB_14.out.size
    have T_14_1 := hid ((HB_14.out.block w.heap.size (Array.getElem?_eq_some_iff.1 T_13_1.out).1).trans T_13_1.out)
    have T_14_2 := hid ((HB_14.out.block w5.heap.size (Array.getElem?_eq_some_iff.1 T_13_2.out).1).trans T_13_2.out)
    clear m_13_1_0 m_13_1_1 z_13_1 m_13_2_0 m_13_2_1 z_13_2
    have m_14_1_0 : w14.cell? ⟨w.heap.size, 0, none⟩ = some (.int .i64 N) := by rw [cell_of_row w14 _ _ _ _ (0, 0) T_14_1.out]; rfl
    have m_14_1_1 : w14.cell? ⟨w.heap.size, 1, none⟩ = some (.slice a n c) := by rw [cell_of_row w14 _ _ _ _ (0, 0) T_14_1.out]; rfl
    have z_14_1 : w.heap.size < w14.heap.size := (Array.getElem?_eq_some_iff.1 T_14_1.out).1
    have m_14_2_0 : w14.cell? ⟨w5.heap.size, 0, none⟩ = some (.int .i64 N) := by rw [cell_of_row w14 _ _ _ _ (0, 0) T_14_2.out]; rfl
    have m_14_2_1 : w14.cell? ⟨w5.heap.size, 1, none⟩ = some (.slice a4 n c4) := by rw [cell_of_row w14 _ _ _ _ (0, 0) T_14_2.out]; rfl
    have z_14_2 : w5.heap.size < w14.heap.size := (Array.getElem?_eq_some_iff.1 T_14_2.out).1
    clear hb
    have O_g0_14 := hid (O_g0_13.out.below HB_14.out)
    have O_w0_14 := hid (O_w0_13.out.below HB_14.out)
    go_wp2_with fail
    refine (l_markIntS _ _ _ _ R _ _ O_g0_14.out (by omega) (by omega)).mono ?_
    rintro e w15 ⟨rfl, ho, hg⟩
    have S_15 := hg.size
    have L_15 := hid (O_g0.out).lt
    have B_15 := hid (B_14.out.grown hg B_14.out.size (fun q hq => by have := (L_15.out q hq).1; omega))
    have O_w0_15 := hid (O_w0_14.out.kept hg (ne_of_older O_w0.out.lt O_g0.out.lt (by omega)))
    have T_15_1 := hid ((hg.block w.heap.size (Array.getElem?_eq_some_iff.1 T_14_1.out).1 (fun e => by have := L_15.out _ e.symm; omega)).trans T_14_1.out)
    have T_15_2 := hid ((hg.block w5.heap.size (Array.getElem?_eq_some_iff.1 T_14_2.out).1 (fun e => by have := L_15.out _ e.symm; omega)).trans T_14_2.out)
    have O_g0_15 := hid ho
    clear m_14_1_0 m_14_1_1 z_14_1 m_14_2_0 m_14_2_1 z_14_2
    have m_15_1_0 : w15.cell? ⟨w.heap.size, 0, none⟩ = some (.int .i64 N) := by rw [cell_of_row w15 _ _ _ _ (0, 0) T_15_1.out]; rfl
    have m_15_1_1 : w15.cell? ⟨w.heap.size, 1, none⟩ = some (.slice a n c) := by rw [cell_of_row w15 _ _ _ _ (0, 0) T_15_1.out]; rfl
    have z_15_1 : w.heap.size < w15.heap.size := (Array.getElem?_eq_some_iff.1 T_15_1.out).1
    have m_15_2_0 : w15.cell? ⟨w5.heap.size, 0, none⟩ = some (.int .i64 N) := by rw [cell_of_row w15 _ _ _ _ (0, 0) T_15_2.out]; rfl
    have m_15_2_1 : w15.cell? ⟨w5.heap.size, 1, none⟩ = some (.slice a4 n c4) := by rw [cell_of_row w15 _ _ _ _ (0, 0) T_15_2.out]; rfl
    have z_15_2 : w5.heap.size < w15.heap.size := (Array.getElem?_eq_some_iff.1 T_15_2.out).1
    clear ho hg
    go_wp2_with fail
    refine (l_heldIntS _ _ _ _ _ (O_g0_15.out.at.below (by go_grown)) (by omega) (by omega)).mono ?_
    rintro e _ ⟨rfl, rfl⟩
    go_wp2_with fail
    refine (l_toNetwork _ _ _ _ l _ ((H_l.out.below B_15.out).below (by go_grown)) (by omega)).mono ?_
    rintro e w16 ⟨a8, c8, rfl, o8, hb⟩
    have HB_16 := hid (bstep (by go_grown) hb : Below w15.heap.size w15 w16)
    have B_16 := hid (bstep B_15.out HB_16.out)
    have S_16 := HB_16.out.size
    have T_16_1 := hid ((HB_16.out.block w.heap.size (Array.getElem?_eq_some_iff.1 T_15_1.out).1).trans T_15_1.out)
    have T_16_2 := hid ((HB_16.out.block w5.heap.size (Array.getElem?_eq_some_iff.1 T_15_2.out).1).trans T_15_2.out)
    clear m_15_1_0 m_15_1_1 z_15_1 m_15_2_0 m_15_2_1 z_15_2
    have m_16_1_0 : w16.cell? ⟨w.heap.size, 0, none⟩ = some (.int .i64 N) := by rw [cell_of_row w16 _ _ _ _ (0, 0) T_16_1.out]; rfl
    have m_16_1_1 : w16.cell? ⟨w.heap.size, 1, none⟩ = some (.slice a n c) := by rw [cell_of_row w16 _ _ _ _ (0, 0) T_16_1.out]; rfl
    have z_16_1 : w.heap.size < w16.heap.size := (Array.getElem?_eq_some_iff.1 T_16_1.out).1
    have m_16_2_0 : w16.cell? ⟨w5.heap.size, 0, none⟩ = some (.int .i64 N) := by rw [cell_of_row w16 _ _ _ _ (0, 0) T_16_2.out]; rfl
    have m_16_2_1 : w16.cell? ⟨w5.heap.size, 1, none⟩ = some (.slice a4 n c4) := by rw [cell_of_row w16 _ _ _ _ (0, 0) T_16_2.out]; rfl
    have z_16_2 : w5.heap.size < w16.heap.size := (Array.getElem?_eq_some_iff.1 T_16_2.out).1
    clear hb
    try simp only [World.size_alloc] at o8
    have O_z_l := hid o8
    clear o8
    go_wp2_with fail
    refine (l_toIntS _ _ _ f1 _ ((H_f1.out.below B_16.out).below (by go_grown)) (by omega)).mono ?_
    rintro e w17 ⟨a9, c9, rfl, o9, hb⟩
    have HB_17 := hid (bstep (by go_grown) hb : Below w16.heap.size w16 w17)
    have B_17 := hid (bstep B_16.out HB_17.out)
    have S_17 := HB_17.out.size
    have T_17_1 := hid ((HB_17.out.block w.heap.size (Array.getElem?_eq_some_iff.1 T_16_1.out).1).trans T_16_1.out)
    have T_17_2 := hid ((HB_17.out.block w5.heap.size (Array.getElem?_eq_some_iff.1 T_16_2.out).1).trans T_16_2.out)
    clear m_16_1_0 m_16_1_1 z_16_1 m_16_2_0 m_16_2_1 z_16_2
    have m_17_1_0 : w17.cell? ⟨w.heap.size, 0, none⟩ = some (.int .i64 N) := by rw [cell_of_row w17 _ _ _ _ (0, 0) T_17_1.out]; rfl
    have m_17_1_1 : w17.cell? ⟨w.heap.size, 1, none⟩ = some (.slice a n c) := by rw [cell_of_row w17 _ _ _ _ (0, 0) T_17_1.out]; rfl
    have z_17_1 : w.heap.size < w17.heap.size := (Array.getElem?_eq_some_iff.1 T_17_1.out).1
    have m_17_2_0 : w17.cell? ⟨w5.heap.size, 0, none⟩ = some (.int .i64 N) := by rw [cell_of_row w17 _ _ _ _ (0, 0) T_17_2.out]; rfl
    have m_17_2_1 : w17.cell? ⟨w5.heap.size, 1, none⟩ = some (.slice a4 n c4) := by rw [cell_of_row w17 _ _ _ _ (0, 0) T_17_2.out]; rfl
    have z_17_2 : w5.heap.size < w17.heap.size := (Array.getElem?_eq_some_iff.1 T_17_2.out).1
    clear hb
    try simp only [World.size_alloc] at o9
    have O_z_f1 := hid o9
    clear o9
    have O_z_l_17 := hid (O_z_l.out.below HB_17.out)
    go_wp2_with fail
    refine (i_RingFlows N i1 _ _ _ _ _ _ l f1 _ ((OwnS.at qf_len O_z_l_17.out).below (by go_grown)) (O_z_f1.out.at.below (by go_grown)) (by omega) (by omega) R b HR.out).mono ?_
    rintro e w18 ⟨a10, c10, rfl, o10, hb⟩
    have HB_18 := hid (bstep (by go_grown) hb : Below w17.heap.size w17 w18)
    have B_18 := hid (bstep B_17.out HB_18.out)
    have S_18 := HB_18.out.size
    have T_18_1 := hid ((HB_18.out.block w.heap.size (Array.getElem?_eq_some_iff.1 T_17_1.out).1).trans T_17_1.out)
    have T_18_2 := hid ((HB_18.out.block w5.heap.size (Array.getElem?_eq_some_iff.1 T_17_2.out).1).trans T_17_2.out)
    clear m_17_1_0 m_17_1_1 z_17_1 m_17_2_0 m_17_2_1 z_17_2
    have m_18_1_0 : w18.cell? ⟨w.heap.size, 0, none⟩ = some (.int .i64 N) := by rw [cell_of_row w18 _ _ _ _ (0, 0) T_18_1.out]; rfl
    have m_18_1_1 : w18.cell? ⟨w.heap.size, 1, none⟩ = some (.slice a n c) := by rw [cell_of_row w18 _ _ _ _ (0, 0) T_18_1.out]; rfl
    have z_18_1 : w.heap.size < w18.heap.size := (Array.getElem?_eq_some_iff.1 T_18_1.out).1
    have m_18_2_0 : w18.cell? ⟨w5.heap.size, 0, none⟩ = some (.int .i64 N) := by rw [cell_of_row w18 _ _ _ _ (0, 0) T_18_2.out]; rfl
    have m_18_2_1 : w18.cell? ⟨w5.heap.size, 1, none⟩ = some (.slice a4 n c4) := by rw [cell_of_row w18 _ _ _ _ (0, 0) T_18_2.out]; rfl
    have z_18_2 : w5.heap.size < w18.heap.size := (Array.getElem?_eq_some_iff.1 T_18_2.out).1
    clear hb
    try simp only [World.size_alloc] at o10
    have O_h0 := hid o10
    clear o10
    have O_w0_18 := hid (((O_w0_15.out.below HB_16.out).below HB_17.out).below HB_18.out)
    go_wp2_with fail
    refine (l_eqIntS _ _ _ _ _ _ R R _ (O_h0.out.at.below (by go_grown)) (O_w0_18.out.at.below (by go_grown)) (by omega) (by omega)).mono ?_
    rintro e w19 ⟨rfl, hb⟩
    have HB_19 := hid (bstep (by go_grown) hb : Below w18.heap.size w18 w19)
    have B_19 := hid (bstep B_18.out HB_19.out)
    have S_19 := HB_19.out.size
    have T_19_1 := hid ((HB_19.out.block w.heap.size (Array.getElem?_eq_some_iff.1 T_18_1.out).1).trans T_18_1.out)
    have T_19_2 := hid ((HB_19.out.block w5.heap.size (Array.getElem?_eq_some_iff.1 T_18_2.out).1).trans T_18_2.out)
    clear m_18_1_0 m_18_1_1 z_18_1 m_18_2_0 m_18_2_1 z_18_2
    have m_19_1_0 : w19.cell? ⟨w.heap.size, 0, none⟩ = some (.int .i64 N) := by rw [cell_of_row w19 _ _ _ _ (0, 0) T_19_1.out]; rfl
    have m_19_1_1 : w19.cell? ⟨w.heap.size, 1, none⟩ = some (.slice a n c) := by rw [cell_of_row w19 _ _ _ _ (0, 0) T_19_1.out]; rfl
    have z_19_1 : w.heap.size < w19.heap.size := (Array.getElem?_eq_some_iff.1 T_19_1.out).1
    have m_19_2_0 : w19.cell? ⟨w5.heap.size, 0, none⟩ = some (.int .i64 N) := by rw [cell_of_row w19 _ _ _ _ (0, 0) T_19_2.out]; rfl
    have m_19_2_1 : w19.cell? ⟨w5.heap.size, 1, none⟩ = some (.slice a4 n c4) := by rw [cell_of_row w19 _ _ _ _ (0, 0) T_19_2.out]; rfl
    have z_19_2 : w5.heap.size < w19.heap.size := (Array.getElem?_eq_some_iff.1 T_19_2.out).1
    clear hb
    have O_g0_19 := hid ((((O_g0_15.out.below HB_16.out).below HB_17.out).below HB_18.out).below HB_19.out)
    go_wp2_with fail
    refine (l_heldIntS _ _ _ _ _ (O_g0_19.out.at.below (by go_grown)) (by omega) (by omega)).mono ?_
    rintro e _ ⟨rfl, rfl⟩
    go_wp2
    go_ret
    exact ⟨rfl, B_19.out⟩

set_option maxRecDepth 100000 in
theorem fnExactRingFlows_lifted (os : Os) (started : os.Started) (H : Type) (enc : TypeId × Value → H) :
    ReturnsInHanded {} Try.checked os 3 .any (Rows.fnExactRingFlowsSpec.pre6 enc Try.prog Try.f3 Rows.fnExactRingFlowsRow.domain false) (Rows.fnExactRingFlowsSpec.post enc Try.prog Try.f3 false true false false) := by
  refine returnsInHanded_of_change (C := Try.checked) Try.own started (by kernel_rfl) Try.func3
    (ChangeSpec.witness6 (enc := enc) (C := Try.checked) false ⟨#[], #[.agg #[.int .i64 0, .slice none 0 0], .int .i64 0, .slice none 0 0], []⟩ 8 (by kernel_rfl) (by kernel_rfl) (by kernel_rfl) (by kernel_rfl)) ?_
  intro W base args ds gs before hval0 hW _ _
  have hval : ∀ (j : Nat) t v, Try.f3.params[j]? = some t → args[j]? = some v → Value.okWide Try.prog W .any base t v := hval0
  have hW' : DataW.Whole enc Try.prog Try.f3.params.toList Rows.fnExactRingFlowsSpec.vars false W args.toList ds gs before := hW
  obtain ⟨p, q, hA0, hV, rfl, hfz, hnd⟩ := hW
  have hlt : ∀ x ∈ p, x.block < W.heap.size := fun x hx => hW'.lt x (by simp [hx])
  have hA : DataW.TrodAll enc Try.prog W 0 (fun _ => true) true Try.f3.params.toList args.toList ds p := hA0
  rw [Try.params3] at hA hval
  clear hA0 hval0
  obtain ⟨v0, v1, v2, d0, d1, d2, p0, p1, p2, rfl, rfl, rfl, h0, h1, h2⟩ := trodAll_three hA
  obtain ⟨rfl, rfl⟩ := trodVars_none hV
  obtain ⟨N0, x0, n0, k0, l0, rfl, g0, m0⟩ := open_net (hval 0 24 v0 rfl rfl) h0
  obtain ⟨i1, rfl, rfl, rfl, wi1⟩ := open_int Try.underlying3 (hval 1 3 v1 rfl rfl) h1
  obtain ⟨x2, n2, k2, l2, rfl, g2, b2⟩ := open_ints_at (hval 2 25 v2 rfl rfl) h2
  refine (law_RingFlows N0 x0 n0 k0 l0 i1 x2 n2 k2 l2 W g0 g2 m0).mono fun e W' ⟨he, hb⟩ => ?_
  subst he
  exact ⟨_, rfl, law_post rfl rfl (by kernel_rfl) hW' rfl rfl rfl hb⟩

theorem fnExactRingFlows_proved : Rows.FnExactRingFlowsSaid :=
  OpenClaim.holds_of_wide 3 Try.f3 rfl rfl rfl rfl rfl rfl rfl ⟨rfl, rfl, rfl, rfl, rfl⟩ rfl rfl rfl rfl rfl (by kernel_rfl) Try.func3 (by kernel_rfl)
    (of_decide_eq_true (by kernel_rfl)) (by unfold Func.isWrapper; first | (rw [if_pos (by decide +kernel)]; kernel_rfl) | (rw [if_neg (by decide +kernel)]; exact ⟨rfl, rfl⟩))
    (fun os started H enc _ => fnExactRingFlows_lifted os started H enc)

end Go.Proofs.Ytikjighlnpdgiaa

