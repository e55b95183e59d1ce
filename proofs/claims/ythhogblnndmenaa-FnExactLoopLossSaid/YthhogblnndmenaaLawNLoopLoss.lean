/-
  The law FnExactLoopLoss returns true for every input, and leaves its arguments as they were. No condition.
-/
import Derived.Test.YthhogblnndmenaaLoopL
import Derived.Test.YthhogblnndmenaaPipeM
import Derived.Test.YthhogblnndmenaaMarks
import Derived.Test.YthhogblnndmenaaLiftN
import Derived.Test.YthhogblnndmenaaLiftN5
set_option linter.unusedVariables false
set_option linter.unusedSimpArgs false
namespace Go.Proofs.Ythhogblnndmenaa
open Go.ChangeShapes Go.WideShapes Go.ChangeAt Go.RowKit Go.Joins Go.Deep

set_option maxRecDepth 100000 in
set_option maxHeartbeats 8000000 in
theorem law_LoopLoss (N : Int) (a : Option Addr) (n c : Nat) (l : List Pip) (f1_p : Option Addr) (f1_m f1_d : Nat) (f1 : List Int) (w : World) (h : QAt w a n l) (h_f1 : IntsAt w f1_p f1_m f1) (hmax : n ≤ 9223372036854775807) :
    Calls Try.prog 6 #[.agg #[.int .i64 N, .slice a n c], .slice f1_p f1_m f1_d] w fun e w' => e = .returned (.bool true) ∧ Below w.heap.size w w' := by
  have H_l := hid h
  have H_f1 := hid h_f1
  clear h h_f1
  by_cases hm_f1 : 1048576 < f1_m
  · go_enter Try.func6, Try.ntmps6
    go_wp2
    go_ret
    exact ⟨rfl, by go_grown⟩
  by_cases hn : 1048576 < n
  · go_enter Try.func6, Try.ntmps6
    go_wp2_with fail
    refine (l_szNetwork_no _ _ _ _ _ (by omega) (by omega)).mono ?_
    rintro e w1 ⟨rfl, hb⟩
    go_wp2
    go_ret
    exact ⟨rfl, bstep (by go_grown) hb⟩
  obtain ⟨x, b, hR⟩ : ∃ x b, llossR N l f1 = (x, b) := ⟨_, _, rfl⟩
  have HR := hid hR
  clear hR
  have hx : (b != b) = false := by simp
  have hy : (x != x) = false := by simp
  go_enter Try.func6, Try.ntmps6
  go_wp2_with fail
  refine (l_szNetwork_yes _ _ _ _ _ (by omega)).mono ?_
  rintro e w1 ⟨rfl, hb⟩
  have HB_1 := hid (bstep (by go_grown) hb : Below w.heap.size w w1)
  have B_1 := HB_1
  have S_1 := HB_1.out.size
  have T_1_1 : Hid (w1.heap[w.heap.size]? = some (.cells #[.int .i64 N, .slice a n c] 24 (0, 0))) := hid (by rw [hb.block _ (by simp <;> omega)]; exact heap_alloc_new _ _)
  have Z_1 : w.heap.size < w1.heap.size := (Array.getElem?_eq_some_iff.1 T_1_1.out).1
  have m_1_1_0 : w1.cell? ⟨w.heap.size, 0, none⟩ = some (.int .i64 N) := by rw [cell_of_row w1 _ _ _ _ (0, 0) T_1_1.out]; rfl
  have m_1_1_1 : w1.cell? ⟨w.heap.size, 1, none⟩ = some (.slice a n c) := by rw [cell_of_row w1 _ _ _ _ (0, 0) T_1_1.out]; rfl
  have z_1_1 : w.heap.size < w1.heap.size := (Array.getElem?_eq_some_iff.1 T_1_1.out).1
  clear hb
  go_wp2_with fail
  refine (l_toNetwork _ _ _ _ l _ ((H_l.out.below B_1.out).below (by go_grown)) (by omega)).mono ?_
  rintro e w2 ⟨a1, c1, rfl, o1, hb⟩
  have HB_2 := hid (bstep (by go_grown) hb : Below w1.heap.size w1 w2)
  have B_2 := hid (bstep B_1.out HB_2.out)
  have S_2 := HB_2.out.size
  have T_2_1 := hid ((HB_2.out.block w.heap.size (Array.getElem?_eq_some_iff.1 T_1_1.out).1).trans T_1_1.out)
  clear m_1_1_0 m_1_1_1 z_1_1
  have m_2_1_0 : w2.cell? ⟨w.heap.size, 0, none⟩ = some (.int .i64 N) := by rw [cell_of_row w2 _ _ _ _ (0, 0) T_2_1.out]; rfl
  have m_2_1_1 : w2.cell? ⟨w.heap.size, 1, none⟩ = some (.slice a n c) := by rw [cell_of_row w2 _ _ _ _ (0, 0) T_2_1.out]; rfl
  have z_2_1 : w.heap.size < w2.heap.size := (Array.getElem?_eq_some_iff.1 T_2_1.out).1
  clear hb
  try simp only [World.size_alloc] at o1
  have O_s_l := hid o1
  clear o1
  go_wp2_with fail
  refine (l_toIntS _ _ _ f1 _ ((H_f1.out.below B_2.out).below (by go_grown)) (by omega)).mono ?_
  rintro e w3 ⟨a2, c2, rfl, o2, hb⟩
  have HB_3 := hid (bstep (by go_grown) hb : Below w2.heap.size w2 w3)
  have B_3 := hid (bstep B_2.out HB_3.out)
  have S_3 := HB_3.out.size
  have T_3_1 := hid ((HB_3.out.block w.heap.size (Array.getElem?_eq_some_iff.1 T_2_1.out).1).trans T_2_1.out)
  clear m_2_1_0 m_2_1_1 z_2_1
  have m_3_1_0 : w3.cell? ⟨w.heap.size, 0, none⟩ = some (.int .i64 N) := by rw [cell_of_row w3 _ _ _ _ (0, 0) T_3_1.out]; rfl
  have m_3_1_1 : w3.cell? ⟨w.heap.size, 1, none⟩ = some (.slice a n c) := by rw [cell_of_row w3 _ _ _ _ (0, 0) T_3_1.out]; rfl
  have z_3_1 : w.heap.size < w3.heap.size := (Array.getElem?_eq_some_iff.1 T_3_1.out).1
  clear hb
  try simp only [World.size_alloc] at o2
  have O_s_f1 := hid o2
  clear o2
  have O_s_l_3 := hid (O_s_l.out.below HB_3.out)
  go_wp2_with fail
  refine (s_LoopLoss N _ _ _ _ _ _ l f1 _ ((OwnS.at qf_len O_s_l_3.out).below (by go_grown)) (O_s_f1.out.at.below (by go_grown)) (by omega) (by omega) (own_capQ O_s_l_3.out) x b HR.out).mono ?_
  rintro e w4 ⟨rfl, hb⟩
  have HB_4 := hid (bstep (by go_grown) hb : Below w3.heap.size w3 w4)
  have B_4 := hid (bstep B_3.out HB_4.out)
  have S_4 := HB_4.out.size
  have T_4_1 := hid ((HB_4.out.block w.heap.size (Array.getElem?_eq_some_iff.1 T_3_1.out).1).trans T_3_1.out)
  clear m_3_1_0 m_3_1_1 z_3_1
  have m_4_1_0 : w4.cell? ⟨w.heap.size, 0, none⟩ = some (.int .i64 N) := by rw [cell_of_row w4 _ _ _ _ (0, 0) T_4_1.out]; rfl
  have m_4_1_1 : w4.cell? ⟨w.heap.size, 1, none⟩ = some (.slice a n c) := by rw [cell_of_row w4 _ _ _ _ (0, 0) T_4_1.out]; rfl
  have z_4_1 : w.heap.size < w4.heap.size := (Array.getElem?_eq_some_iff.1 T_4_1.out).1
  clear hb
  go_wp2_with fail
  refine (l_toNetwork _ _ _ _ l _ ((H_l.out.below B_4.out).below (by go_grown)) (by omega)).mono ?_
  rintro e w5 ⟨a3, c3, rfl, o3, hb⟩
  have HB_5 := hid (bstep (by go_grown) hb : Below w4.heap.size w4 w5)
  have B_5 := hid (bstep B_4.out HB_5.out)
  have S_5 := HB_5.out.size
  have T_5_1 := hid ((HB_5.out.block w.heap.size (Array.getElem?_eq_some_iff.1 T_4_1.out).1).trans T_4_1.out)
  clear m_4_1_0 m_4_1_1 z_4_1
  have m_5_1_0 : w5.cell? ⟨w.heap.size, 0, none⟩ = some (.int .i64 N) := by rw [cell_of_row w5 _ _ _ _ (0, 0) T_5_1.out]; rfl
  have m_5_1_1 : w5.cell? ⟨w.heap.size, 1, none⟩ = some (.slice a n c) := by rw [cell_of_row w5 _ _ _ _ (0, 0) T_5_1.out]; rfl
  have z_5_1 : w.heap.size < w5.heap.size := (Array.getElem?_eq_some_iff.1 T_5_1.out).1
  clear hb
  try simp only [World.size_alloc] at o3
  have O_x_l := hid o3
  clear o3
  go_wp2_with fail
  refine (l_toIntS _ _ _ f1 _ ((H_f1.out.below B_5.out).below (by go_grown)) (by omega)).mono ?_
  rintro e w6 ⟨a4, c4, rfl, o4, hb⟩
  have HB_6 := hid (bstep (by go_grown) hb : Below w5.heap.size w5 w6)
  have B_6 := hid (bstep B_5.out HB_6.out)
  have S_6 := HB_6.out.size
  have T_6_1 := hid ((HB_6.out.block w.heap.size (Array.getElem?_eq_some_iff.1 T_5_1.out).1).trans T_5_1.out)
  have T_6_2 : Hid (w6.heap[w5.heap.size]? = some (.cells #[.int .i64 N, .slice a3 n c3] 31 (0, 0))) := hid (by rw [hb.block _ (by simp <;> omega)]; exact heap_alloc_new _ _)
  have Z_2 : w5.heap.size < w6.heap.size := (Array.getElem?_eq_some_iff.1 T_6_2.out).1
  clear m_5_1_0 m_5_1_1 z_5_1
  have m_6_1_0 : w6.cell? ⟨w.heap.size, 0, none⟩ = some (.int .i64 N) := by rw [cell_of_row w6 _ _ _ _ (0, 0) T_6_1.out]; rfl
  have m_6_1_1 : w6.cell? ⟨w.heap.size, 1, none⟩ = some (.slice a n c) := by rw [cell_of_row w6 _ _ _ _ (0, 0) T_6_1.out]; rfl
  have z_6_1 : w.heap.size < w6.heap.size := (Array.getElem?_eq_some_iff.1 T_6_1.out).1
  have m_6_2_0 : w6.cell? ⟨w5.heap.size, 0, none⟩ = some (.int .i64 N) := by rw [cell_of_row w6 _ _ _ _ (0, 0) T_6_2.out]; rfl
  have m_6_2_1 : w6.cell? ⟨w5.heap.size, 1, none⟩ = some (.slice a3 n c3) := by rw [cell_of_row w6 _ _ _ _ (0, 0) T_6_2.out]; rfl
  have z_6_2 : w5.heap.size < w6.heap.size := (Array.getElem?_eq_some_iff.1 T_6_2.out).1
  clear hb
  try simp only [World.size_alloc] at o4
  have O_x_f1 := hid o4
  clear o4
  have O_x_l_6 := hid (O_x_l.out.below HB_6.out)
  go_wp2_with fail
  refine (i_LoopLoss N _ _ _ _ _ _ l f1 _ ((OwnS.at qf_len O_x_l_6.out).below (by go_grown)) (O_x_f1.out.at.below (by go_grown)) (by omega) (by omega) x b HR.out).mono ?_
  rintro e w7 ⟨rfl, hb⟩
  have HB_7 := hid (bstep (by go_grown) hb : Below w6.heap.size w6 w7)
  have B_7 := hid (bstep B_6.out HB_7.out)
  have S_7 := HB_7.out.size
  have T_7_1 := hid ((HB_7.out.block w.heap.size (Array.getElem?_eq_some_iff.1 T_6_1.out).1).trans T_6_1.out)
  have T_7_2 := hid ((HB_7.out.block w5.heap.size (Array.getElem?_eq_some_iff.1 T_6_2.out).1).trans T_6_2.out)
  clear m_6_1_0 m_6_1_1 z_6_1 m_6_2_0 m_6_2_1 z_6_2
  have m_7_1_0 : w7.cell? ⟨w.heap.size, 0, none⟩ = some (.int .i64 N) := by rw [cell_of_row w7 _ _ _ _ (0, 0) T_7_1.out]; rfl
  have m_7_1_1 : w7.cell? ⟨w.heap.size, 1, none⟩ = some (.slice a n c) := by rw [cell_of_row w7 _ _ _ _ (0, 0) T_7_1.out]; rfl
  have z_7_1 : w.heap.size < w7.heap.size := (Array.getElem?_eq_some_iff.1 T_7_1.out).1
  have m_7_2_0 : w7.cell? ⟨w5.heap.size, 0, none⟩ = some (.int .i64 N) := by rw [cell_of_row w7 _ _ _ _ (0, 0) T_7_2.out]; rfl
  have m_7_2_1 : w7.cell? ⟨w5.heap.size, 1, none⟩ = some (.slice a3 n c3) := by rw [cell_of_row w7 _ _ _ _ (0, 0) T_7_2.out]; rfl
  have z_7_2 : w5.heap.size < w7.heap.size := (Array.getElem?_eq_some_iff.1 T_7_2.out).1
  clear hb
  have HA := hid (H_l.out.below B_7.out : QAt w7 _ _ _)
  have O_x_l_7 := hid (O_x_l_6.out.below HB_7.out)
  have HX := hid (OwnS.at qf_len O_x_l_7.out)
  go_upto_region 13 with fail
  have q0 : ∀ wy wz : World, Below wy.heap.size wy wz → (wy.cell? ⟨w.heap.size, 0, none⟩ = some (.int .i64 N) ∧ wy.cell? ⟨w.heap.size, 1, none⟩ = some (.slice a n c) ∧ wy.cell? ⟨w5.heap.size, 0, none⟩ = some (.int .i64 N) ∧ wy.cell? ⟨w5.heap.size, 1, none⟩ = some (.slice a3 n c3)) → (wz.cell? ⟨w.heap.size, 0, none⟩ = some (.int .i64 N) ∧ wz.cell? ⟨w.heap.size, 1, none⟩ = some (.slice a n c) ∧ wz.cell? ⟨w5.heap.size, 0, none⟩ = some (.int .i64 N) ∧ wz.cell? ⟨w5.heap.size, 1, none⟩ = some (.slice a3 n c3)) :=
    fun wy wz hb ⟨z0, z1, z2, z3⟩ => ⟨(hb.cell (World.block_lt_of_cell? wy _ z0)).trans z0, (hb.cell (World.block_lt_of_cell? wy _ z1)).trans z1, (hb.cell (World.block_lt_of_cell? wy _ z2)).trans z2, (hb.cell (World.block_lt_of_cell? wy _ z3)).trans z3⟩
  have Q0 := hid q0
  clear q0
  go_cut [50] (fun s wx => s = .bool false ∧ Hid (Below w7.heap.size w7 wx))
  case first =>
    go_region_held3 (fun w' => (w'.cell? ⟨w.heap.size, 0, none⟩ = some (.int .i64 N) ∧ w'.cell? ⟨w.heap.size, 1, none⟩ = some (.slice a n c) ∧ w'.cell? ⟨w5.heap.size, 0, none⟩ = some (.int .i64 N) ∧ w'.cell? ⟨w5.heap.size, 1, none⟩ = some (.slice a3 n c3))) (first | go_keep | exact Q0.out _ _ (by assumption) (by first | assumption | (refine ⟨?_, ?_, ?_, ?_⟩ <;> assumption) | simp [*]))
      (first | (go_at_call 16; refine (l_toNetwork _ _ _ _ _ _ (HA.out.below (by go_grown)) (by omega)).mono ?_; rintro e wA ⟨aA, cA, rfl, oA, hbA⟩; obtain ⟨hcA, hfA⟩ := bcell hbA) | (go_at_call 20; refine (l_eqNetwork _ _ _ _ _ _ _ _ (HX.out.below (bstep (by go_grown) hbA)) (OwnS.at qf_len oA) (by omega)).mono ?_; rintro e wB ⟨rfl, hbB⟩; obtain ⟨hcB, hfB⟩ := bcell hbB))
    all_goals (go_wp2_with fail; go_meet)
    all_goals refine ⟨rfl, ?_⟩
    all_goals exact bstep (bstep ((Below.refl _ _).drew : Below w7.heap.size w7 _) hbA) hbB
  case rest =>
    obtain ⟨rfl, hx⟩ := hcut
    have HB_8 := hx
    have B_8 := hid (bstep B_7.out HB_8.out)
    have S_8 := HB_8.out.size
    have T_8_1 := hid ((HB_8.out.block w.heap.size (Array.getElem?_eq_some_iff.1 T_7_1.out).1).trans T_7_1.out)
    have T_8_2 := hid ((HB_8.out.block w5.heap.size (Array.getElem?_eq_some_iff.1 T_7_2.out).1).trans T_7_2.out)
    clear m_7_1_0 m_7_1_1 z_7_1 m_7_2_0 m_7_2_1 z_7_2
    have m_8_1_0 : wc.cell? ⟨w.heap.size, 0, none⟩ = some (.int .i64 N) := by rw [cell_of_row wc _ _ _ _ (0, 0) T_8_1.out]; rfl
    have m_8_1_1 : wc.cell? ⟨w.heap.size, 1, none⟩ = some (.slice a n c) := by rw [cell_of_row wc _ _ _ _ (0, 0) T_8_1.out]; rfl
    have z_8_1 : w.heap.size < wc.heap.size := (Array.getElem?_eq_some_iff.1 T_8_1.out).1
    have m_8_2_0 : wc.cell? ⟨w5.heap.size, 0, none⟩ = some (.int .i64 N) := by rw [cell_of_row wc _ _ _ _ (0, 0) T_8_2.out]; rfl
    have m_8_2_1 : wc.cell? ⟨w5.heap.size, 1, none⟩ = some (.slice a3 n c3) := by rw [cell_of_row wc _ _ _ _ (0, 0) T_8_2.out]; rfl
    have z_8_2 : w5.heap.size < wc.heap.size := (Array.getElem?_eq_some_iff.1 T_8_2.out).1
    go_wp2_with fail
    refine (l_toIntS _ _ _ f1 _ ((H_f1.out.below B_8.out).below (by go_grown)) (by omega)).mono ?_
    rintro e w9 ⟨a5, c5, rfl, o5, hb⟩
    have HB_9 := hid (bstep (by go_grown) hb : Below wc.heap.size wc w9)
    have B_9 := hid (bstep B_8.out HB_9.out)
    have S_9 := HB_9.out.size
    have T_9_1 := hid ((HB_9.out.block w.heap.size (Array.getElem?_eq_some_iff.1 T_8_1.out).1).trans T_8_1.out)
    have T_9_2 := hid ((HB_9.out.block w5.heap.size (Array.getElem?_eq_some_iff.1 T_8_2.out).1).trans T_8_2.out)
    clear m_8_1_0 m_8_1_1 z_8_1 m_8_2_0 m_8_2_1 z_8_2
    have m_9_1_0 : w9.cell? ⟨w.heap.size, 0, none⟩ = some (.int .i64 N) := by rw [cell_of_row w9 _ _ _ _ (0, 0) T_9_1.out]; rfl
    have m_9_1_1 : w9.cell? ⟨w.heap.size, 1, none⟩ = some (.slice a n c) := by rw [cell_of_row w9 _ _ _ _ (0, 0) T_9_1.out]; rfl
    have z_9_1 : w.heap.size < w9.heap.size := (Array.getElem?_eq_some_iff.1 T_9_1.out).1
    have m_9_2_0 : w9.cell? ⟨w5.heap.size, 0, none⟩ = some (.int .i64 N) := by rw [cell_of_row w9 _ _ _ _ (0, 0) T_9_2.out]; rfl
    have m_9_2_1 : w9.cell? ⟨w5.heap.size, 1, none⟩ = some (.slice a3 n c3) := by rw [cell_of_row w9 _ _ _ _ (0, 0) T_9_2.out]; rfl
    have z_9_2 : w5.heap.size < w9.heap.size := (Array.getElem?_eq_some_iff.1 T_9_2.out).1
    clear hb
    try simp only [World.size_alloc] at o5
    have O_y_f1 := hid o5
    clear o5
    have O_x_f1_9 := hid (((O_x_f1.out.below HB_7.out).below HB_8.out).below HB_9.out)
    go_wp2_with fail
    refine (l_eqIntS _ _ _ _ _ _ f1 f1 _ (O_x_f1_9.out.at.below (by go_grown)) (O_y_f1.out.at.below (by go_grown)) (by omega) (by omega)).mono ?_
    rintro e w10 ⟨rfl, hb⟩
    have HB_10 := hid (bstep (by go_grown) hb : Below w9.heap.size w9 w10)
    have B_10 := hid (bstep B_9.out HB_10.out)
    have S_10 := HB_10.out.size
    have T_10_1 := hid ((HB_10.out.block w.heap.size (Array.getElem?_eq_some_iff.1 T_9_1.out).1).trans T_9_1.out)
    have T_10_2 := hid ((HB_10.out.block w5.heap.size (Array.getElem?_eq_some_iff.1 T_9_2.out).1).trans T_9_2.out)
    clear m_9_1_0 m_9_1_1 z_9_1 m_9_2_0 m_9_2_1 z_9_2
    have m_10_1_0 : w10.cell? ⟨w.heap.size, 0, none⟩ = some (.int .i64 N) := by rw [cell_of_row w10 _ _ _ _ (0, 0) T_10_1.out]; rfl
    have m_10_1_1 : w10.cell? ⟨w.heap.size, 1, none⟩ = some (.slice a n c) := by rw [cell_of_row w10 _ _ _ _ (0, 0) T_10_1.out]; rfl
    have z_10_1 : w.heap.size < w10.heap.size := (Array.getElem?_eq_some_iff.1 T_10_1.out).1
    have m_10_2_0 : w10.cell? ⟨w5.heap.size, 0, none⟩ = some (.int .i64 N) := by rw [cell_of_row w10 _ _ _ _ (0, 0) T_10_2.out]; rfl
    have m_10_2_1 : w10.cell? ⟨w5.heap.size, 1, none⟩ = some (.slice a3 n c3) := by rw [cell_of_row w10 _ _ _ _ (0, 0) T_10_2.out]; rfl
    have z_10_2 : w5.heap.size < w10.heap.size := (Array.getElem?_eq_some_iff.1 T_10_2.out).1
    clear hb
    go_wp2
    go_ret
    exact ⟨rfl, B_10.out⟩

set_option maxRecDepth 100000 in
theorem fnExactLoopLoss_lifted (os : Os) (started : os.Started) (H : Type) (enc : TypeId × Value → H) :
    ReturnsInHanded {} Try.checked os 6 .any (Rows.fnExactLoopLossSpec.pre6 enc Try.prog Try.f6 Rows.fnExactLoopLossRow.domain false) (Rows.fnExactLoopLossSpec.post enc Try.prog Try.f6 false true false false) := by
  refine returnsInHanded_of_change (C := Try.checked) Try.own started (by kernel_rfl) Try.func6
    (ChangeSpec.witness6 (enc := enc) (C := Try.checked) false ⟨#[], #[.agg #[.int .i64 0, .slice none 0 0], .slice none 0 0], []⟩ 8 (by kernel_rfl) (by kernel_rfl) (by kernel_rfl) (by kernel_rfl)) ?_
  intro W base args ds gs before hval0 hW _ _
  have hval : ∀ (j : Nat) t v, Try.f6.params[j]? = some t → args[j]? = some v → Value.okWide Try.prog W .any base t v := hval0
  have hW' : DataW.Whole enc Try.prog Try.f6.params.toList Rows.fnExactLoopLossSpec.vars false W args.toList ds gs before := hW
  obtain ⟨p, q, hA0, hV, rfl, hfz, hnd⟩ := hW
  have hlt : ∀ x ∈ p, x.block < W.heap.size := fun x hx => hW'.lt x (by simp [hx])
  have hA : DataW.TrodAll enc Try.prog W 0 (fun _ => true) true Try.f6.params.toList args.toList ds p := hA0
  rw [Try.params6] at hA hval
  clear hA0 hval0
  obtain ⟨v0, v1, d0, d1, p0, p1, rfl, rfl, rfl, h0, h1⟩ := trodAll_two hA
  obtain ⟨rfl, rfl⟩ := trodVars_none hV
  obtain ⟨N0, x0, n0, k0, l0, rfl, g0, m0⟩ := open_net (hval 0 24 v0 rfl rfl) h0
  obtain ⟨x1, n1, k1, l1, rfl, g1, b1⟩ := open_ints_at (hval 1 25 v1 rfl rfl) h1
  refine (law_LoopLoss N0 x0 n0 k0 l0 x1 n1 k1 l1 W g0 g1 m0).mono fun e W' ⟨he, hb⟩ => ?_
  subst he
  exact ⟨_, rfl, law_post rfl rfl (by kernel_rfl) hW' rfl rfl rfl hb⟩

theorem fnExactLoopLoss_proved : Rows.FnExactLoopLossSaid :=
  OpenClaim.holds_of_wide 6 Try.f6 rfl rfl rfl rfl rfl rfl rfl ⟨rfl, rfl, rfl, rfl, rfl⟩ rfl rfl rfl rfl rfl (by kernel_rfl) Try.func6 (by kernel_rfl)
    (of_decide_eq_true (by kernel_rfl)) (by unfold Func.isWrapper; first | (rw [if_pos (by decide +kernel)]; kernel_rfl) | (rw [if_neg (by decide +kernel)]; exact ⟨rfl, rfl⟩))
    (fun os started H enc _ => fnExactLoopLoss_lifted os started H enc)

end Go.Proofs.Ythhogblnndmenaa
