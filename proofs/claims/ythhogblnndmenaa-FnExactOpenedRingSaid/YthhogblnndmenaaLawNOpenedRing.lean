/-
  The law FnExactOpenedRing returns true for every input, and leaves its arguments as they were. No condition.
-/
import Derived.Test.YthhogblnndmenaaOpened
import Derived.Test.YthhogblnndmenaaPipeM
import Derived.Test.YthhogblnndmenaaMarks
import Derived.Test.YthhogblnndmenaaLiftN
set_option linter.unusedVariables false
set_option linter.unusedSimpArgs false
namespace Go.Proofs.Ythhogblnndmenaa
open Go.ChangeShapes Go.WideShapes Go.ChangeAt Go.RowKit Go.Joins Go.Deep

set_option maxRecDepth 100000 in
set_option maxHeartbeats 4000000 in
theorem law_OpenedRing (N : Int) (a : Option Addr) (n c : Nat) (l : List Pip) (q : Int) (w : World) (h : QAt w a n l) (hmax : n ≤ 9223372036854775807) :
    Calls Try.prog 7 #[.agg #[.int .i64 N, .slice a n c], .int .i64 q] w fun e w' => e = .returned (.bool true) ∧ Below w.heap.size w w' := by
  have H_l := hid h
  clear h
  by_cases hn : 1048576 < n
  · go_enter Try.func7, Try.ntmps7
    go_wp2_with fail
    refine (l_szNetwork_no _ _ _ _ _ (by omega) (by omega)).mono ?_
    rintro e w1 ⟨rfl, hb⟩
    go_wp2
    go_ret
    exact ⟨rfl, bstep (by go_grown) hb⟩
  obtain ⟨x, R, b, hR⟩ : ∃ x R b, openR N l q = (x, R, b) := ⟨_, _, _, rfl⟩
  have HR := hid hR
  have hRl : R.length ≤ 1000 := openR_len hR
  clear hR
  have hx : (b != b) = false := by simp
  have hy : ((1 + 4 * (R.length : Int)) != (1 + 4 * (R.length : Int))) = false := by simp
  go_enter Try.func7, Try.ntmps7
  go_wp2_with fail
  refine (l_szNetwork_yes _ _ _ _ _ (by omega)).mono ?_
  rintro e w1 ⟨rfl, hb⟩
  have HB_1 := hid (bstep (by go_grown) hb : Below w.heap.size w w1)
  have B_1 := HB_1
  have S_1 := HB_1.out.size
  have T_1_1 : Hid (w1.heap[w.heap.size]? = some (.cells #[.int .i64 N, .slice a n c] 24 (0, 0))) := hid (by rw [hb.block _ (by simp <;> omega)]; exact heap_alloc_new _ _)
  have Z_1 : w.heap.size < w1.heap.size := (Array.getElem?_eq_some_iff.1 T_1_1.out).1
  have m_1_1_0 : w1.cell? ⟨w.heap.size, 0, none⟩ = some (.int .i64 N) := by rw [cell_of_row w1 _ _ _ _ (0, 0) T_1_1.out]; rfl
  have m_1_1_1 : w1.cell? ⟨w.heap.size, 1, none⟩ = some (.slice a n c) := by rw [cell_of_row w1 _ _ _ _ (0, 0) T_1_1.out]; rfl
  have z_1_1 : w.heap.size < w1.heap.size := (Array.getElem?_eq_some_iff.1 T_1_1.out).1
  clear hb
  go_wp2_with fail
  refine (l_toNetwork _ _ _ _ l _ ((H_l.out.below B_1.out).below (by go_grown)) (by omega)).mono ?_
  rintro e w2 ⟨a1, c1, rfl, o1, hb⟩
  have HB_2 := hid (bstep (by go_grown) hb : Below w1.heap.size w1 w2)
  have B_2 := hid (bstep B_1.out HB_2.out)
  have S_2 := HB_2.out.size
  have T_2_1 := hid ((HB_2.out.block w.heap.size (Array.getElem?_eq_some_iff.1 T_1_1.out).1).trans T_1_1.out)
  clear m_1_1_0 m_1_1_1 z_1_1
  have m_2_1_0 : w2.cell? ⟨w.heap.size, 0, none⟩ = some (.int .i64 N) := by rw [cell_of_row w2 _ _ _ _ (0, 0) T_2_1.out]; rfl
  have m_2_1_1 : w2.cell? ⟨w.heap.size, 1, none⟩ = some (.slice a n c) := by rw [cell_of_row w2 _ _ _ _ (0, 0) T_2_1.out]; rfl
  have z_2_1 : w.heap.size < w2.heap.size := (Array.getElem?_eq_some_iff.1 T_2_1.out).1
  clear hb
  try simp only [World.size_alloc] at o1
  have O_s1 := hid o1
  clear o1
  go_wp2_with fail
  refine (s_OpenedRing' N q _ _ _ l _ ((OwnS.at qf_len O_s1.out).below (by go_grown)) (by omega) (own_capQ O_s1.out) x R b HR.out).mono ?_
  rintro e w3 ⟨a2, c2, rfl, o2, hb⟩
  have HB_3 := hid (bstep (by go_grown) hb : Below w2.heap.size w2 w3)
  have B_3 := hid (bstep B_2.out HB_3.out)
  have S_3 := HB_3.out.size
  have T_3_1 := hid ((HB_3.out.block w.heap.size (Array.getElem?_eq_some_iff.1 T_2_1.out).1).trans T_2_1.out)
  clear m_2_1_0 m_2_1_1 z_2_1
  have m_3_1_0 : w3.cell? ⟨w.heap.size, 0, none⟩ = some (.int .i64 N) := by rw [cell_of_row w3 _ _ _ _ (0, 0) T_3_1.out]; rfl
  have m_3_1_1 : w3.cell? ⟨w.heap.size, 1, none⟩ = some (.slice a n c) := by rw [cell_of_row w3 _ _ _ _ (0, 0) T_3_1.out]; rfl
  have z_3_1 : w.heap.size < w3.heap.size := (Array.getElem?_eq_some_iff.1 T_3_1.out).1
  clear hb
  try simp only [World.size_alloc] at o2
  have O_w0 := hid o2
  clear o2
  go_wp2_with fail
  refine (l_toNetwork _ _ _ _ l _ ((H_l.out.below B_3.out).below (by go_grown)) (by omega)).mono ?_
  rintro e w4 ⟨a3, c3, rfl, o3, hb⟩
  have HB_4 := hid (bstep (by go_grown) hb : Below w3.heap.size w3 w4)
  have B_4 := hid (bstep B_3.out HB_4.out)
  have S_4 := HB_4.out.size
  have T_4_1 := hid ((HB_4.out.block w.heap.size (Array.getElem?_eq_some_iff.1 T_3_1.out).1).trans T_3_1.out)
  have T_4_2 : Hid (w4.heap[w3.heap.size]? = some (.cells #[.int .i64 x, .slice a2 R.length c2] 31 (0, 0))) := hid (by rw [hb.block _ (by simp <;> omega)]; exact heap_alloc_new _ _)
  have Z_2 : w3.heap.size < w4.heap.size := (Array.getElem?_eq_some_iff.1 T_4_2.out).1
  clear m_3_1_0 m_3_1_1 z_3_1
  have m_4_1_0 : w4.cell? ⟨w.heap.size, 0, none⟩ = some (.int .i64 N) := by rw [cell_of_row w4 _ _ _ _ (0, 0) T_4_1.out]; rfl
  have m_4_1_1 : w4.cell? ⟨w.heap.size, 1, none⟩ = some (.slice a n c) := by rw [cell_of_row w4 _ _ _ _ (0, 0) T_4_1.out]; rfl
  have z_4_1 : w.heap.size < w4.heap.size := (Array.getElem?_eq_some_iff.1 T_4_1.out).1
  have m_4_2_0 : w4.cell? ⟨w3.heap.size, 0, none⟩ = some (.int .i64 x) := by rw [cell_of_row w4 _ _ _ _ (0, 0) T_4_2.out]; rfl
  have m_4_2_1 : w4.cell? ⟨w3.heap.size, 1, none⟩ = some (.slice a2 R.length c2) := by rw [cell_of_row w4 _ _ _ _ (0, 0) T_4_2.out]; rfl
  have z_4_2 : w3.heap.size < w4.heap.size := (Array.getElem?_eq_some_iff.1 T_4_2.out).1
  clear hb
  try simp only [World.size_alloc] at o3
  have O_x0 := hid o3
  clear o3
  go_wp2_with fail
  refine (i_OpenedRing' N q _ _ _ l _ ((OwnS.at qf_len O_x0.out).below (by go_grown)) (by omega) x R b HR.out).mono ?_
  rintro e w5 ⟨a4, c4, rfl, o4, hb⟩
  have HB_5 := hid (bstep (by go_grown) hb : Below w4.heap.size w4 w5)
  have B_5 := hid (bstep B_4.out HB_5.out)
  have S_5 := HB_5.out.size
  have T_5_1 := hid ((HB_5.out.block w.heap.size (Array.getElem?_eq_some_iff.1 T_4_1.out).1).trans T_4_1.out)
  have T_5_2 := hid ((HB_5.out.block w3.heap.size (Array.getElem?_eq_some_iff.1 T_4_2.out).1).trans T_4_2.out)
  have T_5_3 : Hid (w5.heap[w4.heap.size]? = some (.cells #[.int .i64 N, .slice a3 n c3] 31 (0, 0))) := hid (by rw [hb.block _ (by simp <;> omega)]; exact heap_alloc_new _ _)
  have Z_3 : w4.heap.size < w5.heap.size := (Array.getElem?_eq_some_iff.1 T_5_3.out).1
  clear m_4_1_0 m_4_1_1 z_4_1 m_4_2_0 m_4_2_1 z_4_2
  have m_5_1_0 : w5.cell? ⟨w.heap.size, 0, none⟩ = some (.int .i64 N) := by rw [cell_of_row w5 _ _ _ _ (0, 0) T_5_1.out]; rfl
  have m_5_1_1 : w5.cell? ⟨w.heap.size, 1, none⟩ = some (.slice a n c) := by rw [cell_of_row w5 _ _ _ _ (0, 0) T_5_1.out]; rfl
  have z_5_1 : w.heap.size < w5.heap.size := (Array.getElem?_eq_some_iff.1 T_5_1.out).1
  have m_5_2_0 : w5.cell? ⟨w3.heap.size, 0, none⟩ = some (.int .i64 x) := by rw [cell_of_row w5 _ _ _ _ (0, 0) T_5_2.out]; rfl
  have m_5_2_1 : w5.cell? ⟨w3.heap.size, 1, none⟩ = some (.slice a2 R.length c2) := by rw [cell_of_row w5 _ _ _ _ (0, 0) T_5_2.out]; rfl
  have z_5_2 : w3.heap.size < w5.heap.size := (Array.getElem?_eq_some_iff.1 T_5_2.out).1
  have m_5_3_0 : w5.cell? ⟨w4.heap.size, 0, none⟩ = some (.int .i64 N) := by rw [cell_of_row w5 _ _ _ _ (0, 0) T_5_3.out]; rfl
  have m_5_3_1 : w5.cell? ⟨w4.heap.size, 1, none⟩ = some (.slice a3 n c3) := by rw [cell_of_row w5 _ _ _ _ (0, 0) T_5_3.out]; rfl
  have z_5_3 : w4.heap.size < w5.heap.size := (Array.getElem?_eq_some_iff.1 T_5_3.out).1
  clear hb
  try simp only [World.size_alloc] at o4
  have O_g0 := hid o4
  clear o4
  have O_w0_5 := hid ((O_w0.out.below HB_4.out).below HB_5.out)
  go_wp2_with fail
  refine (l_eqNetwork x _ _ _ _ _ R _ ((OwnS.at qf_len O_g0.out).below (by go_grown)) ((OwnS.at qf_len O_w0_5.out).below (by go_grown)) (by omega)).mono ?_
  rintro e w6 ⟨rfl, hb⟩
  have HB_6 := hid (bstep (by go_grown) hb : Below w5.heap.size w5 w6)
  have B_6 := hid (bstep B_5.out HB_6.out)
  have S_6 := HB_6.out.size
  have T_6_1 := hid ((HB_6.out.block w.heap.size (Array.getElem?_eq_some_iff.1 T_5_1.out).1).trans T_5_1.out)
  have T_6_2 := hid ((HB_6.out.block w3.heap.size (Array.getElem?_eq_some_iff.1 T_5_2.out).1).trans T_5_2.out)
  have T_6_3 := hid ((HB_6.out.block w4.heap.size (Array.getElem?_eq_some_iff.1 T_5_3.out).1).trans T_5_3.out)
  have T_6_4 : Hid (w6.heap[w5.heap.size]? = some (.cells #[.int .i64 x, .slice a4 R.length c4] 31 (0, 0))) := hid (by rw [hb.block _ (by simp <;> omega)]; exact heap_alloc_new _ _)
  have Z_4 : w5.heap.size < w6.heap.size := (Array.getElem?_eq_some_iff.1 T_6_4.out).1
  clear m_5_1_0 m_5_1_1 z_5_1 m_5_2_0 m_5_2_1 z_5_2 m_5_3_0 m_5_3_1 z_5_3
  have m_6_1_0 : w6.cell? ⟨w.heap.size, 0, none⟩ = some (.int .i64 N) := by rw [cell_of_row w6 _ _ _ _ (0, 0) T_6_1.out]; rfl
  have m_6_1_1 : w6.cell? ⟨w.heap.size, 1, none⟩ = some (.slice a n c) := by rw [cell_of_row w6 _ _ _ _ (0, 0) T_6_1.out]; rfl
  have z_6_1 : w.heap.size < w6.heap.size := (Array.getElem?_eq_some_iff.1 T_6_1.out).1
  have m_6_2_0 : w6.cell? ⟨w3.heap.size, 0, none⟩ = some (.int .i64 x) := by rw [cell_of_row w6 _ _ _ _ (0, 0) T_6_2.out]; rfl
  have m_6_2_1 : w6.cell? ⟨w3.heap.size, 1, none⟩ = some (.slice a2 R.length c2) := by rw [cell_of_row w6 _ _ _ _ (0, 0) T_6_2.out]; rfl
  have z_6_2 : w3.heap.size < w6.heap.size := (Array.getElem?_eq_some_iff.1 T_6_2.out).1
  have m_6_3_0 : w6.cell? ⟨w4.heap.size, 0, none⟩ = some (.int .i64 N) := by rw [cell_of_row w6 _ _ _ _ (0, 0) T_6_3.out]; rfl
  have m_6_3_1 : w6.cell? ⟨w4.heap.size, 1, none⟩ = some (.slice a3 n c3) := by rw [cell_of_row w6 _ _ _ _ (0, 0) T_6_3.out]; rfl
  have z_6_3 : w4.heap.size < w6.heap.size := (Array.getElem?_eq_some_iff.1 T_6_3.out).1
  have m_6_4_0 : w6.cell? ⟨w5.heap.size, 0, none⟩ = some (.int .i64 x) := by rw [cell_of_row w6 _ _ _ _ (0, 0) T_6_4.out]; rfl
  have m_6_4_1 : w6.cell? ⟨w5.heap.size, 1, none⟩ = some (.slice a4 R.length c4) := by rw [cell_of_row w6 _ _ _ _ (0, 0) T_6_4.out]; rfl
  have z_6_4 : w5.heap.size < w6.heap.size := (Array.getElem?_eq_some_iff.1 T_6_4.out).1
  clear hb
  have HA := hid (H_l.out.below B_6.out : QAt w6 _ _ _)
  have O_x0_6 := hid ((O_x0.out.below HB_5.out).below HB_6.out)
  have HX := hid (OwnS.at qf_len O_x0_6.out)
  go_upto_region 10 with fail
  have q0 : ∀ wy wz : World, Below wy.heap.size wy wz → (wy.cell? ⟨w.heap.size, 0, none⟩ = some (.int .i64 N) ∧ wy.cell? ⟨w.heap.size, 1, none⟩ = some (.slice a n c) ∧ wy.cell? ⟨w3.heap.size, 0, none⟩ = some (.int .i64 x) ∧ wy.cell? ⟨w3.heap.size, 1, none⟩ = some (.slice a2 R.length c2) ∧ wy.cell? ⟨w4.heap.size, 0, none⟩ = some (.int .i64 N) ∧ wy.cell? ⟨w4.heap.size, 1, none⟩ = some (.slice a3 n c3) ∧ wy.cell? ⟨w5.heap.size, 0, none⟩ = some (.int .i64 x) ∧ wy.cell? ⟨w5.heap.size, 1, none⟩ = some (.slice a4 R.length c4)) → (wz.cell? ⟨w.heap.size, 0, none⟩ = some (.int .i64 N) ∧ wz.cell? ⟨w.heap.size, 1, none⟩ = some (.slice a n c) ∧ wz.cell? ⟨w3.heap.size, 0, none⟩ = some (.int .i64 x) ∧ wz.cell? ⟨w3.heap.size, 1, none⟩ = some (.slice a2 R.length c2) ∧ wz.cell? ⟨w4.heap.size, 0, none⟩ = some (.int .i64 N) ∧ wz.cell? ⟨w4.heap.size, 1, none⟩ = some (.slice a3 n c3) ∧ wz.cell? ⟨w5.heap.size, 0, none⟩ = some (.int .i64 x) ∧ wz.cell? ⟨w5.heap.size, 1, none⟩ = some (.slice a4 R.length c4)) :=
    fun wy wz hb ⟨z0, z1, z2, z3, z4, z5, z6, z7⟩ => ⟨(hb.cell (World.block_lt_of_cell? wy _ z0)).trans z0, (hb.cell (World.block_lt_of_cell? wy _ z1)).trans z1, (hb.cell (World.block_lt_of_cell? wy _ z2)).trans z2, (hb.cell (World.block_lt_of_cell? wy _ z3)).trans z3, (hb.cell (World.block_lt_of_cell? wy _ z4)).trans z4, (hb.cell (World.block_lt_of_cell? wy _ z5)).trans z5, (hb.cell (World.block_lt_of_cell? wy _ z6)).trans z6, (hb.cell (World.block_lt_of_cell? wy _ z7)).trans z7⟩
  have Q0 := hid q0
  clear q0
  go_cut [49] (fun s wx => s = .bool false ∧ Hid (Below w6.heap.size w6 wx))
  case first =>
    go_region_held3 (fun w' => (w'.cell? ⟨w.heap.size, 0, none⟩ = some (.int .i64 N) ∧ w'.cell? ⟨w.heap.size, 1, none⟩ = some (.slice a n c) ∧ w'.cell? ⟨w3.heap.size, 0, none⟩ = some (.int .i64 x) ∧ w'.cell? ⟨w3.heap.size, 1, none⟩ = some (.slice a2 R.length c2) ∧ w'.cell? ⟨w4.heap.size, 0, none⟩ = some (.int .i64 N) ∧ w'.cell? ⟨w4.heap.size, 1, none⟩ = some (.slice a3 n c3) ∧ w'.cell? ⟨w5.heap.size, 0, none⟩ = some (.int .i64 x) ∧ w'.cell? ⟨w5.heap.size, 1, none⟩ = some (.slice a4 R.length c4))) (first | go_keep | exact Q0.out _ _ (by assumption) (by first | assumption | (refine ⟨?_, ?_, ?_, ?_, ?_, ?_, ?_, ?_⟩ <;> assumption) | simp [*]))
      (first | (go_at_call 16; refine (l_toNetwork _ _ _ _ _ _ (HA.out.below (by go_grown)) (by omega)).mono ?_; rintro e wA ⟨aA, cA, rfl, oA, hbA⟩; obtain ⟨hcA, hfA⟩ := bcell hbA) | (go_at_call 20; refine (l_eqNetwork _ _ _ _ _ _ _ _ (HX.out.below (bstep (by go_grown) hbA)) (OwnS.at qf_len oA) (by omega)).mono ?_; rintro e wB ⟨rfl, hbB⟩; obtain ⟨hcB, hfB⟩ := bcell hbB))
    all_goals (go_wp2_with fail; go_meet)
    all_goals refine ⟨rfl, ?_⟩
    all_goals exact bstep (bstep ((Below.refl _ _).drew : Below w6.heap.size w6 _) hbA) hbB
  case rest =>
    obtain ⟨rfl, hx⟩ := hcut
    have HB_7 := hx
    have B_7 := hid (bstep B_6.out HB_7.out)
    have S_7 := HB_7.out.size
    have T_7_1 := hid ((HB_7.out.block w.heap.size (Array.getElem?_eq_some_iff.1 T_6_1.out).1).trans T_6_1.out)
    have T_7_2 := hid ((HB_7.out.block w3.heap.size (Array.getElem?_eq_some_iff.1 T_6_2.out).1).trans T_6_2.out)
    have T_7_3 := hid ((HB_7.out.block w4.heap.size (Array.getElem?_eq_some_iff.1 T_6_3.out).1).trans T_6_3.out)
    have T_7_4 := hid ((HB_7.out.block w5.heap.size (Array.getElem?_eq_some_iff.1 T_6_4.out).1).trans T_6_4.out)
    clear m_6_1_0 m_6_1_1 z_6_1 m_6_2_0 m_6_2_1 z_6_2 m_6_3_0 m_6_3_1 z_6_3 m_6_4_0 m_6_4_1 z_6_4
    have m_7_1_0 : wc.cell? ⟨w.heap.size, 0, none⟩ = some (.int .i64 N) := by rw [cell_of_row wc _ _ _ _ (0, 0) T_7_1.out]; rfl
    have m_7_1_1 : wc.cell? ⟨w.heap.size, 1, none⟩ = some (.slice a n c) := by rw [cell_of_row wc _ _ _ _ (0, 0) T_7_1.out]; rfl
    have z_7_1 : w.heap.size < wc.heap.size := (Array.getElem?_eq_some_iff.1 T_7_1.out).1
    have m_7_2_0 : wc.cell? ⟨w3.heap.size, 0, none⟩ = some (.int .i64 x) := by rw [cell_of_row wc _ _ _ _ (0, 0) T_7_2.out]; rfl
    have m_7_2_1 : wc.cell? ⟨w3.heap.size, 1, none⟩ = some (.slice a2 R.length c2) := by rw [cell_of_row wc _ _ _ _ (0, 0) T_7_2.out]; rfl
    have z_7_2 : w3.heap.size < wc.heap.size := (Array.getElem?_eq_some_iff.1 T_7_2.out).1
    have m_7_3_0 : wc.cell? ⟨w4.heap.size, 0, none⟩ = some (.int .i64 N) := by rw [cell_of_row wc _ _ _ _ (0, 0) T_7_3.out]; rfl
    have m_7_3_1 : wc.cell? ⟨w4.heap.size, 1, none⟩ = some (.slice a3 n c3) := by rw [cell_of_row wc _ _ _ _ (0, 0) T_7_3.out]; rfl
    have z_7_3 : w4.heap.size < wc.heap.size := (Array.getElem?_eq_some_iff.1 T_7_3.out).1
    have m_7_4_0 : wc.cell? ⟨w5.heap.size, 0, none⟩ = some (.int .i64 x) := by rw [cell_of_row wc _ _ _ _ (0, 0) T_7_4.out]; rfl
    have m_7_4_1 : wc.cell? ⟨w5.heap.size, 1, none⟩ = some (.slice a4 R.length c4) := by rw [cell_of_row wc _ _ _ _ (0, 0) T_7_4.out]; rfl
    have z_7_4 : w5.heap.size < wc.heap.size := (Array.getElem?_eq_some_iff.1 T_7_4.out).1
    have O_x0_7 := hid (O_x0_6.out.below HB_7.out)
    have O_g0_7 := hid ((O_g0.out.below HB_6.out).below HB_7.out)
    have O_w0_7 := hid ((O_w0_5.out.below HB_6.out).below HB_7.out)
    go_wp2_with fail
    refine (l_markNetwork _ _ _ _ _ l _ _ O_x0_7.out (by omega) (by omega)).mono ?_
    rintro e w8 ⟨rfl, ho, hg⟩
    have S_8 := hg.size
    have L_8 := hid (O_x0.out).lt
    have B_8 := hid (B_7.out.grown hg B_7.out.size (fun q hq => by have := (L_8.out q hq).1; omega))
    have O_g0_8 := hid (O_g0_7.out.kept hg (ne_of_younger O_g0.out.lt O_x0.out.lt (by omega)))
    have O_w0_8 := hid (O_w0_7.out.kept hg (ne_of_older O_w0.out.lt O_x0.out.lt (by omega)))
    have T_8_1 := hid ((hg.block w.heap.size (Array.getElem?_eq_some_iff.1 T_7_1.out).1 (fun e => by have := L_8.out _ e.symm; omega)).trans T_7_1.out)
    have T_8_2 := hid ((hg.block w3.heap.size (Array.getElem?_eq_some_iff.1 T_7_2.out).1 (fun e => by have := L_8.out _ e.symm; omega)).trans T_7_2.out)
    have T_8_3 := hid ((hg.block w4.heap.size (Array.getElem?_eq_some_iff.1 T_7_3.out).1 (fun e => by have := L_8.out _ e.symm; omega)).trans T_7_3.out)
    have T_8_4 := hid ((hg.block w5.heap.size (Array.getElem?_eq_some_iff.1 T_7_4.out).1 (fun e => by have := L_8.out _ e.symm; omega)).trans T_7_4.out)
    have O_x0_8 := hid ho
    clear m_7_1_0 m_7_1_1 z_7_1 m_7_2_0 m_7_2_1 z_7_2 m_7_3_0 m_7_3_1 z_7_3 m_7_4_0 m_7_4_1 z_7_4
    have m_8_1_0 : w8.cell? ⟨w.heap.size, 0, none⟩ = some (.int .i64 N) := by rw [cell_of_row w8 _ _ _ _ (0, 0) T_8_1.out]; rfl
    have m_8_1_1 : w8.cell? ⟨w.heap.size, 1, none⟩ = some (.slice a n c) := by rw [cell_of_row w8 _ _ _ _ (0, 0) T_8_1.out]; rfl
    have z_8_1 : w.heap.size < w8.heap.size := (Array.getElem?_eq_some_iff.1 T_8_1.out).1
    have m_8_2_0 : w8.cell? ⟨w3.heap.size, 0, none⟩ = some (.int .i64 x) := by rw [cell_of_row w8 _ _ _ _ (0, 0) T_8_2.out]; rfl
    have m_8_2_1 : w8.cell? ⟨w3.heap.size, 1, none⟩ = some (.slice a2 R.length c2) := by rw [cell_of_row w8 _ _ _ _ (0, 0) T_8_2.out]; rfl
    have z_8_2 : w3.heap.size < w8.heap.size := (Array.getElem?_eq_some_iff.1 T_8_2.out).1
    have m_8_3_0 : w8.cell? ⟨w4.heap.size, 0, none⟩ = some (.int .i64 N) := by rw [cell_of_row w8 _ _ _ _ (0, 0) T_8_3.out]; rfl
    have m_8_3_1 : w8.cell? ⟨w4.heap.size, 1, none⟩ = some (.slice a3 n c3) := by rw [cell_of_row w8 _ _ _ _ (0, 0) T_8_3.out]; rfl
    have z_8_3 : w4.heap.size < w8.heap.size := (Array.getElem?_eq_some_iff.1 T_8_3.out).1
    have m_8_4_0 : w8.cell? ⟨w5.heap.size, 0, none⟩ = some (.int .i64 x) := by rw [cell_of_row w8 _ _ _ _ (0, 0) T_8_4.out]; rfl
    have m_8_4_1 : w8.cell? ⟨w5.heap.size, 1, none⟩ = some (.slice a4 R.length c4) := by rw [cell_of_row w8 _ _ _ _ (0, 0) T_8_4.out]; rfl
    have z_8_4 : w5.heap.size < w8.heap.size := (Array.getElem?_eq_some_iff.1 T_8_4.out).1
    clear ho hg
    go_wp2_with fail
    refine (l_eqNetwork x _ _ _ _ _ R _ ((OwnS.at qf_len O_g0_8.out).below (by go_grown)) ((OwnS.at qf_len O_w0_8.out).below (by go_grown)) (by omega)).mono ?_
    rintro e w9 ⟨rfl, hb⟩
    have HB_9 := hid (bstep (by go_grown) hb : Below w8.heap.size w8 w9)
    have B_9 := hid (bstep B_8.out HB_9.out)
    have S_9 := HB_9.out.size
    have T_9_1 := hid ((HB_9.out.block w.heap.size (Array.getElem?_eq_some_iff.1 T_8_1.out).1).trans T_8_1.out)
    have T_9_2 := hid ((HB_9.out.block w3.heap.size (Array.getElem?_eq_some_iff.1 T_8_2.out).1).trans T_8_2.out)
    have T_9_3 := hid ((HB_9.out.block w4.heap.size (Array.getElem?_eq_some_iff.1 T_8_3.out).1).trans T_8_3.out)
    have T_9_4 := hid ((HB_9.out.block w5.heap.size (Array.getElem?_eq_some_iff.1 T_8_4.out).1).trans T_8_4.out)
    clear m_8_1_0 m_8_1_1 z_8_1 m_8_2_0 m_8_2_1 z_8_2 m_8_3_0 m_8_3_1 z_8_3 m_8_4_0 m_8_4_1 z_8_4
    have m_9_1_0 : w9.cell? ⟨w.heap.size, 0, none⟩ = some (.int .i64 N) := by rw [cell_of_row w9 _ _ _ _ (0, 0) T_9_1.out]; rfl
    have m_9_1_1 : w9.cell? ⟨w.heap.size, 1, none⟩ = some (.slice a n c) := by rw [cell_of_row w9 _ _ _ _ (0, 0) T_9_1.out]; rfl
    have z_9_1 : w.heap.size < w9.heap.size := (Array.getElem?_eq_some_iff.1 T_9_1.out).1
    have m_9_2_0 : w9.cell? ⟨w3.heap.size, 0, none⟩ = some (.int .i64 x) := by rw [cell_of_row w9 _ _ _ _ (0, 0) T_9_2.out]; rfl
    have m_9_2_1 : w9.cell? ⟨w3.heap.size, 1, none⟩ = some (.slice a2 R.length c2) := by rw [cell_of_row w9 _ _ _ _ (0, 0) T_9_2.out]; rfl
    have z_9_2 : w3.heap.size < w9.heap.size := (Array.getElem?_eq_some_iff.1 T_9_2.out).1
    have m_9_3_0 : w9.cell? ⟨w4.heap.size, 0, none⟩ = some (.int .i64 N) := by rw [cell_of_row w9 _ _ _ _ (0, 0) T_9_3.out]; rfl
    have m_9_3_1 : w9.cell? ⟨w4.heap.size, 1, none⟩ = some (.slice a3 n c3) := by rw [cell_of_row w9 _ _ _ _ (0, 0) T_9_3.out]; rfl
    have z_9_3 : w4.heap.size < w9.heap.size := (Array.getElem?_eq_some_iff.1 T_9_3.out).1
    have m_9_4_0 : w9.cell? ⟨w5.heap.size, 0, none⟩ = some (.int .i64 x) := by rw [cell_of_row w9 _ _ _ _ (0, 0) T_9_4.out]; rfl
    have m_9_4_1 : w9.cell? ⟨w5.heap.size, 1, none⟩ = some (.slice a4 R.length c4) := by rw [cell_of_row w9 _ _ _ _ (0, 0) T_9_4.out]; rfl
    have z_9_4 : w5.heap.size < w9.heap.size := (Array.getElem?_eq_some_iff.1 T_9_4.out).1
    clear hb
    have O_g0_9 := hid (O_g0_8.out.below HB_9.out)
    have O_w0_9 := hid (O_w0_8.out.below HB_9.out)
    go_wp2_with fail
    refine (l_markNetwork _ _ _ _ _ R _ _ O_g0_9.out (by omega) (by omega)).mono ?_
    rintro e w10 ⟨rfl, ho, hg⟩
    have S_10 := hg.size
    have L_10 := hid (O_g0.out).lt
    have B_10 := hid (B_9.out.grown hg B_9.out.size (fun q hq => by have := (L_10.out q hq).1; omega))
    have O_w0_10 := hid (O_w0_9.out.kept hg (ne_of_older O_w0.out.lt O_g0.out.lt (by omega)))
    have T_10_1 := hid ((hg.block w.heap.size (Array.getElem?_eq_some_iff.1 T_9_1.out).1 (fun e => by have := L_10.out _ e.symm; omega)).trans T_9_1.out)
    have T_10_2 := hid ((hg.block w3.heap.size (Array.getElem?_eq_some_iff.1 T_9_2.out).1 (fun e => by have := L_10.out _ e.symm; omega)).trans T_9_2.out)
    have T_10_3 := hid ((hg.block w4.heap.size (Array.getElem?_eq_some_iff.1 T_9_3.out).1 (fun e => by have := L_10.out _ e.symm; omega)).trans T_9_3.out)
    have T_10_4 := hid ((hg.block w5.heap.size (Array.getElem?_eq_some_iff.1 T_9_4.out).1 (fun e => by have := L_10.out _ e.symm; omega)).trans T_9_4.out)
    have O_g0_10 := hid ho
    clear m_9_1_0 m_9_1_1 z_9_1 m_9_2_0 m_9_2_1 z_9_2 m_9_3_0 m_9_3_1 z_9_3 m_9_4_0 m_9_4_1 z_9_4
    have m_10_1_0 : w10.cell? ⟨w.heap.size, 0, none⟩ = some (.int .i64 N) := by rw [cell_of_row w10 _ _ _ _ (0, 0) T_10_1.out]; rfl
    have m_10_1_1 : w10.cell? ⟨w.heap.size, 1, none⟩ = some (.slice a n c) := by rw [cell_of_row w10 _ _ _ _ (0, 0) T_10_1.out]; rfl
    have z_10_1 : w.heap.size < w10.heap.size := (Array.getElem?_eq_some_iff.1 T_10_1.out).1
    have m_10_2_0 : w10.cell? ⟨w3.heap.size, 0, none⟩ = some (.int .i64 x) := by rw [cell_of_row w10 _ _ _ _ (0, 0) T_10_2.out]; rfl
    have m_10_2_1 : w10.cell? ⟨w3.heap.size, 1, none⟩ = some (.slice a2 R.length c2) := by rw [cell_of_row w10 _ _ _ _ (0, 0) T_10_2.out]; rfl
    have z_10_2 : w3.heap.size < w10.heap.size := (Array.getElem?_eq_some_iff.1 T_10_2.out).1
    have m_10_3_0 : w10.cell? ⟨w4.heap.size, 0, none⟩ = some (.int .i64 N) := by rw [cell_of_row w10 _ _ _ _ (0, 0) T_10_3.out]; rfl
    have m_10_3_1 : w10.cell? ⟨w4.heap.size, 1, none⟩ = some (.slice a3 n c3) := by rw [cell_of_row w10 _ _ _ _ (0, 0) T_10_3.out]; rfl
    have z_10_3 : w4.heap.size < w10.heap.size := (Array.getElem?_eq_some_iff.1 T_10_3.out).1
    have m_10_4_0 : w10.cell? ⟨w5.heap.size, 0, none⟩ = some (.int .i64 x) := by rw [cell_of_row w10 _ _ _ _ (0, 0) T_10_4.out]; rfl
    have m_10_4_1 : w10.cell? ⟨w5.heap.size, 1, none⟩ = some (.slice a4 R.length c4) := by rw [cell_of_row w10 _ _ _ _ (0, 0) T_10_4.out]; rfl
    have z_10_4 : w5.heap.size < w10.heap.size := (Array.getElem?_eq_some_iff.1 T_10_4.out).1
    clear ho hg
    go_wp2_with fail
    refine (l_heldNetwork _ _ _ _ _ _ ((OwnS.at qf_len O_g0_10.out).below (by go_grown)) (by omega) (by omega)).mono ?_
    rintro e w11 ⟨rfl, hb⟩
    have HB_11 := hid (bstep (by go_grown) hb : Below w10.heap.size w10 w11)
    have B_11 := hid (bstep B_10.out HB_11.out)
    have S_11 := HB_11.out.size
    have T_11_1 := hid ((HB_11.out.block w.heap.size (Array.getElem?_eq_some_iff.1 T_10_1.out).1).trans T_10_1.out)
    have T_11_2 := hid ((HB_11.out.block w3.heap.size (Array.getElem?_eq_some_iff.1 T_10_2.out).1).trans T_10_2.out)
    have T_11_3 := hid ((HB_11.out.block w4.heap.size (Array.getElem?_eq_some_iff.1 T_10_3.out).1).trans T_10_3.out)
    have T_11_4 := hid ((HB_11.out.block w5.heap.size (Array.getElem?_eq_some_iff.1 T_10_4.out).1).trans T_10_4.out)
    clear m_10_1_0 m_10_1_1 z_10_1 m_10_2_0 m_10_2_1 z_10_2 m_10_3_0 m_10_3_1 z_10_3 m_10_4_0 m_10_4_1 z_10_4
    have m_11_1_0 : w11.cell? ⟨w.heap.size, 0, none⟩ = some (.int .i64 N) := by rw [cell_of_row w11 _ _ _ _ (0, 0) T_11_1.out]; rfl
    have m_11_1_1 : w11.cell? ⟨w.heap.size, 1, none⟩ = some (.slice a n c) := by rw [cell_of_row w11 _ _ _ _ (0, 0) T_11_1.out]; rfl
    have z_11_1 : w.heap.size < w11.heap.size := (Array.getElem?_eq_some_iff.1 T_11_1.out).1
    have m_11_2_0 : w11.cell? ⟨w3.heap.size, 0, none⟩ = some (.int .i64 x) := by rw [cell_of_row w11 _ _ _ _ (0, 0) T_11_2.out]; rfl
    have m_11_2_1 : w11.cell? ⟨w3.heap.size, 1, none⟩ = some (.slice a2 R.length c2) := by rw [cell_of_row w11 _ _ _ _ (0, 0) T_11_2.out]; rfl
    have z_11_2 : w3.heap.size < w11.heap.size := (Array.getElem?_eq_some_iff.1 T_11_2.out).1
    have m_11_3_0 : w11.cell? ⟨w4.heap.size, 0, none⟩ = some (.int .i64 N) := by rw [cell_of_row w11 _ _ _ _ (0, 0) T_11_3.out]; rfl
    have m_11_3_1 : w11.cell? ⟨w4.heap.size, 1, none⟩ = some (.slice a3 n c3) := by rw [cell_of_row w11 _ _ _ _ (0, 0) T_11_3.out]; rfl
    have z_11_3 : w4.heap.size < w11.heap.size := (Array.getElem?_eq_some_iff.1 T_11_3.out).1
    have m_11_4_0 : w11.cell? ⟨w5.heap.size, 0, none⟩ = some (.int .i64 x) := by rw [cell_of_row w11 _ _ _ _ (0, 0) T_11_4.out]; rfl
    have m_11_4_1 : w11.cell? ⟨w5.heap.size, 1, none⟩ = some (.slice a4 R.length c4) := by rw [cell_of_row w11 _ _ _ _ (0, 0) T_11_4.out]; rfl
    have z_11_4 : w5.heap.size < w11.heap.size := (Array.getElem?_eq_some_iff.1 T_11_4.out).1
    clear hb
    go_wp2_with fail
    refine (l_toNetwork _ _ _ _ l _ ((H_l.out.below B_11.out).below (by go_grown)) (by omega)).mono ?_
    rintro e w12 ⟨a5, c5, rfl, o5, hb⟩
    have HB_12 := hid (bstep (by go_grown) hb : Below w11.heap.size w11 w12)
    have B_12 := hid (bstep B_11.out HB_12.out)
    have S_12 := HB_12.out.size
    have T_12_1 := hid ((HB_12.out.block w.heap.size (Array.getElem?_eq_some_iff.1 T_11_1.out).1).trans T_11_1.out)
    have T_12_2 := hid ((HB_12.out.block w3.heap.size (Array.getElem?_eq_some_iff.1 T_11_2.out).1).trans T_11_2.out)
    have T_12_3 := hid ((HB_12.out.block w4.heap.size (Array.getElem?_eq_some_iff.1 T_11_3.out).1).trans T_11_3.out)
    have T_12_4 := hid ((HB_12.out.block w5.heap.size (Array.getElem?_eq_some_iff.1 T_11_4.out).1).trans T_11_4.out)
    clear m_11_1_0 m_11_1_1 z_11_1 m_11_2_0 m_11_2_1 z_11_2 m_11_3_0 m_11_3_1 z_11_3 m_11_4_0 m_11_4_1 z_11_4
    have m_12_1_0 : w12.cell? ⟨w.heap.size, 0, none⟩ = some (.int .i64 N) := by rw [cell_of_row w12 _ _ _ _ (0, 0) T_12_1.out]; rfl
    have m_12_1_1 : w12.cell? ⟨w.heap.size, 1, none⟩ = some (.slice a n c) := by rw [cell_of_row w12 _ _ _ _ (0, 0) T_12_1.out]; rfl
    have z_12_1 : w.heap.size < w12.heap.size := (Array.getElem?_eq_some_iff.1 T_12_1.out).1
    have m_12_2_0 : w12.cell? ⟨w3.heap.size, 0, none⟩ = some (.int .i64 x) := by rw [cell_of_row w12 _ _ _ _ (0, 0) T_12_2.out]; rfl
    have m_12_2_1 : w12.cell? ⟨w3.heap.size, 1, none⟩ = some (.slice a2 R.length c2) := by rw [cell_of_row w12 _ _ _ _ (0, 0) T_12_2.out]; rfl
    have z_12_2 : w3.heap.size < w12.heap.size := (Array.getElem?_eq_some_iff.1 T_12_2.out).1
    have m_12_3_0 : w12.cell? ⟨w4.heap.size, 0, none⟩ = some (.int .i64 N) := by rw [cell_of_row w12 _ _ _ _ (0, 0) T_12_3.out]; rfl
    have m_12_3_1 : w12.cell? ⟨w4.heap.size, 1, none⟩ = some (.slice a3 n c3) := by rw [cell_of_row w12 _ _ _ _ (0, 0) T_12_3.out]; rfl
    have z_12_3 : w4.heap.size < w12.heap.size := (Array.getElem?_eq_some_iff.1 T_12_3.out).1
    have m_12_4_0 : w12.cell? ⟨w5.heap.size, 0, none⟩ = some (.int .i64 x) := by rw [cell_of_row w12 _ _ _ _ (0, 0) T_12_4.out]; rfl
    have m_12_4_1 : w12.cell? ⟨w5.heap.size, 1, none⟩ = some (.slice a4 R.length c4) := by rw [cell_of_row w12 _ _ _ _ (0, 0) T_12_4.out]; rfl
    have z_12_4 : w5.heap.size < w12.heap.size := (Array.getElem?_eq_some_iff.1 T_12_4.out).1
    clear hb
    try simp only [World.size_alloc] at o5
    have O_z0 := hid o5
    clear o5
    go_wp2_with fail
    refine (i_OpenedRing' N q _ _ _ l _ ((OwnS.at qf_len O_z0.out).below (by go_grown)) (by omega) x R b HR.out).mono ?_
    rintro e w13 ⟨a6, c6, rfl, o6, hb⟩
    have HB_13 := hid (bstep (by go_grown) hb : Below w12.heap.size w12 w13)
    have B_13 := hid (bstep B_12.out HB_13.out)
    have S_13 := HB_13.out.size
    have T_13_1 := hid ((HB_13.out.block w.heap.size (Array.getElem?_eq_some_iff.1 T_12_1.out).1).trans T_12_1.out)
    have T_13_2 := hid ((HB_13.out.block w3.heap.size (Array.getElem?_eq_some_iff.1 T_12_2.out).1).trans T_12_2.out)
    have T_13_3 := hid ((HB_13.out.block w4.heap.size (Array.getElem?_eq_some_iff.1 T_12_3.out).1).trans T_12_3.out)
    have T_13_4 := hid ((HB_13.out.block w5.heap.size (Array.getElem?_eq_some_iff.1 T_12_4.out).1).trans T_12_4.out)
    clear m_12_1_0 m_12_1_1 z_12_1 m_12_2_0 m_12_2_1 z_12_2 m_12_3_0 m_12_3_1 z_12_3 m_12_4_0 m_12_4_1 z_12_4
    have m_13_1_0 : w13.cell? ⟨w.heap.size, 0, none⟩ = some (.int .i64 N) := by rw [cell_of_row w13 _ _ _ _ (0, 0) T_13_1.out]; rfl
    have m_13_1_1 : w13.cell? ⟨w.heap.size, 1, none⟩ = some (.slice a n c) := by rw [cell_of_row w13 _ _ _ _ (0, 0) T_13_1.out]; rfl
    have z_13_1 : w.heap.size < w13.heap.size := (Array.getElem?_eq_some_iff.1 T_13_1.out).1
    have m_13_2_0 : w13.cell? ⟨w3.heap.size, 0, none⟩ = some (.int .i64 x) := by rw [cell_of_row w13 _ _ _ _ (0, 0) T_13_2.out]; rfl
    have m_13_2_1 : w13.cell? ⟨w3.heap.size, 1, none⟩ = some (.slice a2 R.length c2) := by rw [cell_of_row w13 _ _ _ _ (0, 0) T_13_2.out]; rfl
    have z_13_2 : w3.heap.size < w13.heap.size := (Array.getElem?_eq_some_iff.1 T_13_2.out).1
    have m_13_3_0 : w13.cell? ⟨w4.heap.size, 0, none⟩ = some (.int .i64 N) := by rw [cell_of_row w13 _ _ _ _ (0, 0) T_13_3.out]; rfl
    have m_13_3_1 : w13.cell? ⟨w4.heap.size, 1, none⟩ = some (.slice a3 n c3) := by rw [cell_of_row w13 _ _ _ _ (0, 0) T_13_3.out]; rfl
    have z_13_3 : w4.heap.size < w13.heap.size := (Array.getElem?_eq_some_iff.1 T_13_3.out).1
    have m_13_4_0 : w13.cell? ⟨w5.heap.size, 0, none⟩ = some (.int .i64 x) := by rw [cell_of_row w13 _ _ _ _ (0, 0) T_13_4.out]; rfl
    have m_13_4_1 : w13.cell? ⟨w5.heap.size, 1, none⟩ = some (.slice a4 R.length c4) := by rw [cell_of_row w13 _ _ _ _ (0, 0) T_13_4.out]; rfl
    have z_13_4 : w5.heap.size < w13.heap.size := (Array.getElem?_eq_some_iff.1 T_13_4.out).1
    clear hb
    try simp only [World.size_alloc] at o6
    have O_h0 := hid o6
    clear o6
    have O_w0_13 := hid (((O_w0_10.out.below HB_11.out).below HB_12.out).below HB_13.out)
    go_wp2_with fail
    refine (l_eqNetwork x _ _ _ _ _ R _ ((OwnS.at qf_len O_h0.out).below (by go_grown)) ((OwnS.at qf_len O_w0_13.out).below (by go_grown)) (by omega)).mono ?_
    rintro e w14 ⟨rfl, hb⟩
    have HB_14 := hid (bstep (by go_grown) hb : Below w13.heap.size w13 w14)
    have B_14 := hid (bstep B_13.out HB_14.out)
    have S_14 := HB_14.out.size
    have T_14_1 := hid ((HB_14.out.block w.heap.size (Array.getElem?_eq_some_iff.1 T_13_1.out).1).trans T_13_1.out)
    have T_14_2 := hid ((HB_14.out.block w3.heap.size (Array.getElem?_eq_some_iff.1 T_13_2.out).1).trans T_13_2.out)
    have T_14_3 := hid ((HB_14.out.block w4.heap.size (Array.getElem?_eq_some_iff.1 T_13_3.out).1).trans T_13_3.out)
    have T_14_4 := hid ((HB_14.out.block w5.heap.size (Array.getElem?_eq_some_iff.1 T_13_4.out).1).trans T_13_4.out)
    have T_14_5 : Hid (w14.heap[w13.heap.size]? = some (.cells #[.int .i64 x, .slice a6 R.length c6] 31 (0, 0))) := hid (by rw [hb.block _ (by simp <;> omega)]; exact heap_alloc_new _ _)
    have Z_5 : w13.heap.size < w14.heap.size := (Array.getElem?_eq_some_iff.1 T_14_5.out).1
    clear m_13_1_0 m_13_1_1 z_13_1 m_13_2_0 m_13_2_1 z_13_2 m_13_3_0 m_13_3_1 z_13_3 m_13_4_0 m_13_4_1 z_13_4
    have m_14_1_0 : w14.cell? ⟨w.heap.size, 0, none⟩ = some (.int .i64 N) := by rw [cell_of_row w14 _ _ _ _ (0, 0) T_14_1.out]; rfl
    have m_14_1_1 : w14.cell? ⟨w.heap.size, 1, none⟩ = some (.slice a n c) := by rw [cell_of_row w14 _ _ _ _ (0, 0) T_14_1.out]; rfl
    have z_14_1 : w.heap.size < w14.heap.size := (Array.getElem?_eq_some_iff.1 T_14_1.out).1
    have m_14_2_0 : w14.cell? ⟨w3.heap.size, 0, none⟩ = some (.int .i64 x) := by rw [cell_of_row w14 _ _ _ _ (0, 0) T_14_2.out]; rfl
    have m_14_2_1 : w14.cell? ⟨w3.heap.size, 1, none⟩ = some (.slice a2 R.length c2) := by rw [cell_of_row w14 _ _ _ _ (0, 0) T_14_2.out]; rfl
    have z_14_2 : w3.heap.size < w14.heap.size := (Array.getElem?_eq_some_iff.1 T_14_2.out).1
    have m_14_3_0 : w14.cell? ⟨w4.heap.size, 0, none⟩ = some (.int .i64 N) := by rw [cell_of_row w14 _ _ _ _ (0, 0) T_14_3.out]; rfl
    have m_14_3_1 : w14.cell? ⟨w4.heap.size, 1, none⟩ = some (.slice a3 n c3) := by rw [cell_of_row w14 _ _ _ _ (0, 0) T_14_3.out]; rfl
    have z_14_3 : w4.heap.size < w14.heap.size := (Array.getElem?_eq_some_iff.1 T_14_3.out).1
    have m_14_4_0 : w14.cell? ⟨w5.heap.size, 0, none⟩ = some (.int .i64 x) := by rw [cell_of_row w14 _ _ _ _ (0, 0) T_14_4.out]; rfl
    have m_14_4_1 : w14.cell? ⟨w5.heap.size, 1, none⟩ = some (.slice a4 R.length c4) := by rw [cell_of_row w14 _ _ _ _ (0, 0) T_14_4.out]; rfl
    have z_14_4 : w5.heap.size < w14.heap.size := (Array.getElem?_eq_some_iff.1 T_14_4.out).1
    have m_14_5_0 : w14.cell? ⟨w13.heap.size, 0, none⟩ = some (.int .i64 x) := by rw [cell_of_row w14 _ _ _ _ (0, 0) T_14_5.out]; rfl
    have m_14_5_1 : w14.cell? ⟨w13.heap.size, 1, none⟩ = some (.slice a6 R.length c6) := by rw [cell_of_row w14 _ _ _ _ (0, 0) T_14_5.out]; rfl
    have z_14_5 : w13.heap.size < w14.heap.size := (Array.getElem?_eq_some_iff.1 T_14_5.out).1
    clear hb
    have O_g0_14 := hid ((((O_g0_10.out.below HB_11.out).below HB_12.out).below HB_13.out).below HB_14.out)
    go_wp2_with fail
    refine (l_heldNetwork _ _ _ _ _ _ ((OwnS.at qf_len O_g0_14.out).below (by go_grown)) (by omega) (by omega)).mono ?_
    rintro e w15 ⟨rfl, hb⟩
    have HB_15 := hid (bstep (by go_grown) hb : Below w14.heap.size w14 w15)
    have B_15 := hid (bstep B_14.out HB_15.out)
    have S_15 := HB_15.out.size
    have T_15_1 := hid ((HB_15.out.block w.heap.size (Array.getElem?_eq_some_iff.1 T_14_1.out).1).trans T_14_1.out)
    have T_15_2 := hid ((HB_15.out.block w3.heap.size (Array.getElem?_eq_some_iff.1 T_14_2.out).1).trans T_14_2.out)
    have T_15_3 := hid ((HB_15.out.block w4.heap.size (Array.getElem?_eq_some_iff.1 T_14_3.out).1).trans T_14_3.out)
    have T_15_4 := hid ((HB_15.out.block w5.heap.size (Array.getElem?_eq_some_iff.1 T_14_4.out).1).trans T_14_4.out)
    have T_15_5 := hid ((HB_15.out.block w13.heap.size (Array.getElem?_eq_some_iff.1 T_14_5.out).1).trans T_14_5.out)
    clear m_14_1_0 m_14_1_1 z_14_1 m_14_2_0 m_14_2_1 z_14_2 m_14_3_0 m_14_3_1 z_14_3 m_14_4_0 m_14_4_1 z_14_4 m_14_5_0 m_14_5_1 z_14_5
    have m_15_1_0 : w15.cell? ⟨w.heap.size, 0, none⟩ = some (.int .i64 N) := by rw [cell_of_row w15 _ _ _ _ (0, 0) T_15_1.out]; rfl
    have m_15_1_1 : w15.cell? ⟨w.heap.size, 1, none⟩ = some (.slice a n c) := by rw [cell_of_row w15 _ _ _ _ (0, 0) T_15_1.out]; rfl
    have z_15_1 : w.heap.size < w15.heap.size := (Array.getElem?_eq_some_iff.1 T_15_1.out).1
    have m_15_2_0 : w15.cell? ⟨w3.heap.size, 0, none⟩ = some (.int .i64 x) := by rw [cell_of_row w15 _ _ _ _ (0, 0) T_15_2.out]; rfl
    have m_15_2_1 : w15.cell? ⟨w3.heap.size, 1, none⟩ = some (.slice a2 R.length c2) := by rw [cell_of_row w15 _ _ _ _ (0, 0) T_15_2.out]; rfl
    have z_15_2 : w3.heap.size < w15.heap.size := (Array.getElem?_eq_some_iff.1 T_15_2.out).1
    have m_15_3_0 : w15.cell? ⟨w4.heap.size, 0, none⟩ = some (.int .i64 N) := by rw [cell_of_row w15 _ _ _ _ (0, 0) T_15_3.out]; rfl
    have m_15_3_1 : w15.cell? ⟨w4.heap.size, 1, none⟩ = some (.slice a3 n c3) := by rw [cell_of_row w15 _ _ _ _ (0, 0) T_15_3.out]; rfl
    have z_15_3 : w4.heap.size < w15.heap.size := (Array.getElem?_eq_some_iff.1 T_15_3.out).1
    have m_15_4_0 : w15.cell? ⟨w5.heap.size, 0, none⟩ = some (.int .i64 x) := by rw [cell_of_row w15 _ _ _ _ (0, 0) T_15_4.out]; rfl
    have m_15_4_1 : w15.cell? ⟨w5.heap.size, 1, none⟩ = some (.slice a4 R.length c4) := by rw [cell_of_row w15 _ _ _ _ (0, 0) T_15_4.out]; rfl
    have z_15_4 : w5.heap.size < w15.heap.size := (Array.getElem?_eq_some_iff.1 T_15_4.out).1
    have m_15_5_0 : w15.cell? ⟨w13.heap.size, 0, none⟩ = some (.int .i64 x) := by rw [cell_of_row w15 _ _ _ _ (0, 0) T_15_5.out]; rfl
    have m_15_5_1 : w15.cell? ⟨w13.heap.size, 1, none⟩ = some (.slice a6 R.length c6) := by rw [cell_of_row w15 _ _ _ _ (0, 0) T_15_5.out]; rfl
    have z_15_5 : w13.heap.size < w15.heap.size := (Array.getElem?_eq_some_iff.1 T_15_5.out).1
    clear hb
    go_wp2
    go_ret
    exact ⟨rfl, B_15.out⟩

set_option maxRecDepth 100000 in
theorem fnExactOpenedRing_lifted (os : Os) (started : os.Started) (H : Type) (enc : TypeId × Value → H) :
    ReturnsInHanded {} Try.checked os 7 .any (Rows.fnExactOpenedRingSpec.pre6 enc Try.prog Try.f7 Rows.fnExactOpenedRingRow.domain false) (Rows.fnExactOpenedRingSpec.post enc Try.prog Try.f7 false true false false) := by
  refine returnsInHanded_of_change (C := Try.checked) Try.own started (by kernel_rfl) Try.func7
    (ChangeSpec.witness6 (enc := enc) (C := Try.checked) false ⟨#[], #[.agg #[.int .i64 0, .slice none 0 0], .int .i64 0], []⟩ 8 (by kernel_rfl) (by kernel_rfl) (by kernel_rfl) (by kernel_rfl)) ?_
  intro W base args ds gs before hval0 hW _ _
  have hval : ∀ (j : Nat) t v, Try.f7.params[j]? = some t → args[j]? = some v → Value.okWide Try.prog W .any base t v := hval0
  have hW' : DataW.Whole enc Try.prog Try.f7.params.toList Rows.fnExactOpenedRingSpec.vars false W args.toList ds gs before := hW
  obtain ⟨p, q, hA0, hV, rfl, hfz, hnd⟩ := hW
  have hlt : ∀ x ∈ p, x.block < W.heap.size := fun x hx => hW'.lt x (by simp [hx])
  have hA : DataW.TrodAll enc Try.prog W 0 (fun _ => true) true Try.f7.params.toList args.toList ds p := hA0
  rw [Try.params7] at hA hval
  clear hA0 hval0
  obtain ⟨v0, v1, d0, d1, p0, p1, rfl, rfl, rfl, h0, h1⟩ := trodAll_two hA
  obtain ⟨rfl, rfl⟩ := trodVars_none hV
  obtain ⟨N0, x0, n0, k0, l0, rfl, g0, m0⟩ := open_net (hval 0 24 v0 rfl rfl) h0
  obtain ⟨i1, rfl, rfl, rfl, wi1⟩ := open_int Try.underlying3 (hval 1 3 v1 rfl rfl) h1
  refine (law_OpenedRing N0 x0 n0 k0 l0 i1 W g0 m0).mono fun e W' ⟨he, hb⟩ => ?_
  subst he
  exact ⟨_, rfl, law_post rfl rfl (by kernel_rfl) hW' rfl rfl rfl hb⟩

theorem fnExactOpenedRing_proved : Rows.FnExactOpenedRingSaid :=
  OpenClaim.holds_of_wide 7 Try.f7 rfl rfl rfl rfl rfl rfl rfl ⟨rfl, rfl, rfl, rfl, rfl⟩ rfl rfl rfl rfl rfl (by kernel_rfl) Try.func7 (by kernel_rfl)
    (of_decide_eq_true (by kernel_rfl)) (by unfold Func.isWrapper; first | (rw [if_pos (by decide +kernel)]; kernel_rfl) | (rw [if_neg (by decide +kernel)]; exact ⟨rfl, rfl⟩))
    (fun os started H enc _ => fnExactOpenedRing_lifted os started H enc)

end Go.Proofs.Ythhogblnndmenaa
