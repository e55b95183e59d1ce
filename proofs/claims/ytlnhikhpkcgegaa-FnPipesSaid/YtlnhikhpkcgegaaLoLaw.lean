/-
  The law FnPipes returns true for every input, and leaves its argument as it was. No condition.
-/
import Derived.Deep.CutBlock
import Derived.Test.YtlnhikhpkcgegaaLo2
import Derived.Test.YtlnhikhpkcgegaaLo11
import Derived.Test.YtlnhikhpkcgegaaLo18
import Derived.Test.YtlnhikhpkcgegaaLo19
import Derived.Test.YtlnhikhpkcgegaaLo21
import Derived.Test.YtlnhikhpkcgegaaLo22
set_option linter.unusedVariables false
set_option linter.unusedSimpArgs false
namespace Go.Proofs.Ytlnhikhpkcgegaa
open Go.ChangeShapes Go.WideShapes Go.ChangeAt Go.RowKit Go.Joins

set_option maxRecDepth 100000 in
set_option maxHeartbeats 16000000 in
theorem law_FnPipes (a0 : Option Addr) (n0 c0 : Nat) (w : World) (h : BytesAt w a0 n0) :
    Calls Try.prog 4 #[.slice a0 n0 c0] w fun e w' => e = .returned (.bool true) ∧ Below w.heap.size w w' := by
  have H_code := hid h
  clear h
  by_cases hn : 65536 < n0
  · have hv : decide (65536 < n0) = true := by simpa using hn
    go_enter Try.func4, Try.ntmps4
    go_wp2_with fail
    refine (l_vBig _ _ _ _).mono ?_
    rintro e _ ⟨rfl, rfl⟩
    go_wp2
    go_ret
    exact ⟨rfl, Below.refl _ _⟩
  have hv : decide (65536 < n0) = false := by simpa using hn
  go_enter Try.func4, Try.ntmps4
  go_wp2_with fail
  refine (l_vBig _ _ _ _).mono ?_
  rintro e _ ⟨rfl, rfl⟩
  rw [hv]
  clear hn hv
  obtain ⟨i0, hi, hz0, hz1, hz2⟩ := info_parts Try.infoInt
  have HI := hid hi
  have HZ := hid hz0
  have HZ1 := hid hz1
  have HZ2 := hid hz2
  clear hi hz0 hz1 hz2
  go_wp2_with fail
  refine (s_DrawReversedPipe _ _ _ _ (H_code.out.below (by go_grown))).mono ?_
  rintro e w1 ⟨N, a, m, c, L, a1, m1, c1, l1, v2, rfl, hq, ho1, ⟨⟨hN0, hN1⟩, hm, hm1⟩, hb⟩
  have HB_1 := hid (bstep (by go_grown) hb : Below w.heap.size w w1)
  have B_1 := HB_1
  have S_1 := HB_1.out.size
  clear hb
  have O_L := hid hq
  clear hq
  have O_l1 := hid ho1
  clear ho1
  obtain ⟨X, R, S, B, hR⟩ : ∃ X R S B, revR N L l1 v2 = (X, R, S, B) := ⟨_, _, _, _, rfl⟩
  have HR1 := hid hR
  clear hR
  go_wp2_with fail
  refine (i_ReversedPipe N v2 _ _ _ _ _ _ L l1 _ ((OwnS.at qf_len O_L.out).below (by go_grown)) (O_l1.out.at.below (by go_grown)) (by omega) (by omega) X R S B HR1.out).mono ?_
  rintro e w2 ⟨p3, q3, r3, t3, rfl, hoa, hob, hap, hb⟩
  have HB_2 := hid (bstep (by go_grown) hb : Below w1.heap.size w1 w2)
  have B_2 := hid (bstep B_1.out HB_2.out)
  have S_2 := HB_2.out.size
  have T_2_1 : Hid (w2.heap[w1.heap.size]? = some (.cells #[.int .i64 N, .slice a m c] 26 (0, 0))) := hid (by rw [hb.block _ (by simp <;> omega)]; exact heap_alloc_new _ _)
  have m_2_1_0 : w2.cell? ⟨w1.heap.size, 0, none⟩ = some (.int .i64 N) := by rw [cell_of_row w2 _ _ _ _ (0, 0) T_2_1.out]; rfl
  have m_2_1_1 : w2.cell? ⟨w1.heap.size, 1, none⟩ = some (.slice a m c) := by rw [cell_of_row w2 _ _ _ _ (0, 0) T_2_1.out]; rfl
  have z_2_1 : w1.heap.size < w2.heap.size := (Array.getElem?_eq_some_iff.1 T_2_1.out).1
  clear hb
  clear hap
  have O_R3 := hid hoa
  clear hoa
  have O_S3 := hid hob
  clear hob
  have O_L_2 := hid (O_L.out.below HB_2.out)
  have O_l1_2 := hid (O_l1.out.below HB_2.out)
  go_wp2_with fail
  refine (s_ReversedPipe N v2 _ _ _ _ _ _ L l1 _ ((OwnS.at qf_len O_L_2.out).below (by go_grown)) (O_l1_2.out.at.below (by go_grown)) (by omega) (by omega) X R S B HR1.out).mono ?_
  rintro e w3 ⟨p4, q4, r4, t4, rfl, hoa, hob, hap, hb⟩
  have HB_3 := hid (bstep (by go_grown) hb : Below w2.heap.size w2 w3)
  have B_3 := hid (bstep B_2.out HB_3.out)
  have S_3 := HB_3.out.size
  have T_3_1 := hid ((HB_3.out.block w1.heap.size (Array.getElem?_eq_some_iff.1 T_2_1.out).1).trans T_2_1.out)
  have T_3_2 : Hid (w3.heap[w2.heap.size]? = some (.cells #[.int .i64 X, .slice p3 R.length q3] 26 (0, 0))) := hid (by rw [hb.block _ (by simp <;> omega)]; exact heap_alloc_new _ _)
  clear m_2_1_0 m_2_1_1 z_2_1
  have m_3_1_0 : w3.cell? ⟨w1.heap.size, 0, none⟩ = some (.int .i64 N) := by rw [cell_of_row w3 _ _ _ _ (0, 0) T_3_1.out]; rfl
  have m_3_1_1 : w3.cell? ⟨w1.heap.size, 1, none⟩ = some (.slice a m c) := by rw [cell_of_row w3 _ _ _ _ (0, 0) T_3_1.out]; rfl
  have z_3_1 : w1.heap.size < w3.heap.size := (Array.getElem?_eq_some_iff.1 T_3_1.out).1
  have m_3_2_0 : w3.cell? ⟨w2.heap.size, 0, none⟩ = some (.int .i64 X) := by rw [cell_of_row w3 _ _ _ _ (0, 0) T_3_2.out]; rfl
  have m_3_2_1 : w3.cell? ⟨w2.heap.size, 1, none⟩ = some (.slice p3 R.length q3) := by rw [cell_of_row w3 _ _ _ _ (0, 0) T_3_2.out]; rfl
  have z_3_2 : w2.heap.size < w3.heap.size := (Array.getElem?_eq_some_iff.1 T_3_2.out).1
  clear hb
  clear hap
  have O_R4 := hid hoa
  clear hoa
  have O_S4 := hid hob
  clear hob
  have hlr := revR_len HR1.out
  have O_R3_3 := hid (O_R3.out.below HB_3.out)
  have O_S3_3 := hid (O_S3.out.below HB_3.out)
  have O_L_3 := hid (O_L_2.out.below HB_3.out)
  have O_l1_3 := hid (O_l1_2.out.below HB_3.out)
  go_upto_region 6 with fail
  go_cut [74] (fun s74 wx => s74 = .bool false ∧ Hid (Below w3.heap.size w3 wx))
  case first => as_aux_lemma =>
    go_wp2_with fail
    refine (l_vNetwork_same X _ _ _ _ _ R _ ((OwnS.at qf_len O_R3_3.out).below (by go_grown)) ((OwnS.at qf_len O_R4.out).below (by go_grown)) (by omega)).mono ?_
    rintro e w4 ⟨rfl, hb⟩
    have HB_4 := hid (bstep (by go_grown) hb : Below w3.heap.size w3 w4)
    have B_4 := hid (bstep B_3.out HB_4.out)
    have S_4 := HB_4.out.size
    have T_4_1 := hid ((HB_4.out.block w1.heap.size (Array.getElem?_eq_some_iff.1 T_3_1.out).1).trans T_3_1.out)
    have T_4_2 := hid ((HB_4.out.block w2.heap.size (Array.getElem?_eq_some_iff.1 T_3_2.out).1).trans T_3_2.out)
    have T_4_3 : Hid (w4.heap[w3.heap.size]? = some (.cells #[.int .i64 X, .slice p4 R.length q4] 26 (0, 0))) := hid (by rw [hb.block _ (by simp <;> omega)]; exact heap_alloc_new _ _)
    clear m_3_1_0 m_3_1_1 z_3_1 m_3_2_0 m_3_2_1 z_3_2
    have m_4_1_0 : w4.cell? ⟨w1.heap.size, 0, none⟩ = some (.int .i64 N) := by rw [cell_of_row w4 _ _ _ _ (0, 0) T_4_1.out]; rfl
    have m_4_1_1 : w4.cell? ⟨w1.heap.size, 1, none⟩ = some (.slice a m c) := by rw [cell_of_row w4 _ _ _ _ (0, 0) T_4_1.out]; rfl
    have z_4_1 : w1.heap.size < w4.heap.size := (Array.getElem?_eq_some_iff.1 T_4_1.out).1
    have m_4_2_0 : w4.cell? ⟨w2.heap.size, 0, none⟩ = some (.int .i64 X) := by rw [cell_of_row w4 _ _ _ _ (0, 0) T_4_2.out]; rfl
    have m_4_2_1 : w4.cell? ⟨w2.heap.size, 1, none⟩ = some (.slice p3 R.length q3) := by rw [cell_of_row w4 _ _ _ _ (0, 0) T_4_2.out]; rfl
    have z_4_2 : w2.heap.size < w4.heap.size := (Array.getElem?_eq_some_iff.1 T_4_2.out).1
    have m_4_3_0 : w4.cell? ⟨w3.heap.size, 0, none⟩ = some (.int .i64 X) := by rw [cell_of_row w4 _ _ _ _ (0, 0) T_4_3.out]; rfl
    have m_4_3_1 : w4.cell? ⟨w3.heap.size, 1, none⟩ = some (.slice p4 R.length q4) := by rw [cell_of_row w4 _ _ _ _ (0, 0) T_4_3.out]; rfl
    have z_4_3 : w3.heap.size < w4.heap.size := (Array.getElem?_eq_some_iff.1 T_4_3.out).1
    clear hb
    have O_S3_4 := hid (O_S3_3.out.below HB_4.out)
    have O_S4_4 := hid (O_S4.out.below HB_4.out)
    go_wp2_with fail
    refine (l_vInts_same _ _ _ _ _ S _ (O_S3_4.out.at.below (by go_grown)) (O_S4_4.out.at.below (by go_grown)) (by omega)).mono ?_
    rintro e w5 ⟨rfl, hb⟩
    have HB_5 := hid (bstep (by go_grown) hb : Below w4.heap.size w4 w5)
    have B_5 := hid (bstep B_4.out HB_5.out)
    have S_5 := HB_5.out.size
    have T_5_1 := hid ((HB_5.out.block w1.heap.size (Array.getElem?_eq_some_iff.1 T_4_1.out).1).trans T_4_1.out)
    have T_5_2 := hid ((HB_5.out.block w2.heap.size (Array.getElem?_eq_some_iff.1 T_4_2.out).1).trans T_4_2.out)
    have T_5_3 := hid ((HB_5.out.block w3.heap.size (Array.getElem?_eq_some_iff.1 T_4_3.out).1).trans T_4_3.out)
    clear m_4_1_0 m_4_1_1 z_4_1 m_4_2_0 m_4_2_1 z_4_2 m_4_3_0 m_4_3_1 z_4_3
    have m_5_1_0 : w5.cell? ⟨w1.heap.size, 0, none⟩ = some (.int .i64 N) := by rw [cell_of_row w5 _ _ _ _ (0, 0) T_5_1.out]; rfl
    have m_5_1_1 : w5.cell? ⟨w1.heap.size, 1, none⟩ = some (.slice a m c) := by rw [cell_of_row w5 _ _ _ _ (0, 0) T_5_1.out]; rfl
    have z_5_1 : w1.heap.size < w5.heap.size := (Array.getElem?_eq_some_iff.1 T_5_1.out).1
    have m_5_2_0 : w5.cell? ⟨w2.heap.size, 0, none⟩ = some (.int .i64 X) := by rw [cell_of_row w5 _ _ _ _ (0, 0) T_5_2.out]; rfl
    have m_5_2_1 : w5.cell? ⟨w2.heap.size, 1, none⟩ = some (.slice p3 R.length q3) := by rw [cell_of_row w5 _ _ _ _ (0, 0) T_5_2.out]; rfl
    have z_5_2 : w2.heap.size < w5.heap.size := (Array.getElem?_eq_some_iff.1 T_5_2.out).1
    have m_5_3_0 : w5.cell? ⟨w3.heap.size, 0, none⟩ = some (.int .i64 X) := by rw [cell_of_row w5 _ _ _ _ (0, 0) T_5_3.out]; rfl
    have m_5_3_1 : w5.cell? ⟨w3.heap.size, 1, none⟩ = some (.slice p4 R.length q4) := by rw [cell_of_row w5 _ _ _ _ (0, 0) T_5_3.out]; rfl
    have z_5_3 : w3.heap.size < w5.heap.size := (Array.getElem?_eq_some_iff.1 T_5_3.out).1
    clear hb
    go_wp2_with fail
    go_meet
    exact ⟨rfl, hid (bstep HB_4.out HB_5.out)⟩
  case rest => as_aux_lemma =>
    obtain ⟨rfl, hcu⟩ := hcut
    obtain ⟨w4, hW4⟩ : ∃ W, W = wc := ⟨_, rfl⟩
    subst hW4
    have HB_4 := hcu
    have B_4 := hid (bstep B_3.out HB_4.out)
    have S_4 := HB_4.out.size
    have T_4_1 := hid ((HB_4.out.block w1.heap.size (Array.getElem?_eq_some_iff.1 T_3_1.out).1).trans T_3_1.out)
    have T_4_2 := hid ((HB_4.out.block w2.heap.size (Array.getElem?_eq_some_iff.1 T_3_2.out).1).trans T_3_2.out)
    clear m_3_1_0 m_3_1_1 z_3_1 m_3_2_0 m_3_2_1 z_3_2
    have m_4_1_0 : w4.cell? ⟨w1.heap.size, 0, none⟩ = some (.int .i64 N) := by rw [cell_of_row w4 _ _ _ _ (0, 0) T_4_1.out]; rfl
    have m_4_1_1 : w4.cell? ⟨w1.heap.size, 1, none⟩ = some (.slice a m c) := by rw [cell_of_row w4 _ _ _ _ (0, 0) T_4_1.out]; rfl
    have z_4_1 : w1.heap.size < w4.heap.size := (Array.getElem?_eq_some_iff.1 T_4_1.out).1
    have m_4_2_0 : w4.cell? ⟨w2.heap.size, 0, none⟩ = some (.int .i64 X) := by rw [cell_of_row w4 _ _ _ _ (0, 0) T_4_2.out]; rfl
    have m_4_2_1 : w4.cell? ⟨w2.heap.size, 1, none⟩ = some (.slice p3 R.length q3) := by rw [cell_of_row w4 _ _ _ _ (0, 0) T_4_2.out]; rfl
    have z_4_2 : w2.heap.size < w4.heap.size := (Array.getElem?_eq_some_iff.1 T_4_2.out).1
    clear hcu
    have O_R3_4 := hid (O_R3_3.out.below HB_4.out)
    have O_S3_4 := hid (O_S3_3.out.below HB_4.out)
    have O_L_4 := hid (O_L_3.out.below HB_4.out)
    have O_l1_4 := hid (O_l1_3.out.below HB_4.out)
    go_upto_if 75 with (fail)
    go_cut [] (fun wx => Hid (Below w4.heap.size w4 wx))
    case first => as_aux_lemma =>
      cases B
      · go_wp2_with fail
        go_meet
        exact hid (Below.refl _ _)
      · obtain ⟨hX, h2, h3, h4, hN8, hall⟩ := rev_yes HR1.out
        have hXs := hX.symm
        clear hX
        subst hXs
        obtain ⟨M, rfl⟩ : ∃ M : Nat, N = M := ⟨N.toNat, by omega⟩
        rw [Int.toNat_natCast] at hall
        have H2 := hid h2
        have HALL := hid hall
        have HLM := hid (OwnS.len O_L_4.out : L.length = m)
        have HLI := hid (O_l1_4.out.len : l1.length = m1)
        clear h2 hall h3 h4
        go_wp2_with fail
        refine (i_ReversedPipe M v2 _ _ _ _ _ _ R S _ ((OwnS.at qf_len O_R3_4.out).below (by go_grown)) (O_S3_4.out.at.below (by go_grown)) (by omega) (by omega) M L l1 true H2.out).mono ?_
        rintro e w5 ⟨p5, q5, r5, t5, rfl, hoa, hob, hap, hb⟩
        have HB_5 := hid (bstep (by go_grown) hb : Below w4.heap.size w4 w5)
        have B_5 := hid (bstep B_4.out HB_5.out)
        have S_5 := HB_5.out.size
        have T_5_1 := hid ((HB_5.out.block w1.heap.size (Array.getElem?_eq_some_iff.1 T_4_1.out).1).trans T_4_1.out)
        have T_5_2 := hid ((HB_5.out.block w2.heap.size (Array.getElem?_eq_some_iff.1 T_4_2.out).1).trans T_4_2.out)
        clear m_4_1_0 m_4_1_1 z_4_1 m_4_2_0 m_4_2_1 z_4_2
        have m_5_1_0 : w5.cell? ⟨w1.heap.size, 0, none⟩ = some (.int .i64 M) := by rw [cell_of_row w5 _ _ _ _ (0, 0) T_5_1.out]; rfl
        have m_5_1_1 : w5.cell? ⟨w1.heap.size, 1, none⟩ = some (.slice a m c) := by rw [cell_of_row w5 _ _ _ _ (0, 0) T_5_1.out]; rfl
        have z_5_1 : w1.heap.size < w5.heap.size := (Array.getElem?_eq_some_iff.1 T_5_1.out).1
        have m_5_2_0 : w5.cell? ⟨w2.heap.size, 0, none⟩ = some (.int .i64 M) := by rw [cell_of_row w5 _ _ _ _ (0, 0) T_5_2.out]; rfl
        have m_5_2_1 : w5.cell? ⟨w2.heap.size, 1, none⟩ = some (.slice p3 R.length q3) := by rw [cell_of_row w5 _ _ _ _ (0, 0) T_5_2.out]; rfl
        have z_5_2 : w2.heap.size < w5.heap.size := (Array.getElem?_eq_some_iff.1 T_5_2.out).1
        clear hb
        clear hap
        rw [HLM.out] at hoa
        rw [HLI.out] at hob
        rw [HLM.out, HLI.out]
        have O_L5 := hid hoa
        clear hoa
        have O_S5 := hid hob
        clear hob
        have O_L_5 := hid (O_L_4.out.below HB_5.out)
        go_wp2_with fail
        refine (l_vNetwork_same M _ _ _ _ _ L _ ((OwnS.at qf_len O_L5.out).below (by go_grown)) ((OwnS.at qf_len O_L_5.out).below (by go_grown)) (by omega)).mono ?_
        rintro e w6 ⟨rfl, hb⟩
        have HB_6 := hid (bstep (by go_grown) hb : Below w5.heap.size w5 w6)
        have B_6 := hid (bstep B_5.out HB_6.out)
        have S_6 := HB_6.out.size
        have T_6_1 := hid ((HB_6.out.block w1.heap.size (Array.getElem?_eq_some_iff.1 T_5_1.out).1).trans T_5_1.out)
        have T_6_2 := hid ((HB_6.out.block w2.heap.size (Array.getElem?_eq_some_iff.1 T_5_2.out).1).trans T_5_2.out)
        have T_6_3 : Hid (w6.heap[w5.heap.size]? = some (.cells #[.int .i64 M, .slice p5 m q5] 26 (0, 0))) := hid (by rw [hb.block _ (by simp <;> omega)]; exact heap_alloc_new _ _)
        clear m_5_1_0 m_5_1_1 z_5_1 m_5_2_0 m_5_2_1 z_5_2
        have m_6_1_0 : w6.cell? ⟨w1.heap.size, 0, none⟩ = some (.int .i64 M) := by rw [cell_of_row w6 _ _ _ _ (0, 0) T_6_1.out]; rfl
        have m_6_1_1 : w6.cell? ⟨w1.heap.size, 1, none⟩ = some (.slice a m c) := by rw [cell_of_row w6 _ _ _ _ (0, 0) T_6_1.out]; rfl
        have z_6_1 : w1.heap.size < w6.heap.size := (Array.getElem?_eq_some_iff.1 T_6_1.out).1
        have m_6_2_0 : w6.cell? ⟨w2.heap.size, 0, none⟩ = some (.int .i64 M) := by rw [cell_of_row w6 _ _ _ _ (0, 0) T_6_2.out]; rfl
        have m_6_2_1 : w6.cell? ⟨w2.heap.size, 1, none⟩ = some (.slice p3 R.length q3) := by rw [cell_of_row w6 _ _ _ _ (0, 0) T_6_2.out]; rfl
        have z_6_2 : w2.heap.size < w6.heap.size := (Array.getElem?_eq_some_iff.1 T_6_2.out).1
        have m_6_3_0 : w6.cell? ⟨w5.heap.size, 0, none⟩ = some (.int .i64 M) := by rw [cell_of_row w6 _ _ _ _ (0, 0) T_6_3.out]; rfl
        have m_6_3_1 : w6.cell? ⟨w5.heap.size, 1, none⟩ = some (.slice p5 m q5) := by rw [cell_of_row w6 _ _ _ _ (0, 0) T_6_3.out]; rfl
        have z_6_3 : w5.heap.size < w6.heap.size := (Array.getElem?_eq_some_iff.1 T_6_3.out).1
        clear hb
        have O_S5_6 := hid (O_S5.out.below HB_6.out)
        have O_l1_6 := hid ((O_l1_4.out.below HB_5.out).below HB_6.out)
        go_wp2_with fail
        refine (l_vInts_same _ _ _ _ _ l1 _ (O_S5_6.out.at.below (by go_grown)) (O_l1_6.out.at.below (by go_grown)) (by omega)).mono ?_
        rintro e w7 ⟨rfl, hb⟩
        have HB_7 := hid (bstep (by go_grown) hb : Below w6.heap.size w6 w7)
        have B_7 := hid (bstep B_6.out HB_7.out)
        have S_7 := HB_7.out.size
        have T_7_1 := hid ((HB_7.out.block w1.heap.size (Array.getElem?_eq_some_iff.1 T_6_1.out).1).trans T_6_1.out)
        have T_7_2 := hid ((HB_7.out.block w2.heap.size (Array.getElem?_eq_some_iff.1 T_6_2.out).1).trans T_6_2.out)
        have T_7_3 := hid ((HB_7.out.block w5.heap.size (Array.getElem?_eq_some_iff.1 T_6_3.out).1).trans T_6_3.out)
        clear m_6_1_0 m_6_1_1 z_6_1 m_6_2_0 m_6_2_1 z_6_2 m_6_3_0 m_6_3_1 z_6_3
        have m_7_1_0 : w7.cell? ⟨w1.heap.size, 0, none⟩ = some (.int .i64 M) := by rw [cell_of_row w7 _ _ _ _ (0, 0) T_7_1.out]; rfl
        have m_7_1_1 : w7.cell? ⟨w1.heap.size, 1, none⟩ = some (.slice a m c) := by rw [cell_of_row w7 _ _ _ _ (0, 0) T_7_1.out]; rfl
        have z_7_1 : w1.heap.size < w7.heap.size := (Array.getElem?_eq_some_iff.1 T_7_1.out).1
        have m_7_2_0 : w7.cell? ⟨w2.heap.size, 0, none⟩ = some (.int .i64 M) := by rw [cell_of_row w7 _ _ _ _ (0, 0) T_7_2.out]; rfl
        have m_7_2_1 : w7.cell? ⟨w2.heap.size, 1, none⟩ = some (.slice p3 R.length q3) := by rw [cell_of_row w7 _ _ _ _ (0, 0) T_7_2.out]; rfl
        have z_7_2 : w2.heap.size < w7.heap.size := (Array.getElem?_eq_some_iff.1 T_7_2.out).1
        have m_7_3_0 : w7.cell? ⟨w5.heap.size, 0, none⟩ = some (.int .i64 M) := by rw [cell_of_row w7 _ _ _ _ (0, 0) T_7_3.out]; rfl
        have m_7_3_1 : w7.cell? ⟨w5.heap.size, 1, none⟩ = some (.slice p5 m q5) := by rw [cell_of_row w7 _ _ _ _ (0, 0) T_7_3.out]; rfl
        have z_7_3 : w5.heap.size < w7.heap.size := (Array.getElem?_eq_some_iff.1 T_7_3.out).1
        clear hb
        have O_L_7 := hid ((O_L_5.out.below HB_6.out).below HB_7.out)
        have O_l1_7 := hid (O_l1_6.out.below HB_7.out)
        have O_R3_7 := hid (((O_R3_4.out.below HB_5.out).below HB_6.out).below HB_7.out)
        have O_S3_7 := hid (((O_S3_4.out.below HB_5.out).below HB_6.out).below HB_7.out)
        go_wp2_with (at_make; refine wpList_make_full _ rfl _ _ 27 rfl w7.heap.size 3 i0 (.int .i64 0) 1 Try.underlying27 HI.out HZ.out HZ1.out _ _ _ _ M rfl rfl rfl rfl (by rw [HZ2.out]; omega) (by unfold maxLen; omega) (Nat.le_refl _) ?_)
        intro w8 hown hgrow
        have HB_8 := hid (below_of_grown hgrow (Nat.le_refl _) (fun k hk => by simp at hk) : Below w7.heap.size w7 w8)
        have B_8 := hid (bstep B_7.out HB_8.out)
        have S_8 := HB_8.out.size
        have T_8_1 := hid ((HB_8.out.block w1.heap.size (Array.getElem?_eq_some_iff.1 T_7_1.out).1).trans T_7_1.out)
        have T_8_2 := hid ((HB_8.out.block w2.heap.size (Array.getElem?_eq_some_iff.1 T_7_2.out).1).trans T_7_2.out)
        have T_8_3 := hid ((HB_8.out.block w5.heap.size (Array.getElem?_eq_some_iff.1 T_7_3.out).1).trans T_7_3.out)
        clear m_7_1_0 m_7_1_1 z_7_1 m_7_2_0 m_7_2_1 z_7_2 m_7_3_0 m_7_3_1 z_7_3
        have m_8_1_0 : w8.cell? ⟨w1.heap.size, 0, none⟩ = some (.int .i64 M) := by rw [cell_of_row w8 _ _ _ _ (0, 0) T_8_1.out]; rfl
        have m_8_1_1 : w8.cell? ⟨w1.heap.size, 1, none⟩ = some (.slice a m c) := by rw [cell_of_row w8 _ _ _ _ (0, 0) T_8_1.out]; rfl
        have z_8_1 : w1.heap.size < w8.heap.size := (Array.getElem?_eq_some_iff.1 T_8_1.out).1
        have m_8_2_0 : w8.cell? ⟨w2.heap.size, 0, none⟩ = some (.int .i64 M) := by rw [cell_of_row w8 _ _ _ _ (0, 0) T_8_2.out]; rfl
        have m_8_2_1 : w8.cell? ⟨w2.heap.size, 1, none⟩ = some (.slice p3 R.length q3) := by rw [cell_of_row w8 _ _ _ _ (0, 0) T_8_2.out]; rfl
        have z_8_2 : w2.heap.size < w8.heap.size := (Array.getElem?_eq_some_iff.1 T_8_2.out).1
        have m_8_3_0 : w8.cell? ⟨w5.heap.size, 0, none⟩ = some (.int .i64 M) := by rw [cell_of_row w8 _ _ _ _ (0, 0) T_8_3.out]; rfl
        have m_8_3_1 : w8.cell? ⟨w5.heap.size, 1, none⟩ = some (.slice p5 m q5) := by rw [cell_of_row w8 _ _ _ _ (0, 0) T_8_3.out]; rfl
        have z_8_3 : w5.heap.size < w8.heap.size := (Array.getElem?_eq_some_iff.1 T_8_3.out).1
        have hzo := OwnI.made hown
        clear hown hgrow
        have O_Z := hid hzo
        clear hzo
        have O_L_8 := hid (O_L_7.out.below HB_8.out)
        have O_l1_8 := hid (O_l1_7.out.below HB_8.out)
        have O_R3_8 := hid (O_R3_7.out.below HB_8.out)
        have O_S3_8 := hid (O_S3_7.out.below HB_8.out)
        go_wp2
        go_loopg [16] M (fun g i wr => ∃ k : Nat, k ≤ M ∧ g = M - k ∧ i = .int .i64 ((k : Int) + 1) ∧ Hid (Below w8.heap.size w8 wr))
        case atStart => exact ⟨0, Nat.zero_le _, rfl, rfl, hid (Below.refl _ _)⟩
        case round =>
          obtain ⟨k, hk, rfl, rfl, hh⟩ := hrel
          obtain ⟨w9, hW9⟩ : ∃ W, W = wr := ⟨_, rfl⟩
          subst hW9
          have HB_9 := hh
          have B_9 := hid (bstep B_8.out HB_9.out)
          have S_9 := HB_9.out.size
          have T_9_1 := hid ((HB_9.out.block w1.heap.size (Array.getElem?_eq_some_iff.1 T_8_1.out).1).trans T_8_1.out)
          have T_9_2 := hid ((HB_9.out.block w2.heap.size (Array.getElem?_eq_some_iff.1 T_8_2.out).1).trans T_8_2.out)
          have T_9_3 := hid ((HB_9.out.block w5.heap.size (Array.getElem?_eq_some_iff.1 T_8_3.out).1).trans T_8_3.out)
          clear m_8_1_0 m_8_1_1 z_8_1 m_8_2_0 m_8_2_1 z_8_2 m_8_3_0 m_8_3_1 z_8_3
          have m_9_1_0 : w9.cell? ⟨w1.heap.size, 0, none⟩ = some (.int .i64 M) := by rw [cell_of_row w9 _ _ _ _ (0, 0) T_9_1.out]; rfl
          have m_9_1_1 : w9.cell? ⟨w1.heap.size, 1, none⟩ = some (.slice a m c) := by rw [cell_of_row w9 _ _ _ _ (0, 0) T_9_1.out]; rfl
          have z_9_1 : w1.heap.size < w9.heap.size := (Array.getElem?_eq_some_iff.1 T_9_1.out).1
          have m_9_2_0 : w9.cell? ⟨w2.heap.size, 0, none⟩ = some (.int .i64 M) := by rw [cell_of_row w9 _ _ _ _ (0, 0) T_9_2.out]; rfl
          have m_9_2_1 : w9.cell? ⟨w2.heap.size, 1, none⟩ = some (.slice p3 R.length q3) := by rw [cell_of_row w9 _ _ _ _ (0, 0) T_9_2.out]; rfl
          have z_9_2 : w2.heap.size < w9.heap.size := (Array.getElem?_eq_some_iff.1 T_9_2.out).1
          have m_9_3_0 : w9.cell? ⟨w5.heap.size, 0, none⟩ = some (.int .i64 M) := by rw [cell_of_row w9 _ _ _ _ (0, 0) T_9_3.out]; rfl
          have m_9_3_1 : w9.cell? ⟨w5.heap.size, 1, none⟩ = some (.slice p5 m q5) := by rw [cell_of_row w9 _ _ _ _ (0, 0) T_9_3.out]; rfl
          have z_9_3 : w5.heap.size < w9.heap.size := (Array.getElem?_eq_some_iff.1 T_9_3.out).1
          have O_L_9 := hid (O_L_8.out.below HB_9.out)
          have O_l1_9 := hid (O_l1_8.out.below HB_9.out)
          have O_R3_9 := hid (O_R3_8.out.below HB_9.out)
          have O_S3_9 := hid (O_S3_8.out.below HB_9.out)
          have O_Z_9 := hid (O_Z.out.below HB_9.out)
          by_cases hlt9 : k < M
          · have hle9 : (k : Int) + 1 ≤ (M : Int) := by omega
            obtain ⟨y, hy1, hy2⟩ := HALL.out k hlt9
            have HY1 := hid hy1
            have HY2 := hid hy2
            clear hy1 hy2
            have hwk : IntKind.i64.wrap ((k : Int) + 1 + 1) = ((k + 1 : Nat) : Int) + 1 := by rw [IntWalk.i64_in _ (by omega)]; omega
            go_wp2_with fail
            refine (i_ImbalanceAt M 1 ((k : Int) + 1) _ _ _ _ _ _ _ _ _ L (List.replicate M 0) l1 _ ((OwnS.at qf_len O_L_9.out).below (by go_grown)) (O_Z_9.out.at.below (by go_grown)) (O_l1_9.out.at.below (by go_grown)) (by omega) (by omega) (by omega) y true HY1.out).mono ?_
            rintro e w10 ⟨rfl, hb⟩
            have HB_10 := hid (bstep (by go_grown) hb : Below w9.heap.size w9 w10)
            have B_10 := hid (bstep B_9.out HB_10.out)
            have S_10 := HB_10.out.size
            have T_10_1 := hid ((HB_10.out.block w1.heap.size (Array.getElem?_eq_some_iff.1 T_9_1.out).1).trans T_9_1.out)
            have T_10_2 := hid ((HB_10.out.block w2.heap.size (Array.getElem?_eq_some_iff.1 T_9_2.out).1).trans T_9_2.out)
            have T_10_3 := hid ((HB_10.out.block w5.heap.size (Array.getElem?_eq_some_iff.1 T_9_3.out).1).trans T_9_3.out)
            clear m_9_1_0 m_9_1_1 z_9_1 m_9_2_0 m_9_2_1 z_9_2 m_9_3_0 m_9_3_1 z_9_3
            have m_10_1_0 : w10.cell? ⟨w1.heap.size, 0, none⟩ = some (.int .i64 M) := by rw [cell_of_row w10 _ _ _ _ (0, 0) T_10_1.out]; rfl
            have m_10_1_1 : w10.cell? ⟨w1.heap.size, 1, none⟩ = some (.slice a m c) := by rw [cell_of_row w10 _ _ _ _ (0, 0) T_10_1.out]; rfl
            have z_10_1 : w1.heap.size < w10.heap.size := (Array.getElem?_eq_some_iff.1 T_10_1.out).1
            have m_10_2_0 : w10.cell? ⟨w2.heap.size, 0, none⟩ = some (.int .i64 M) := by rw [cell_of_row w10 _ _ _ _ (0, 0) T_10_2.out]; rfl
            have m_10_2_1 : w10.cell? ⟨w2.heap.size, 1, none⟩ = some (.slice p3 R.length q3) := by rw [cell_of_row w10 _ _ _ _ (0, 0) T_10_2.out]; rfl
            have z_10_2 : w2.heap.size < w10.heap.size := (Array.getElem?_eq_some_iff.1 T_10_2.out).1
            have m_10_3_0 : w10.cell? ⟨w5.heap.size, 0, none⟩ = some (.int .i64 M) := by rw [cell_of_row w10 _ _ _ _ (0, 0) T_10_3.out]; rfl
            have m_10_3_1 : w10.cell? ⟨w5.heap.size, 1, none⟩ = some (.slice p5 m q5) := by rw [cell_of_row w10 _ _ _ _ (0, 0) T_10_3.out]; rfl
            have z_10_3 : w5.heap.size < w10.heap.size := (Array.getElem?_eq_some_iff.1 T_10_3.out).1
            clear hb
            have O_R3_10 := hid (O_R3_9.out.below HB_10.out)
            have O_Z_10 := hid (O_Z_9.out.below HB_10.out)
            have O_S3_10 := hid (O_S3_9.out.below HB_10.out)
            go_wp2_with fail
            refine (i_ImbalanceAt M 1 ((k : Int) + 1) _ _ _ _ _ _ _ _ _ R (List.replicate M 0) S _ ((OwnS.at qf_len O_R3_10.out).below (by go_grown)) (O_Z_10.out.at.below (by go_grown)) (O_S3_10.out.at.below (by go_grown)) (by omega) (by omega) (by omega) y true HY2.out).mono ?_
            rintro e w11 ⟨rfl, hb⟩
            have HB_11 := hid (bstep (by go_grown) hb : Below w10.heap.size w10 w11)
            have B_11 := hid (bstep B_10.out HB_11.out)
            have S_11 := HB_11.out.size
            have T_11_1 := hid ((HB_11.out.block w1.heap.size (Array.getElem?_eq_some_iff.1 T_10_1.out).1).trans T_10_1.out)
            have T_11_2 := hid ((HB_11.out.block w2.heap.size (Array.getElem?_eq_some_iff.1 T_10_2.out).1).trans T_10_2.out)
            have T_11_3 := hid ((HB_11.out.block w5.heap.size (Array.getElem?_eq_some_iff.1 T_10_3.out).1).trans T_10_3.out)
            clear m_10_1_0 m_10_1_1 z_10_1 m_10_2_0 m_10_2_1 z_10_2 m_10_3_0 m_10_3_1 z_10_3
            have m_11_1_0 : w11.cell? ⟨w1.heap.size, 0, none⟩ = some (.int .i64 M) := by rw [cell_of_row w11 _ _ _ _ (0, 0) T_11_1.out]; rfl
            have m_11_1_1 : w11.cell? ⟨w1.heap.size, 1, none⟩ = some (.slice a m c) := by rw [cell_of_row w11 _ _ _ _ (0, 0) T_11_1.out]; rfl
            have z_11_1 : w1.heap.size < w11.heap.size := (Array.getElem?_eq_some_iff.1 T_11_1.out).1
            have m_11_2_0 : w11.cell? ⟨w2.heap.size, 0, none⟩ = some (.int .i64 M) := by rw [cell_of_row w11 _ _ _ _ (0, 0) T_11_2.out]; rfl
            have m_11_2_1 : w11.cell? ⟨w2.heap.size, 1, none⟩ = some (.slice p3 R.length q3) := by rw [cell_of_row w11 _ _ _ _ (0, 0) T_11_2.out]; rfl
            have z_11_2 : w2.heap.size < w11.heap.size := (Array.getElem?_eq_some_iff.1 T_11_2.out).1
            have m_11_3_0 : w11.cell? ⟨w5.heap.size, 0, none⟩ = some (.int .i64 M) := by rw [cell_of_row w11 _ _ _ _ (0, 0) T_11_3.out]; rfl
            have m_11_3_1 : w11.cell? ⟨w5.heap.size, 1, none⟩ = some (.slice p5 m q5) := by rw [cell_of_row w11 _ _ _ _ (0, 0) T_11_3.out]; rfl
            have z_11_3 : w5.heap.size < w11.heap.size := (Array.getElem?_eq_some_iff.1 T_11_3.out).1
            clear hb
            go_wp2
            go_roundg (M - (k + 1))
            case rel => exact ⟨k + 1, by omega, rfl, rfl, hid (bstep hh.out (bstep HB_10.out HB_11.out))⟩
            case measure => omega
          · obtain rfl : M = k := by omega
            go_wp2_with fail
            go_meet
            exact hid (bstep (bstep (bstep (bstep HB_5.out HB_6.out) HB_7.out) HB_8.out) hh.out)
    case rest => as_aux_lemma =>
      obtain ⟨w5, hW5⟩ : ∃ W, W = wc := ⟨_, rfl⟩
      subst hW5
      have HB_5 := hcut
      have B_5 := hid (bstep B_4.out HB_5.out)
      have S_5 := HB_5.out.size
      have T_5_1 := hid ((HB_5.out.block w1.heap.size (Array.getElem?_eq_some_iff.1 T_4_1.out).1).trans T_4_1.out)
      have T_5_2 := hid ((HB_5.out.block w2.heap.size (Array.getElem?_eq_some_iff.1 T_4_2.out).1).trans T_4_2.out)
      clear m_4_1_0 m_4_1_1 z_4_1 m_4_2_0 m_4_2_1 z_4_2
      have m_5_1_0 : w5.cell? ⟨w1.heap.size, 0, none⟩ = some (.int .i64 N) := by rw [cell_of_row w5 _ _ _ _ (0, 0) T_5_1.out]; rfl
      have m_5_1_1 : w5.cell? ⟨w1.heap.size, 1, none⟩ = some (.slice a m c) := by rw [cell_of_row w5 _ _ _ _ (0, 0) T_5_1.out]; rfl
      have z_5_1 : w1.heap.size < w5.heap.size := (Array.getElem?_eq_some_iff.1 T_5_1.out).1
      have m_5_2_0 : w5.cell? ⟨w2.heap.size, 0, none⟩ = some (.int .i64 X) := by rw [cell_of_row w5 _ _ _ _ (0, 0) T_5_2.out]; rfl
      have m_5_2_1 : w5.cell? ⟨w2.heap.size, 1, none⟩ = some (.slice p3 R.length q3) := by rw [cell_of_row w5 _ _ _ _ (0, 0) T_5_2.out]; rfl
      have z_5_2 : w2.heap.size < w5.heap.size := (Array.getElem?_eq_some_iff.1 T_5_2.out).1
      go_wp2_with fail
      refine (s_DrawSpanningTree _ _ _ _ ((H_code.out.below B_5.out).below (by go_grown))).mono ?_
      rintro e w6 ⟨N7, a7, m7, c7, L7, rfl, hq, ⟨⟨hN7, hN8⟩, hm7⟩, hb⟩
      have HB_6 := hid (bstep (by go_grown) hb : Below w5.heap.size w5 w6)
      have B_6 := hid (bstep B_5.out HB_6.out)
      have S_6 := HB_6.out.size
      have T_6_1 := hid ((HB_6.out.block w1.heap.size (Array.getElem?_eq_some_iff.1 T_5_1.out).1).trans T_5_1.out)
      have T_6_2 := hid ((HB_6.out.block w2.heap.size (Array.getElem?_eq_some_iff.1 T_5_2.out).1).trans T_5_2.out)
      clear m_5_1_0 m_5_1_1 z_5_1 m_5_2_0 m_5_2_1 z_5_2
      clear hb
      have O_L7 := hid hq
      clear hq
      obtain ⟨X8, R8, B8, hR⟩ : ∃ X8 R8 B8, spanR N7 L7 = (X8, R8, B8) := ⟨_, _, _, rfl⟩
      have HR2 := hid hR
      clear hR
      go_wp2_with fail
      refine (i_SpanningTree' N7 _ _ _ L7 _ ((OwnS.at qf_len O_L7.out).below (by go_grown)) (by omega) X8 R8 B8 HR2.out).mono ?_
      rintro e w7 ⟨p8, q8, rfl, hoa, hb⟩
      have HB_7 := hid (bstep (by go_grown) hb : Below w6.heap.size w6 w7)
      have B_7 := hid (bstep B_6.out HB_7.out)
      have S_7 := HB_7.out.size
      have T_7_1 := hid ((HB_7.out.block w1.heap.size (Array.getElem?_eq_some_iff.1 T_6_1.out).1).trans T_6_1.out)
      have T_7_2 := hid ((HB_7.out.block w2.heap.size (Array.getElem?_eq_some_iff.1 T_6_2.out).1).trans T_6_2.out)
      have T_7_3 : Hid (w7.heap[w6.heap.size]? = some (.cells #[.int .i64 N7, .slice a7 m7 c7] 26 (0, 0))) := hid (by rw [hb.block _ (by simp <;> omega)]; exact heap_alloc_new _ _)
      have m_7_3_0 : w7.cell? ⟨w6.heap.size, 0, none⟩ = some (.int .i64 N7) := by rw [cell_of_row w7 _ _ _ _ (0, 0) T_7_3.out]; rfl
      have m_7_3_1 : w7.cell? ⟨w6.heap.size, 1, none⟩ = some (.slice a7 m7 c7) := by rw [cell_of_row w7 _ _ _ _ (0, 0) T_7_3.out]; rfl
      have z_7_3 : w6.heap.size < w7.heap.size := (Array.getElem?_eq_some_iff.1 T_7_3.out).1
      clear hb
      have O_R8 := hid hoa
      clear hoa
      have O_L7_7 := hid (O_L7.out.below HB_7.out)
      go_wp2_with fail
      refine (s_SpanningTree' N7 _ _ _ L7 _ ((OwnS.at qf_len O_L7_7.out).below (by go_grown)) (by omega) X8 R8 B8 HR2.out).mono ?_
      rintro e w8 ⟨p9, q9, rfl, hoa, hb⟩
      have HB_8 := hid (bstep (by go_grown) hb : Below w7.heap.size w7 w8)
      have B_8 := hid (bstep B_7.out HB_8.out)
      have S_8 := HB_8.out.size
      have T_8_1 := hid ((HB_8.out.block w1.heap.size (Array.getElem?_eq_some_iff.1 T_7_1.out).1).trans T_7_1.out)
      have T_8_2 := hid ((HB_8.out.block w2.heap.size (Array.getElem?_eq_some_iff.1 T_7_2.out).1).trans T_7_2.out)
      have T_8_3 := hid ((HB_8.out.block w6.heap.size (Array.getElem?_eq_some_iff.1 T_7_3.out).1).trans T_7_3.out)
      have T_8_4 : Hid (w8.heap[w7.heap.size]? = some (.cells #[.int .i64 X8, .slice p8 R8.length q8] 26 (0, 0))) := hid (by rw [hb.block _ (by simp <;> omega)]; exact heap_alloc_new _ _)
      clear m_7_3_0 m_7_3_1 z_7_3
      have m_8_3_0 : w8.cell? ⟨w6.heap.size, 0, none⟩ = some (.int .i64 N7) := by rw [cell_of_row w8 _ _ _ _ (0, 0) T_8_3.out]; rfl
      have m_8_3_1 : w8.cell? ⟨w6.heap.size, 1, none⟩ = some (.slice a7 m7 c7) := by rw [cell_of_row w8 _ _ _ _ (0, 0) T_8_3.out]; rfl
      have z_8_3 : w6.heap.size < w8.heap.size := (Array.getElem?_eq_some_iff.1 T_8_3.out).1
      have m_8_4_0 : w8.cell? ⟨w7.heap.size, 0, none⟩ = some (.int .i64 X8) := by rw [cell_of_row w8 _ _ _ _ (0, 0) T_8_4.out]; rfl
      have m_8_4_1 : w8.cell? ⟨w7.heap.size, 1, none⟩ = some (.slice p8 R8.length q8) := by rw [cell_of_row w8 _ _ _ _ (0, 0) T_8_4.out]; rfl
      have z_8_4 : w7.heap.size < w8.heap.size := (Array.getElem?_eq_some_iff.1 T_8_4.out).1
      clear hb
      have O_R9 := hid hoa
      clear hoa
      have hlr8 := spanR_len HR2.out
      have O_R8_8 := hid (O_R8.out.below HB_8.out)
      go_upto_region 23 with fail
      go_cut [154] (fun s154 wx => s154 = .bool false ∧ Hid (Below w8.heap.size w8 wx))
      case first => as_aux_lemma =>
        go_wp2_with fail
        refine (l_vNetwork_same X8 _ _ _ _ _ R8 _ ((OwnS.at qf_len O_R8_8.out).below (by go_grown)) ((OwnS.at qf_len O_R9.out).below (by go_grown)) (by omega)).mono ?_
        rintro e w9 ⟨rfl, hb⟩
        have HB_9 := hid (bstep (by go_grown) hb : Below w8.heap.size w8 w9)
        have B_9 := hid (bstep B_8.out HB_9.out)
        have S_9 := HB_9.out.size
        have T_9_1 := hid ((HB_9.out.block w1.heap.size (Array.getElem?_eq_some_iff.1 T_8_1.out).1).trans T_8_1.out)
        have T_9_2 := hid ((HB_9.out.block w2.heap.size (Array.getElem?_eq_some_iff.1 T_8_2.out).1).trans T_8_2.out)
        have T_9_3 := hid ((HB_9.out.block w6.heap.size (Array.getElem?_eq_some_iff.1 T_8_3.out).1).trans T_8_3.out)
        have T_9_4 := hid ((HB_9.out.block w7.heap.size (Array.getElem?_eq_some_iff.1 T_8_4.out).1).trans T_8_4.out)
        have T_9_5 : Hid (w9.heap[w8.heap.size]? = some (.cells #[.int .i64 X8, .slice p9 R8.length q9] 26 (0, 0))) := hid (by rw [hb.block _ (by simp <;> omega)]; exact heap_alloc_new _ _)
        clear m_8_3_0 m_8_3_1 z_8_3 m_8_4_0 m_8_4_1 z_8_4
        have m_9_3_0 : w9.cell? ⟨w6.heap.size, 0, none⟩ = some (.int .i64 N7) := by rw [cell_of_row w9 _ _ _ _ (0, 0) T_9_3.out]; rfl
        have m_9_3_1 : w9.cell? ⟨w6.heap.size, 1, none⟩ = some (.slice a7 m7 c7) := by rw [cell_of_row w9 _ _ _ _ (0, 0) T_9_3.out]; rfl
        have z_9_3 : w6.heap.size < w9.heap.size := (Array.getElem?_eq_some_iff.1 T_9_3.out).1
        have m_9_4_0 : w9.cell? ⟨w7.heap.size, 0, none⟩ = some (.int .i64 X8) := by rw [cell_of_row w9 _ _ _ _ (0, 0) T_9_4.out]; rfl
        have m_9_4_1 : w9.cell? ⟨w7.heap.size, 1, none⟩ = some (.slice p8 R8.length q8) := by rw [cell_of_row w9 _ _ _ _ (0, 0) T_9_4.out]; rfl
        have z_9_4 : w7.heap.size < w9.heap.size := (Array.getElem?_eq_some_iff.1 T_9_4.out).1
        have m_9_5_0 : w9.cell? ⟨w8.heap.size, 0, none⟩ = some (.int .i64 X8) := by rw [cell_of_row w9 _ _ _ _ (0, 0) T_9_5.out]; rfl
        have m_9_5_1 : w9.cell? ⟨w8.heap.size, 1, none⟩ = some (.slice p9 R8.length q9) := by rw [cell_of_row w9 _ _ _ _ (0, 0) T_9_5.out]; rfl
        have z_9_5 : w8.heap.size < w9.heap.size := (Array.getElem?_eq_some_iff.1 T_9_5.out).1
        clear hb
        go_wp2_with fail
        go_meet
        exact ⟨rfl, hid HB_9.out⟩
      case rest => as_aux_lemma =>
        obtain ⟨rfl, hcu⟩ := hcut
        obtain ⟨w9, hW9⟩ : ∃ W, W = wc := ⟨_, rfl⟩
        subst hW9
        have HB_9 := hcu
        have B_9 := hid (bstep B_8.out HB_9.out)
        have S_9 := HB_9.out.size
        have T_9_1 := hid ((HB_9.out.block w1.heap.size (Array.getElem?_eq_some_iff.1 T_8_1.out).1).trans T_8_1.out)
        have T_9_2 := hid ((HB_9.out.block w2.heap.size (Array.getElem?_eq_some_iff.1 T_8_2.out).1).trans T_8_2.out)
        have T_9_3 := hid ((HB_9.out.block w6.heap.size (Array.getElem?_eq_some_iff.1 T_8_3.out).1).trans T_8_3.out)
        have T_9_4 := hid ((HB_9.out.block w7.heap.size (Array.getElem?_eq_some_iff.1 T_8_4.out).1).trans T_8_4.out)
        clear m_8_3_0 m_8_3_1 z_8_3 m_8_4_0 m_8_4_1 z_8_4
        have m_9_3_0 : w9.cell? ⟨w6.heap.size, 0, none⟩ = some (.int .i64 N7) := by rw [cell_of_row w9 _ _ _ _ (0, 0) T_9_3.out]; rfl
        have m_9_3_1 : w9.cell? ⟨w6.heap.size, 1, none⟩ = some (.slice a7 m7 c7) := by rw [cell_of_row w9 _ _ _ _ (0, 0) T_9_3.out]; rfl
        have z_9_3 : w6.heap.size < w9.heap.size := (Array.getElem?_eq_some_iff.1 T_9_3.out).1
        have m_9_4_0 : w9.cell? ⟨w7.heap.size, 0, none⟩ = some (.int .i64 X8) := by rw [cell_of_row w9 _ _ _ _ (0, 0) T_9_4.out]; rfl
        have m_9_4_1 : w9.cell? ⟨w7.heap.size, 1, none⟩ = some (.slice p8 R8.length q8) := by rw [cell_of_row w9 _ _ _ _ (0, 0) T_9_4.out]; rfl
        have z_9_4 : w7.heap.size < w9.heap.size := (Array.getElem?_eq_some_iff.1 T_9_4.out).1
        clear hcu
        have O_R8_9 := hid (O_R8_8.out.below HB_9.out)
        go_upto_if 155 with (fail)
        go_cut [] (fun wx => Hid (Below w9.heap.size w9 wx))
        case first => as_aux_lemma =>
          cases B8
          · go_wp2_with fail
            go_meet
            exact hid (Below.refl _ _)
          · obtain ⟨hX, h2, h3⟩ := span_tree HR2.out
            have hXs := hX.symm
            clear hX
            subst hXs
            have H2 := hid h2
            clear h2 h3
            go_wp2_with fail
            refine (i_IsTreeNetwork N7 _ _ _ R8 _ ((OwnS.at qf_len O_R8_9.out).below (by go_grown)) (by omega) true true H2.out).mono ?_
            rintro e w10 ⟨rfl, hb⟩
            have HB_10 := hid (bstep (by go_grown) hb : Below w9.heap.size w9 w10)
            have B_10 := hid (bstep B_9.out HB_10.out)
            have S_10 := HB_10.out.size
            have T_10_1 := hid ((HB_10.out.block w1.heap.size (Array.getElem?_eq_some_iff.1 T_9_1.out).1).trans T_9_1.out)
            have T_10_2 := hid ((HB_10.out.block w2.heap.size (Array.getElem?_eq_some_iff.1 T_9_2.out).1).trans T_9_2.out)
            have T_10_3 := hid ((HB_10.out.block w6.heap.size (Array.getElem?_eq_some_iff.1 T_9_3.out).1).trans T_9_3.out)
            have T_10_4 := hid ((HB_10.out.block w7.heap.size (Array.getElem?_eq_some_iff.1 T_9_4.out).1).trans T_9_4.out)
            clear m_9_3_0 m_9_3_1 z_9_3 m_9_4_0 m_9_4_1 z_9_4
            have m_10_3_0 : w10.cell? ⟨w6.heap.size, 0, none⟩ = some (.int .i64 N7) := by rw [cell_of_row w10 _ _ _ _ (0, 0) T_10_3.out]; rfl
            have m_10_3_1 : w10.cell? ⟨w6.heap.size, 1, none⟩ = some (.slice a7 m7 c7) := by rw [cell_of_row w10 _ _ _ _ (0, 0) T_10_3.out]; rfl
            have z_10_3 : w6.heap.size < w10.heap.size := (Array.getElem?_eq_some_iff.1 T_10_3.out).1
            have m_10_4_0 : w10.cell? ⟨w7.heap.size, 0, none⟩ = some (.int .i64 N7) := by rw [cell_of_row w10 _ _ _ _ (0, 0) T_10_4.out]; rfl
            have m_10_4_1 : w10.cell? ⟨w7.heap.size, 1, none⟩ = some (.slice p8 R8.length q8) := by rw [cell_of_row w10 _ _ _ _ (0, 0) T_10_4.out]; rfl
            have z_10_4 : w7.heap.size < w10.heap.size := (Array.getElem?_eq_some_iff.1 T_10_4.out).1
            clear hb
            go_wp2_with fail
            go_meet
            exact hid HB_10.out
        case rest => as_aux_lemma =>
          obtain ⟨w10, hW10⟩ : ∃ W, W = wc := ⟨_, rfl⟩
          subst hW10
          have HB_10 := hcut
          have B_10 := hid (bstep B_9.out HB_10.out)
          have S_10 := HB_10.out.size
          have T_10_1 := hid ((HB_10.out.block w1.heap.size (Array.getElem?_eq_some_iff.1 T_9_1.out).1).trans T_9_1.out)
          have T_10_2 := hid ((HB_10.out.block w2.heap.size (Array.getElem?_eq_some_iff.1 T_9_2.out).1).trans T_9_2.out)
          have T_10_3 := hid ((HB_10.out.block w6.heap.size (Array.getElem?_eq_some_iff.1 T_9_3.out).1).trans T_9_3.out)
          have T_10_4 := hid ((HB_10.out.block w7.heap.size (Array.getElem?_eq_some_iff.1 T_9_4.out).1).trans T_9_4.out)
          clear m_9_3_0 m_9_3_1 z_9_3 m_9_4_0 m_9_4_1 z_9_4
          have m_10_3_0 : w10.cell? ⟨w6.heap.size, 0, none⟩ = some (.int .i64 N7) := by rw [cell_of_row w10 _ _ _ _ (0, 0) T_10_3.out]; rfl
          have m_10_3_1 : w10.cell? ⟨w6.heap.size, 1, none⟩ = some (.slice a7 m7 c7) := by rw [cell_of_row w10 _ _ _ _ (0, 0) T_10_3.out]; rfl
          have z_10_3 : w6.heap.size < w10.heap.size := (Array.getElem?_eq_some_iff.1 T_10_3.out).1
          have m_10_4_0 : w10.cell? ⟨w7.heap.size, 0, none⟩ = some (.int .i64 X8) := by rw [cell_of_row w10 _ _ _ _ (0, 0) T_10_4.out]; rfl
          have m_10_4_1 : w10.cell? ⟨w7.heap.size, 1, none⟩ = some (.slice p8 R8.length q8) := by rw [cell_of_row w10 _ _ _ _ (0, 0) T_10_4.out]; rfl
          have z_10_4 : w7.heap.size < w10.heap.size := (Array.getElem?_eq_some_iff.1 T_10_4.out).1
          go_wp2_with fail
          refine (s_DrawHeaviestPipe _ _ _ _ ((H_code.out.below B_10.out).below (by go_grown))).mono ?_
          rintro e w11 ⟨N10, a10, m10, c10, L10, a11, m11, c11, l11, rfl, hq, ho11, ⟨⟨hN10, hN11⟩, hm10, hm11⟩, hb⟩
          have HB_11 := hid (bstep (by go_grown) hb : Below w10.heap.size w10 w11)
          have B_11 := hid (bstep B_10.out HB_11.out)
          have S_11 := HB_11.out.size
          have T_11_1 := hid ((HB_11.out.block w1.heap.size (Array.getElem?_eq_some_iff.1 T_10_1.out).1).trans T_10_1.out)
          have T_11_2 := hid ((HB_11.out.block w2.heap.size (Array.getElem?_eq_some_iff.1 T_10_2.out).1).trans T_10_2.out)
          have T_11_3 := hid ((HB_11.out.block w6.heap.size (Array.getElem?_eq_some_iff.1 T_10_3.out).1).trans T_10_3.out)
          have T_11_4 := hid ((HB_11.out.block w7.heap.size (Array.getElem?_eq_some_iff.1 T_10_4.out).1).trans T_10_4.out)
          clear m_10_3_0 m_10_3_1 z_10_3 m_10_4_0 m_10_4_1 z_10_4
          clear hb
          have O_L10 := hid hq
          clear hq
          have O_l11 := hid ho11
          clear ho11
          obtain ⟨x12, y12, z12, hR⟩ : ∃ x12 y12 z12, heavyR N10 L10 l11 = (x12, y12, z12) := ⟨_, _, _, rfl⟩
          have HR3 := hid hR
          clear hR
          go_wp2_with fail
          refine (i_HeaviestPipe N10 _ _ _ _ _ _ L10 l11 _ ((OwnS.at qf_len O_L10.out).below (by go_grown)) (O_l11.out.at.below (by go_grown)) (by omega) (by omega) x12 y12 z12 HR3.out).mono ?_
          rintro e w12 ⟨rfl, hb⟩
          have HB_12 := hid (bstep (by go_grown) hb : Below w11.heap.size w11 w12)
          have B_12 := hid (bstep B_11.out HB_12.out)
          have S_12 := HB_12.out.size
          have T_12_1 := hid ((HB_12.out.block w1.heap.size (Array.getElem?_eq_some_iff.1 T_11_1.out).1).trans T_11_1.out)
          have T_12_2 := hid ((HB_12.out.block w2.heap.size (Array.getElem?_eq_some_iff.1 T_11_2.out).1).trans T_11_2.out)
          have T_12_3 := hid ((HB_12.out.block w6.heap.size (Array.getElem?_eq_some_iff.1 T_11_3.out).1).trans T_11_3.out)
          have T_12_4 := hid ((HB_12.out.block w7.heap.size (Array.getElem?_eq_some_iff.1 T_11_4.out).1).trans T_11_4.out)
          have T_12_5 : Hid (w12.heap[w11.heap.size]? = some (.cells #[.int .i64 N10, .slice a10 m10 c10] 26 (0, 0))) := hid (by rw [hb.block _ (by simp <;> omega)]; exact heap_alloc_new _ _)
          have m_12_5_0 : w12.cell? ⟨w11.heap.size, 0, none⟩ = some (.int .i64 N10) := by rw [cell_of_row w12 _ _ _ _ (0, 0) T_12_5.out]; rfl
          have m_12_5_1 : w12.cell? ⟨w11.heap.size, 1, none⟩ = some (.slice a10 m10 c10) := by rw [cell_of_row w12 _ _ _ _ (0, 0) T_12_5.out]; rfl
          have z_12_5 : w11.heap.size < w12.heap.size := (Array.getElem?_eq_some_iff.1 T_12_5.out).1
          clear hb
          have O_L10_12 := hid (O_L10.out.below HB_12.out)
          have O_l11_12 := hid (O_l11.out.below HB_12.out)
          go_wp2_with fail
          refine (s_HeaviestPipe N10 _ _ _ _ _ _ L10 l11 _ ((OwnS.at qf_len O_L10_12.out).below (by go_grown)) (O_l11_12.out.at.below (by go_grown)) (by omega) (by omega) x12 y12 z12 HR3.out).mono ?_
          rintro e w13 ⟨rfl, hb⟩
          have HB_13 := hid (bstep (by go_grown) hb : Below w12.heap.size w12 w13)
          have B_13 := hid (bstep B_12.out HB_13.out)
          have S_13 := HB_13.out.size
          have T_13_1 := hid ((HB_13.out.block w1.heap.size (Array.getElem?_eq_some_iff.1 T_12_1.out).1).trans T_12_1.out)
          have T_13_2 := hid ((HB_13.out.block w2.heap.size (Array.getElem?_eq_some_iff.1 T_12_2.out).1).trans T_12_2.out)
          have T_13_3 := hid ((HB_13.out.block w6.heap.size (Array.getElem?_eq_some_iff.1 T_12_3.out).1).trans T_12_3.out)
          have T_13_4 := hid ((HB_13.out.block w7.heap.size (Array.getElem?_eq_some_iff.1 T_12_4.out).1).trans T_12_4.out)
          have T_13_5 := hid ((HB_13.out.block w11.heap.size (Array.getElem?_eq_some_iff.1 T_12_5.out).1).trans T_12_5.out)
          clear m_12_5_0 m_12_5_1 z_12_5
          have m_13_5_0 : w13.cell? ⟨w11.heap.size, 0, none⟩ = some (.int .i64 N10) := by rw [cell_of_row w13 _ _ _ _ (0, 0) T_13_5.out]; rfl
          have m_13_5_1 : w13.cell? ⟨w11.heap.size, 1, none⟩ = some (.slice a10 m10 c10) := by rw [cell_of_row w13 _ _ _ _ (0, 0) T_13_5.out]; rfl
          have z_13_5 : w11.heap.size < w13.heap.size := (Array.getElem?_eq_some_iff.1 T_13_5.out).1
          clear hb
          go_wp2
          go_ret
          exact ⟨rfl, B_13.out⟩

set_option maxRecDepth 100000 in
theorem fnPipes_lifted (os : Os) (started : os.Started) (H : Type) (enc : TypeId × Value → H) :
    ReturnsInHanded {} Try.checked os 4 .any (Rows.fnPipesSpec.pre6 enc Try.prog Try.f4 Rows.fnPipesRow.domain false) (Rows.fnPipesSpec.post enc Try.prog Try.f4 false true false false) := by
  refine returnsInHanded_of_change (C := Try.checked) Try.own started (by kernel_rfl) Try.func4
    (ChangeSpec.witness6 (enc := enc) (C := Try.checked) false ⟨#[], #[.slice none 0 0], []⟩ 8 (by kernel_rfl) (by kernel_rfl) (by kernel_rfl) (by kernel_rfl)) ?_
  intro W base args ds gs before hval0 hW _ _
  have hval : ∀ (j : Nat) t v, Try.f4.params[j]? = some t → args[j]? = some v → Value.okWide Try.prog W .any base t v := hval0
  have hW' : DataW.Whole enc Try.prog Try.f4.params.toList Rows.fnPipesSpec.vars false W args.toList ds gs before := hW
  obtain ⟨p, q, hA0, hV, rfl, hfz, hnd⟩ := hW
  have hlt : ∀ x ∈ p, x.block < W.heap.size := fun x hx => hW'.lt x (by simp [hx])
  have hA : DataW.TrodAll enc Try.prog W 0 (fun _ => true) true Try.f4.params.toList args.toList ds p := hA0
  rw [Try.params4] at hA hval
  clear hA0 hval0
  obtain ⟨v0, d0, rfl, rfl, h0⟩ := trodAll_one hA
  obtain ⟨rfl, rfl⟩ := trodVars_none hV
  obtain ⟨x0, n0, k0, rfl, g0⟩ := open_bytes (hval 0 22 v0 rfl rfl) h0
  refine (law_FnPipes x0 n0 k0 W g0).mono fun e W' ⟨he, hb⟩ => ?_
  subst he
  exact ⟨_, rfl, law_post rfl rfl (by kernel_rfl) hW' rfl rfl rfl hb⟩

theorem fnPipes_proved : Rows.FnPipesSaid :=
  OpenClaim.holds_of_wide 4 Try.f4 rfl rfl rfl rfl rfl rfl rfl ⟨rfl, rfl, rfl, rfl, rfl⟩ rfl rfl rfl rfl rfl (by kernel_rfl) Try.func4 (by kernel_rfl)
    (of_decide_eq_true (by kernel_rfl)) (by unfold Func.isWrapper; first | (rw [if_pos (by decide +kernel)]; kernel_rfl) | (rw [if_neg (by decide +kernel)]; exact ⟨rfl, rfl⟩))
    (fun os started H enc _ => fnPipes_lifted os started H enc)

end Go.Proofs.Ytlnhikhpkcgegaa

