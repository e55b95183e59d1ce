/-
  The law FnProfiles returns true for every input, and leaves its argument as it was. No condition.
-/
import Derived.Deep.CutBlock
import Derived.Test.YtpmffboojkfpdaaPr2
import Derived.Test.YtpmffboojkfpdaaPr4
import Derived.Test.YtpmffboojkfpdaaPr5
import Derived.Test.YtpmffboojkfpdaaPr7
set_option linter.unusedVariables false
set_option linter.unusedSimpArgs false
namespace Go.Proofs.Ytpmffboojkfpdaa
open Go.ChangeShapes Go.WideShapes Go.ChangeAt Go.RowKit Go.Joins

set_option maxRecDepth 100000 in
set_option maxHeartbeats 16000000 in
theorem law_FnProfiles (a0 : Option Addr) (n0 c0 : Nat) (w : World) (h : BytesAt w a0 n0) :
    Calls Try.prog 8 #[.slice a0 n0 c0] w fun e w' => e = .returned (.bool true) ∧ Below w.heap.size w w' := by
  have H_code := hid h
  clear h
  by_cases hn : 65536 < n0
  · have hv : decide (65536 < n0) = true := by simpa using hn
    go_enter Try.func8, Try.ntmps8
    go_wp2_with fail
    refine (l_rBig _ _ _ _).mono ?_
    rintro e _ ⟨rfl, rfl⟩
    go_wp2
    go_ret
    exact ⟨rfl, Below.refl _ _⟩
  have hv : decide (65536 < n0) = false := by simpa using hn
  go_enter Try.func8, Try.ntmps8
  go_wp2_with fail
  refine (l_rBig _ _ _ _).mono ?_
  rintro e _ ⟨rfl, rfl⟩
  rw [hv]
  clear hn hv
  go_wp2_with fail
  refine (s_DrawShiftProfile _ _ _ _ (H_code.out.below (by go_grown))).mono ?_
  rintro e w1 ⟨a, n, c, L, q, rfl, ⟨hq, hn1⟩, hb⟩
  have HB_1 := hid (bstep (by go_grown) hb : Below w.heap.size w w1)
  have B_1 := HB_1
  have S_1 := HB_1.out.size
  clear hb
  have O_L := hid hq
  clear hq
  obtain ⟨R, B, hR⟩ : ∃ R B, shiftR L q = (R, B) := ⟨_, _, rfl⟩
  have HR1 := hid hR
  clear hR
  have hlr : R.length ≤ 24 := shiftR_len HR1.out
  go_wp2_with fail
  refine (i_ShiftProfile _ _ _ q L _ (O_L.out.below (by go_grown)) (by omega) R B HR1.out).mono ?_
  rintro e w2 ⟨p4, k4, rfl, ho, hb⟩
  have HB_2 := hid (bstep (by go_grown) hb : Below w1.heap.size w1 w2)
  have B_2 := hid (bstep B_1.out HB_2.out)
  have S_2 := HB_2.out.size
  have T_2_1 : Hid (w2.heap[w1.heap.size]? = some (.cells #[.slice a n c] 26 (0, 0))) := hid (by rw [hb.block _ (by simp <;> omega)]; exact heap_alloc_new _ _)
  have m_2_1_0 : w2.cell? ⟨w1.heap.size, 0, none⟩ = some (.slice a n c) := by rw [cell_of_row w2 _ _ _ _ (0, 0) T_2_1.out]; rfl
  have z_2_1 : w1.heap.size < w2.heap.size := (Array.getElem?_eq_some_iff.1 T_2_1.out).1
  clear hb
  have O_R4 := hid ho
  clear ho
  have O_L_2 := hid (O_L.out.below HB_2.out)
  go_wp2_with fail
  refine (s_ShiftProfile _ _ _ q L _ (O_L_2.out.below (by go_grown)) (by omega) R B HR1.out).mono ?_
  rintro e w3 ⟨p5, k5, rfl, ho, hb⟩
  have HB_3 := hid (bstep (by go_grown) hb : Below w2.heap.size w2 w3)
  have B_3 := hid (bstep B_2.out HB_3.out)
  have S_3 := HB_3.out.size
  have T_3_1 := hid ((HB_3.out.block w1.heap.size (Array.getElem?_eq_some_iff.1 T_2_1.out).1).trans T_2_1.out)
  have T_3_2 : Hid (w3.heap[w2.heap.size]? = some (.cells #[.slice p4 R.length k4] 26 (0, 0))) := hid (by rw [hb.block _ (by simp <;> omega)]; exact heap_alloc_new _ _)
  clear m_2_1_0 z_2_1
  have m_3_1_0 : w3.cell? ⟨w1.heap.size, 0, none⟩ = some (.slice a n c) := by rw [cell_of_row w3 _ _ _ _ (0, 0) T_3_1.out]; rfl
  have z_3_1 : w1.heap.size < w3.heap.size := (Array.getElem?_eq_some_iff.1 T_3_1.out).1
  have m_3_2_0 : w3.cell? ⟨w2.heap.size, 0, none⟩ = some (.slice p4 R.length k4) := by rw [cell_of_row w3 _ _ _ _ (0, 0) T_3_2.out]; rfl
  have z_3_2 : w2.heap.size < w3.heap.size := (Array.getElem?_eq_some_iff.1 T_3_2.out).1
  clear hb
  have O_R5 := hid ho
  clear ho
  have O_R4_3 := hid (O_R4.out.below HB_3.out)
  have O_L_3 := hid (O_L_2.out.below HB_3.out)
  go_upto_region 6 with fail
  go_cut [70] (fun s70 wx => s70 = .bool false ∧ Hid (Below w3.heap.size w3 wx))
  case first => as_aux_lemma =>
    go_wp2_with fail
    refine (l_rInts_same _ _ _ _ _ R _ (O_R4_3.out.at.below (by go_grown)) (O_R5.out.at.below (by go_grown)) (by omega)).mono ?_
    rintro e w4 ⟨rfl, hb⟩
    have HB_4 := hid (bstep (by go_grown) hb : Below w3.heap.size w3 w4)
    have B_4 := hid (bstep B_3.out HB_4.out)
    have S_4 := HB_4.out.size
    have T_4_1 := hid ((HB_4.out.block w1.heap.size (Array.getElem?_eq_some_iff.1 T_3_1.out).1).trans T_3_1.out)
    have T_4_2 := hid ((HB_4.out.block w2.heap.size (Array.getElem?_eq_some_iff.1 T_3_2.out).1).trans T_3_2.out)
    have T_4_3 : Hid (w4.heap[w3.heap.size]? = some (.cells #[.slice p5 R.length k5] 26 (0, 0))) := hid (by rw [hb.block _ (by simp <;> omega)]; exact heap_alloc_new _ _)
    clear m_3_1_0 z_3_1 m_3_2_0 z_3_2
    have m_4_1_0 : w4.cell? ⟨w1.heap.size, 0, none⟩ = some (.slice a n c) := by rw [cell_of_row w4 _ _ _ _ (0, 0) T_4_1.out]; rfl
    have z_4_1 : w1.heap.size < w4.heap.size := (Array.getElem?_eq_some_iff.1 T_4_1.out).1
    have m_4_2_0 : w4.cell? ⟨w2.heap.size, 0, none⟩ = some (.slice p4 R.length k4) := by rw [cell_of_row w4 _ _ _ _ (0, 0) T_4_2.out]; rfl
    have z_4_2 : w2.heap.size < w4.heap.size := (Array.getElem?_eq_some_iff.1 T_4_2.out).1
    have m_4_3_0 : w4.cell? ⟨w3.heap.size, 0, none⟩ = some (.slice p5 R.length k5) := by rw [cell_of_row w4 _ _ _ _ (0, 0) T_4_3.out]; rfl
    have z_4_3 : w3.heap.size < w4.heap.size := (Array.getElem?_eq_some_iff.1 T_4_3.out).1
    clear hb
    go_wp2_with fail
    go_meet
    exact ⟨rfl, hid HB_4.out⟩
  case rest => as_aux_lemma =>
    obtain ⟨rfl, hcu⟩ := hcut
    obtain ⟨w4, hW4⟩ : ∃ W, W = wc := ⟨_, rfl⟩
    subst hW4
    have HB_4 := hcu
    have B_4 := hid (bstep B_3.out HB_4.out)
    have S_4 := HB_4.out.size
    have T_4_1 := hid ((HB_4.out.block w1.heap.size (Array.getElem?_eq_some_iff.1 T_3_1.out).1).trans T_3_1.out)
    have T_4_2 := hid ((HB_4.out.block w2.heap.size (Array.getElem?_eq_some_iff.1 T_3_2.out).1).trans T_3_2.out)
    clear m_3_1_0 z_3_1 m_3_2_0 z_3_2
    have m_4_1_0 : w4.cell? ⟨w1.heap.size, 0, none⟩ = some (.slice a n c) := by rw [cell_of_row w4 _ _ _ _ (0, 0) T_4_1.out]; rfl
    have z_4_1 : w1.heap.size < w4.heap.size := (Array.getElem?_eq_some_iff.1 T_4_1.out).1
    have m_4_2_0 : w4.cell? ⟨w2.heap.size, 0, none⟩ = some (.slice p4 R.length k4) := by rw [cell_of_row w4 _ _ _ _ (0, 0) T_4_2.out]; rfl
    have z_4_2 : w2.heap.size < w4.heap.size := (Array.getElem?_eq_some_iff.1 T_4_2.out).1
    clear hcu
    have O_R4_4 := hid (O_R4_3.out.below HB_4.out)
    have O_L_4 := hid (O_L_3.out.below HB_4.out)
    go_upto_if 71 with (fail)
    go_cut [] (fun wx => Hid (Below w4.heap.size w4 wx))
    case first => as_aux_lemma =>
      cases B
      · go_wp2_with fail
        go_meet
        exact hid (Below.refl _ _)
      · obtain ⟨hg, hq23, hRe⟩ := shiftR_yes HR1.out
        obtain ⟨k, rfl⟩ : ∃ k : Nat, q = (k : Int) := ⟨q.toNat, by omega⟩
        have hLl := (goodProf_iff.1 hg).1
        rw [Int.toNat_natCast] at hRe
        have hgR : goodProf R = true := by rw [hRe]; exact shift_good hg (by omega)
        have hpk : el R (pkTo R 24) = el L (pkTo L 24) := by rw [hRe]; exact shift_peak hLl (by omega)
        have HBK := hid (show shiftR R (((24 - k) % 24 : Nat) : Int) = (L, true) by unfold shiftR; rw [if_pos ⟨hgR, inR_iff.2 (by omega)⟩, Int.toNat_natCast, hRe, shift_back hLl (by omega)])
        have HP1 := hid (peakR_yes hg)
        have HP2 := hid (peakR_yes hgR)
        rw [hpk] at HP2
        have HGR := hid hgR
        have hw1 : IntKind.i64.wrap (24 - (k : Int)) = 24 - (k : Int) := IntWalk.i64_in _ (by omega)
        have hw2 : (24 - (k : Int)).tmod 24 = (((24 - k) % 24 : Nat) : Int) := by rw [Int.tmod_eq_emod_of_nonneg (by omega)]; omega
        have hLn : n = L.length := O_L_4.out.1.symm
        have HLN := hid hLn
        clear hg hRe hgR hpk hLl hLn
        generalize el L (pkTo L 24) = y at *
        generalize ((pkTo L 24 : Nat) : Int) = x1 at *
        generalize ((pkTo R 24 : Nat) : Int) = x2 at *
        go_wp2_with fail
        refine (i_ShiftProfile _ _ _ _ R _ (O_R4_4.out.at.below (by go_grown)) (by omega) L true HBK.out).mono ?_
        rintro e w5 ⟨p6, k6, rfl, ho, hb⟩
        have HB_5 := hid (bstep (by go_grown) hb : Below w4.heap.size w4 w5)
        have B_5 := hid (bstep B_4.out HB_5.out)
        have S_5 := HB_5.out.size
        have T_5_1 := hid ((HB_5.out.block w1.heap.size (Array.getElem?_eq_some_iff.1 T_4_1.out).1).trans T_4_1.out)
        have T_5_2 := hid ((HB_5.out.block w2.heap.size (Array.getElem?_eq_some_iff.1 T_4_2.out).1).trans T_4_2.out)
        clear m_4_1_0 z_4_1 m_4_2_0 z_4_2
        have m_5_1_0 : w5.cell? ⟨w1.heap.size, 0, none⟩ = some (.slice a n c) := by rw [cell_of_row w5 _ _ _ _ (0, 0) T_5_1.out]; rfl
        have z_5_1 : w1.heap.size < w5.heap.size := (Array.getElem?_eq_some_iff.1 T_5_1.out).1
        have m_5_2_0 : w5.cell? ⟨w2.heap.size, 0, none⟩ = some (.slice p4 R.length k4) := by rw [cell_of_row w5 _ _ _ _ (0, 0) T_5_2.out]; rfl
        have z_5_2 : w2.heap.size < w5.heap.size := (Array.getElem?_eq_some_iff.1 T_5_2.out).1
        clear hb
        have O_L6 := hid ho
        clear ho
        have O_L_5 := hid (O_L_4.out.below HB_5.out)
        go_wp2_with fail
        refine (i_PeakHour _ _ _ L _ (O_L_5.out.below (by go_grown)) (by omega) _ _ _ HP1.out).mono ?_
        rintro e w6 ⟨rfl, hb⟩
        have HB_6 := hid (bstep (by go_grown) hb : Below w5.heap.size w5 w6)
        have B_6 := hid (bstep B_5.out HB_6.out)
        have S_6 := HB_6.out.size
        have T_6_1 := hid ((HB_6.out.block w1.heap.size (Array.getElem?_eq_some_iff.1 T_5_1.out).1).trans T_5_1.out)
        have T_6_2 := hid ((HB_6.out.block w2.heap.size (Array.getElem?_eq_some_iff.1 T_5_2.out).1).trans T_5_2.out)
        have T_6_3 : Hid (w6.heap[w5.heap.size]? = some (.cells #[.slice p6 L.length k6] 26 (0, 0))) := hid (by rw [hb.block _ (by simp <;> omega)]; exact heap_alloc_new _ _)
        clear m_5_1_0 z_5_1 m_5_2_0 z_5_2
        have m_6_1_0 : w6.cell? ⟨w1.heap.size, 0, none⟩ = some (.slice a n c) := by rw [cell_of_row w6 _ _ _ _ (0, 0) T_6_1.out]; rfl
        have z_6_1 : w1.heap.size < w6.heap.size := (Array.getElem?_eq_some_iff.1 T_6_1.out).1
        have m_6_2_0 : w6.cell? ⟨w2.heap.size, 0, none⟩ = some (.slice p4 R.length k4) := by rw [cell_of_row w6 _ _ _ _ (0, 0) T_6_2.out]; rfl
        have z_6_2 : w2.heap.size < w6.heap.size := (Array.getElem?_eq_some_iff.1 T_6_2.out).1
        have m_6_3_0 : w6.cell? ⟨w5.heap.size, 0, none⟩ = some (.slice p6 L.length k6) := by rw [cell_of_row w6 _ _ _ _ (0, 0) T_6_3.out]; rfl
        have z_6_3 : w5.heap.size < w6.heap.size := (Array.getElem?_eq_some_iff.1 T_6_3.out).1
        clear hb
        have O_R4_6 := hid ((O_R4_4.out.below HB_5.out).below HB_6.out)
        go_wp2_with fail
        refine (i_PeakHour _ _ _ R _ (O_R4_6.out.at.below (by go_grown)) (by omega) _ _ _ HP2.out).mono ?_
        rintro e w7 ⟨rfl, hb⟩
        have HB_7 := hid (bstep (by go_grown) hb : Below w6.heap.size w6 w7)
        have B_7 := hid (bstep B_6.out HB_7.out)
        have S_7 := HB_7.out.size
        have T_7_1 := hid ((HB_7.out.block w1.heap.size (Array.getElem?_eq_some_iff.1 T_6_1.out).1).trans T_6_1.out)
        have T_7_2 := hid ((HB_7.out.block w2.heap.size (Array.getElem?_eq_some_iff.1 T_6_2.out).1).trans T_6_2.out)
        have T_7_3 := hid ((HB_7.out.block w5.heap.size (Array.getElem?_eq_some_iff.1 T_6_3.out).1).trans T_6_3.out)
        clear m_6_1_0 z_6_1 m_6_2_0 z_6_2 m_6_3_0 z_6_3
        have m_7_1_0 : w7.cell? ⟨w1.heap.size, 0, none⟩ = some (.slice a n c) := by rw [cell_of_row w7 _ _ _ _ (0, 0) T_7_1.out]; rfl
        have z_7_1 : w1.heap.size < w7.heap.size := (Array.getElem?_eq_some_iff.1 T_7_1.out).1
        have m_7_2_0 : w7.cell? ⟨w2.heap.size, 0, none⟩ = some (.slice p4 R.length k4) := by rw [cell_of_row w7 _ _ _ _ (0, 0) T_7_2.out]; rfl
        have z_7_2 : w2.heap.size < w7.heap.size := (Array.getElem?_eq_some_iff.1 T_7_2.out).1
        have m_7_3_0 : w7.cell? ⟨w5.heap.size, 0, none⟩ = some (.slice p6 L.length k6) := by rw [cell_of_row w7 _ _ _ _ (0, 0) T_7_3.out]; rfl
        have z_7_3 : w5.heap.size < w7.heap.size := (Array.getElem?_eq_some_iff.1 T_7_3.out).1
        clear hb
        have O_L6_7 := hid ((O_L6.out.below HB_6.out).below HB_7.out)
        have O_L_7 := hid ((O_L_5.out.below HB_6.out).below HB_7.out)
        go_wp2_with fail
        refine (l_rInts_two _ _ _ _ _ _ L _ (O_L6_7.out.at.below (by go_grown)) (O_L_7.out.below (by go_grown)) (by have := HLN.out; omega)).mono ?_
        rintro e w8 ⟨rfl, hb⟩
        have HB_8 := hid (bstep (by go_grown) hb : Below w7.heap.size w7 w8)
        have B_8 := hid (bstep B_7.out HB_8.out)
        have S_8 := HB_8.out.size
        have T_8_1 := hid ((HB_8.out.block w1.heap.size (Array.getElem?_eq_some_iff.1 T_7_1.out).1).trans T_7_1.out)
        have T_8_2 := hid ((HB_8.out.block w2.heap.size (Array.getElem?_eq_some_iff.1 T_7_2.out).1).trans T_7_2.out)
        have T_8_3 := hid ((HB_8.out.block w5.heap.size (Array.getElem?_eq_some_iff.1 T_7_3.out).1).trans T_7_3.out)
        clear m_7_1_0 z_7_1 m_7_2_0 z_7_2 m_7_3_0 z_7_3
        have m_8_1_0 : w8.cell? ⟨w1.heap.size, 0, none⟩ = some (.slice a n c) := by rw [cell_of_row w8 _ _ _ _ (0, 0) T_8_1.out]; rfl
        have z_8_1 : w1.heap.size < w8.heap.size := (Array.getElem?_eq_some_iff.1 T_8_1.out).1
        have m_8_2_0 : w8.cell? ⟨w2.heap.size, 0, none⟩ = some (.slice p4 R.length k4) := by rw [cell_of_row w8 _ _ _ _ (0, 0) T_8_2.out]; rfl
        have z_8_2 : w2.heap.size < w8.heap.size := (Array.getElem?_eq_some_iff.1 T_8_2.out).1
        have m_8_3_0 : w8.cell? ⟨w5.heap.size, 0, none⟩ = some (.slice p6 L.length k6) := by rw [cell_of_row w8 _ _ _ _ (0, 0) T_8_3.out]; rfl
        have z_8_3 : w5.heap.size < w8.heap.size := (Array.getElem?_eq_some_iff.1 T_8_3.out).1
        clear hb
        have O_R4_8 := hid ((O_R4_6.out.below HB_7.out).below HB_8.out)
        go_wp2_with fail
        refine (i_IsValidProfile _ _ _ R _ (O_R4_8.out.at.below (by go_grown)) (by omega)).mono ?_
        rintro e w9 ⟨rfl, hb⟩
        have HB_9 := hid (bstep (by go_grown) hb : Below w8.heap.size w8 w9)
        have B_9 := hid (bstep B_8.out HB_9.out)
        have S_9 := HB_9.out.size
        have T_9_1 := hid ((HB_9.out.block w1.heap.size (Array.getElem?_eq_some_iff.1 T_8_1.out).1).trans T_8_1.out)
        have T_9_2 := hid ((HB_9.out.block w2.heap.size (Array.getElem?_eq_some_iff.1 T_8_2.out).1).trans T_8_2.out)
        have T_9_3 := hid ((HB_9.out.block w5.heap.size (Array.getElem?_eq_some_iff.1 T_8_3.out).1).trans T_8_3.out)
        clear m_8_1_0 z_8_1 m_8_2_0 z_8_2 m_8_3_0 z_8_3
        have m_9_1_0 : w9.cell? ⟨w1.heap.size, 0, none⟩ = some (.slice a n c) := by rw [cell_of_row w9 _ _ _ _ (0, 0) T_9_1.out]; rfl
        have z_9_1 : w1.heap.size < w9.heap.size := (Array.getElem?_eq_some_iff.1 T_9_1.out).1
        have m_9_2_0 : w9.cell? ⟨w2.heap.size, 0, none⟩ = some (.slice p4 R.length k4) := by rw [cell_of_row w9 _ _ _ _ (0, 0) T_9_2.out]; rfl
        have z_9_2 : w2.heap.size < w9.heap.size := (Array.getElem?_eq_some_iff.1 T_9_2.out).1
        have m_9_3_0 : w9.cell? ⟨w5.heap.size, 0, none⟩ = some (.slice p6 L.length k6) := by rw [cell_of_row w9 _ _ _ _ (0, 0) T_9_3.out]; rfl
        have z_9_3 : w5.heap.size < w9.heap.size := (Array.getElem?_eq_some_iff.1 T_9_3.out).1
        clear hb
        rw [HGR.out]
        go_wp2_with fail
        go_meet
        exact hid (bstep (bstep (bstep (bstep HB_5.out HB_6.out) HB_7.out) HB_8.out) HB_9.out)
    case rest => as_aux_lemma =>
      obtain ⟨w5, hW5⟩ : ∃ W, W = wc := ⟨_, rfl⟩
      subst hW5
      have HB_5 := hcut
      have B_5 := hid (bstep B_4.out HB_5.out)
      have S_5 := HB_5.out.size
      have T_5_1 := hid ((HB_5.out.block w1.heap.size (Array.getElem?_eq_some_iff.1 T_4_1.out).1).trans T_4_1.out)
      have T_5_2 := hid ((HB_5.out.block w2.heap.size (Array.getElem?_eq_some_iff.1 T_4_2.out).1).trans T_4_2.out)
      clear m_4_1_0 z_4_1 m_4_2_0 z_4_2
      have m_5_1_0 : w5.cell? ⟨w1.heap.size, 0, none⟩ = some (.slice a n c) := by rw [cell_of_row w5 _ _ _ _ (0, 0) T_5_1.out]; rfl
      have z_5_1 : w1.heap.size < w5.heap.size := (Array.getElem?_eq_some_iff.1 T_5_1.out).1
      have m_5_2_0 : w5.cell? ⟨w2.heap.size, 0, none⟩ = some (.slice p4 R.length k4) := by rw [cell_of_row w5 _ _ _ _ (0, 0) T_5_2.out]; rfl
      have z_5_2 : w2.heap.size < w5.heap.size := (Array.getElem?_eq_some_iff.1 T_5_2.out).1
      go_wp2_with fail
      refine (s_DrawFlattenProfile _ _ _ _ ((H_code.out.below B_5.out).below (by go_grown))).mono ?_
      rintro e w6 ⟨a7, n7, c7, L2, q2, rfl, ⟨hq, hn7⟩, hb⟩
      have HB_6 := hid (bstep (by go_grown) hb : Below w5.heap.size w5 w6)
      have B_6 := hid (bstep B_5.out HB_6.out)
      have S_6 := HB_6.out.size
      have T_6_1 := hid ((HB_6.out.block w1.heap.size (Array.getElem?_eq_some_iff.1 T_5_1.out).1).trans T_5_1.out)
      have T_6_2 := hid ((HB_6.out.block w2.heap.size (Array.getElem?_eq_some_iff.1 T_5_2.out).1).trans T_5_2.out)
      clear m_5_1_0 z_5_1 m_5_2_0 z_5_2
      clear hb
      have O_L2 := hid hq
      clear hq
      obtain ⟨R2, B2, hR⟩ : ∃ R2 B2, flatR L2 q2 = (R2, B2) := ⟨_, _, rfl⟩
      have HR2 := hid hR
      clear hR
      have hlr2 : R2.length ≤ 24 := flatR_len HR2.out
      go_wp2_with fail
      refine (i_FlattenProfile _ _ _ q2 L2 _ (O_L2.out.below (by go_grown)) (by omega) R2 B2 HR2.out).mono ?_
      rintro e w7 ⟨p8, k8, rfl, ho, hb⟩
      have HB_7 := hid (bstep (by go_grown) hb : Below w6.heap.size w6 w7)
      have B_7 := hid (bstep B_6.out HB_7.out)
      have S_7 := HB_7.out.size
      have T_7_1 := hid ((HB_7.out.block w1.heap.size (Array.getElem?_eq_some_iff.1 T_6_1.out).1).trans T_6_1.out)
      have T_7_2 := hid ((HB_7.out.block w2.heap.size (Array.getElem?_eq_some_iff.1 T_6_2.out).1).trans T_6_2.out)
      have T_7_3 : Hid (w7.heap[w6.heap.size]? = some (.cells #[.slice a7 n7 c7] 26 (0, 0))) := hid (by rw [hb.block _ (by simp <;> omega)]; exact heap_alloc_new _ _)
      have m_7_3_0 : w7.cell? ⟨w6.heap.size, 0, none⟩ = some (.slice a7 n7 c7) := by rw [cell_of_row w7 _ _ _ _ (0, 0) T_7_3.out]; rfl
      have z_7_3 : w6.heap.size < w7.heap.size := (Array.getElem?_eq_some_iff.1 T_7_3.out).1
      clear hb
      have O_R8 := hid ho
      clear ho
      have O_L2_7 := hid (O_L2.out.below HB_7.out)
      go_wp2_with fail
      refine (s_FlattenProfile _ _ _ q2 L2 _ (O_L2_7.out.below (by go_grown)) (by omega) R2 B2 HR2.out).mono ?_
      rintro e w8 ⟨p9, k9, rfl, ho, hb⟩
      have HB_8 := hid (bstep (by go_grown) hb : Below w7.heap.size w7 w8)
      have B_8 := hid (bstep B_7.out HB_8.out)
      have S_8 := HB_8.out.size
      have T_8_1 := hid ((HB_8.out.block w1.heap.size (Array.getElem?_eq_some_iff.1 T_7_1.out).1).trans T_7_1.out)
      have T_8_2 := hid ((HB_8.out.block w2.heap.size (Array.getElem?_eq_some_iff.1 T_7_2.out).1).trans T_7_2.out)
      have T_8_3 := hid ((HB_8.out.block w6.heap.size (Array.getElem?_eq_some_iff.1 T_7_3.out).1).trans T_7_3.out)
      have T_8_4 : Hid (w8.heap[w7.heap.size]? = some (.cells #[.slice p8 R2.length k8] 26 (0, 0))) := hid (by rw [hb.block _ (by simp <;> omega)]; exact heap_alloc_new _ _)
      clear m_7_3_0 z_7_3
      have m_8_3_0 : w8.cell? ⟨w6.heap.size, 0, none⟩ = some (.slice a7 n7 c7) := by rw [cell_of_row w8 _ _ _ _ (0, 0) T_8_3.out]; rfl
      have z_8_3 : w6.heap.size < w8.heap.size := (Array.getElem?_eq_some_iff.1 T_8_3.out).1
      have m_8_4_0 : w8.cell? ⟨w7.heap.size, 0, none⟩ = some (.slice p8 R2.length k8) := by rw [cell_of_row w8 _ _ _ _ (0, 0) T_8_4.out]; rfl
      have z_8_4 : w7.heap.size < w8.heap.size := (Array.getElem?_eq_some_iff.1 T_8_4.out).1
      clear hb
      have O_R9 := hid ho
      clear ho
      have O_R8_8 := hid (O_R8.out.below HB_8.out)
      go_upto_region 17 with fail
      go_cut [147] (fun s147 wx => s147 = .bool false ∧ Hid (Below w8.heap.size w8 wx))
      case first => as_aux_lemma =>
        go_wp2_with fail
        refine (l_rInts_same _ _ _ _ _ R2 _ (O_R8_8.out.at.below (by go_grown)) (O_R9.out.at.below (by go_grown)) (by omega)).mono ?_
        rintro e w9 ⟨rfl, hb⟩
        have HB_9 := hid (bstep (by go_grown) hb : Below w8.heap.size w8 w9)
        have B_9 := hid (bstep B_8.out HB_9.out)
        have S_9 := HB_9.out.size
        have T_9_1 := hid ((HB_9.out.block w1.heap.size (Array.getElem?_eq_some_iff.1 T_8_1.out).1).trans T_8_1.out)
        have T_9_2 := hid ((HB_9.out.block w2.heap.size (Array.getElem?_eq_some_iff.1 T_8_2.out).1).trans T_8_2.out)
        have T_9_3 := hid ((HB_9.out.block w6.heap.size (Array.getElem?_eq_some_iff.1 T_8_3.out).1).trans T_8_3.out)
        have T_9_4 := hid ((HB_9.out.block w7.heap.size (Array.getElem?_eq_some_iff.1 T_8_4.out).1).trans T_8_4.out)
        have T_9_5 : Hid (w9.heap[w8.heap.size]? = some (.cells #[.slice p9 R2.length k9] 26 (0, 0))) := hid (by rw [hb.block _ (by simp <;> omega)]; exact heap_alloc_new _ _)
        clear m_8_3_0 z_8_3 m_8_4_0 z_8_4
        have m_9_3_0 : w9.cell? ⟨w6.heap.size, 0, none⟩ = some (.slice a7 n7 c7) := by rw [cell_of_row w9 _ _ _ _ (0, 0) T_9_3.out]; rfl
        have z_9_3 : w6.heap.size < w9.heap.size := (Array.getElem?_eq_some_iff.1 T_9_3.out).1
        have m_9_4_0 : w9.cell? ⟨w7.heap.size, 0, none⟩ = some (.slice p8 R2.length k8) := by rw [cell_of_row w9 _ _ _ _ (0, 0) T_9_4.out]; rfl
        have z_9_4 : w7.heap.size < w9.heap.size := (Array.getElem?_eq_some_iff.1 T_9_4.out).1
        have m_9_5_0 : w9.cell? ⟨w8.heap.size, 0, none⟩ = some (.slice p9 R2.length k9) := by rw [cell_of_row w9 _ _ _ _ (0, 0) T_9_5.out]; rfl
        have z_9_5 : w8.heap.size < w9.heap.size := (Array.getElem?_eq_some_iff.1 T_9_5.out).1
        clear hb
        go_wp2_with fail
        go_meet
        exact ⟨rfl, hid HB_9.out⟩
      case rest => as_aux_lemma =>
        obtain ⟨rfl, hcu⟩ := hcut
        obtain ⟨w9, hW9⟩ : ∃ W, W = wc := ⟨_, rfl⟩
        subst hW9
        have HB_9 := hcu
        have B_9 := hid (bstep B_8.out HB_9.out)
        have S_9 := HB_9.out.size
        have T_9_1 := hid ((HB_9.out.block w1.heap.size (Array.getElem?_eq_some_iff.1 T_8_1.out).1).trans T_8_1.out)
        have T_9_2 := hid ((HB_9.out.block w2.heap.size (Array.getElem?_eq_some_iff.1 T_8_2.out).1).trans T_8_2.out)
        have T_9_3 := hid ((HB_9.out.block w6.heap.size (Array.getElem?_eq_some_iff.1 T_8_3.out).1).trans T_8_3.out)
        have T_9_4 := hid ((HB_9.out.block w7.heap.size (Array.getElem?_eq_some_iff.1 T_8_4.out).1).trans T_8_4.out)
        clear m_8_3_0 z_8_3 m_8_4_0 z_8_4
        have m_9_3_0 : w9.cell? ⟨w6.heap.size, 0, none⟩ = some (.slice a7 n7 c7) := by rw [cell_of_row w9 _ _ _ _ (0, 0) T_9_3.out]; rfl
        have z_9_3 : w6.heap.size < w9.heap.size := (Array.getElem?_eq_some_iff.1 T_9_3.out).1
        have m_9_4_0 : w9.cell? ⟨w7.heap.size, 0, none⟩ = some (.slice p8 R2.length k8) := by rw [cell_of_row w9 _ _ _ _ (0, 0) T_9_4.out]; rfl
        have z_9_4 : w7.heap.size < w9.heap.size := (Array.getElem?_eq_some_iff.1 T_9_4.out).1
        clear hcu
        have O_R8_9 := hid (O_R8_8.out.below HB_9.out)
        go_upto_if 148 with (fail)
        go_cut [] (fun wx => Hid (Below w9.heap.size w9 wx))
        case first => as_aux_lemma =>
          cases B2
          · go_wp2_with fail
            go_meet
            exact hid (Below.refl _ _)
          · obtain ⟨hg, hq2, hRe⟩ := flatR_yes HR2.out
            obtain ⟨hgR, hle⟩ := fin_ok hq2.1 _ L2 rfl hg
            rw [← hRe] at hgR hle
            have HP3 := hid (peakR_yes hgR)
            clear hg hRe hgR
            generalize el R2 (pkTo R2 24) = y at *
            generalize ((pkTo R2 24 : Nat) : Int) = x1 at *
            have hle2 : ¬ q2 < y := by omega
            go_wp2_with fail
            refine (i_PeakHour _ _ _ R2 _ (O_R8_9.out.at.below (by go_grown)) (by omega) _ _ _ HP3.out).mono ?_
            rintro e w10 ⟨rfl, hb⟩
            have HB_10 := hid (bstep (by go_grown) hb : Below w9.heap.size w9 w10)
            have B_10 := hid (bstep B_9.out HB_10.out)
            have S_10 := HB_10.out.size
            have T_10_1 := hid ((HB_10.out.block w1.heap.size (Array.getElem?_eq_some_iff.1 T_9_1.out).1).trans T_9_1.out)
            have T_10_2 := hid ((HB_10.out.block w2.heap.size (Array.getElem?_eq_some_iff.1 T_9_2.out).1).trans T_9_2.out)
            have T_10_3 := hid ((HB_10.out.block w6.heap.size (Array.getElem?_eq_some_iff.1 T_9_3.out).1).trans T_9_3.out)
            have T_10_4 := hid ((HB_10.out.block w7.heap.size (Array.getElem?_eq_some_iff.1 T_9_4.out).1).trans T_9_4.out)
            clear m_9_3_0 z_9_3 m_9_4_0 z_9_4
            have m_10_3_0 : w10.cell? ⟨w6.heap.size, 0, none⟩ = some (.slice a7 n7 c7) := by rw [cell_of_row w10 _ _ _ _ (0, 0) T_10_3.out]; rfl
            have z_10_3 : w6.heap.size < w10.heap.size := (Array.getElem?_eq_some_iff.1 T_10_3.out).1
            have m_10_4_0 : w10.cell? ⟨w7.heap.size, 0, none⟩ = some (.slice p8 R2.length k8) := by rw [cell_of_row w10 _ _ _ _ (0, 0) T_10_4.out]; rfl
            have z_10_4 : w7.heap.size < w10.heap.size := (Array.getElem?_eq_some_iff.1 T_10_4.out).1
            clear hb
            go_wp2_with fail
            go_meet
            exact hid HB_10.out
        case rest => as_aux_lemma =>
          obtain ⟨w10, hW10⟩ : ∃ W, W = wc := ⟨_, rfl⟩
          subst hW10
          have HB_10 := hcut
          have B_10 := hid (bstep B_9.out HB_10.out)
          have S_10 := HB_10.out.size
          have T_10_1 := hid ((HB_10.out.block w1.heap.size (Array.getElem?_eq_some_iff.1 T_9_1.out).1).trans T_9_1.out)
          have T_10_2 := hid ((HB_10.out.block w2.heap.size (Array.getElem?_eq_some_iff.1 T_9_2.out).1).trans T_9_2.out)
          have T_10_3 := hid ((HB_10.out.block w6.heap.size (Array.getElem?_eq_some_iff.1 T_9_3.out).1).trans T_9_3.out)
          have T_10_4 := hid ((HB_10.out.block w7.heap.size (Array.getElem?_eq_some_iff.1 T_9_4.out).1).trans T_9_4.out)
          clear m_9_3_0 z_9_3 m_9_4_0 z_9_4
          have m_10_3_0 : w10.cell? ⟨w6.heap.size, 0, none⟩ = some (.slice a7 n7 c7) := by rw [cell_of_row w10 _ _ _ _ (0, 0) T_10_3.out]; rfl
          have z_10_3 : w6.heap.size < w10.heap.size := (Array.getElem?_eq_some_iff.1 T_10_3.out).1
          have m_10_4_0 : w10.cell? ⟨w7.heap.size, 0, none⟩ = some (.slice p8 R2.length k8) := by rw [cell_of_row w10 _ _ _ _ (0, 0) T_10_4.out]; rfl
          have z_10_4 : w7.heap.size < w10.heap.size := (Array.getElem?_eq_some_iff.1 T_10_4.out).1
          go_wp2_with fail
          refine (s_DrawQuietestHours _ _ _ _ ((H_code.out.below B_10.out).below (by go_grown))).mono ?_
          rintro e w11 ⟨a10, n10, c10, L3, q3, rfl, ⟨hq, hn10⟩, hb⟩
          have HB_11 := hid (bstep (by go_grown) hb : Below w10.heap.size w10 w11)
          have B_11 := hid (bstep B_10.out HB_11.out)
          have S_11 := HB_11.out.size
          have T_11_1 := hid ((HB_11.out.block w1.heap.size (Array.getElem?_eq_some_iff.1 T_10_1.out).1).trans T_10_1.out)
          have T_11_2 := hid ((HB_11.out.block w2.heap.size (Array.getElem?_eq_some_iff.1 T_10_2.out).1).trans T_10_2.out)
          have T_11_3 := hid ((HB_11.out.block w6.heap.size (Array.getElem?_eq_some_iff.1 T_10_3.out).1).trans T_10_3.out)
          have T_11_4 := hid ((HB_11.out.block w7.heap.size (Array.getElem?_eq_some_iff.1 T_10_4.out).1).trans T_10_4.out)
          clear m_10_3_0 z_10_3 m_10_4_0 z_10_4
          clear hb
          have O_L3 := hid hq
          clear hq
          obtain ⟨x3, y3, z3, hR⟩ : ∃ x3 y3 z3, quietR L3 q3 = (x3, y3, z3) := ⟨_, _, _, rfl⟩
          have HR3 := hid hR
          clear hR
          go_wp2_with fail
          refine (i_QuietestHours _ _ _ q3 L3 _ (O_L3.out.below (by go_grown)) (by omega) x3 y3 z3 HR3.out).mono ?_
          rintro e w12 ⟨rfl, hb⟩
          have HB_12 := hid (bstep (by go_grown) hb : Below w11.heap.size w11 w12)
          have B_12 := hid (bstep B_11.out HB_12.out)
          have S_12 := HB_12.out.size
          have T_12_1 := hid ((HB_12.out.block w1.heap.size (Array.getElem?_eq_some_iff.1 T_11_1.out).1).trans T_11_1.out)
          have T_12_2 := hid ((HB_12.out.block w2.heap.size (Array.getElem?_eq_some_iff.1 T_11_2.out).1).trans T_11_2.out)
          have T_12_3 := hid ((HB_12.out.block w6.heap.size (Array.getElem?_eq_some_iff.1 T_11_3.out).1).trans T_11_3.out)
          have T_12_4 := hid ((HB_12.out.block w7.heap.size (Array.getElem?_eq_some_iff.1 T_11_4.out).1).trans T_11_4.out)
          have T_12_5 : Hid (w12.heap[w11.heap.size]? = some (.cells #[.slice a10 n10 c10] 26 (0, 0))) := hid (by rw [hb.block _ (by simp <;> omega)]; exact heap_alloc_new _ _)
          have m_12_5_0 : w12.cell? ⟨w11.heap.size, 0, none⟩ = some (.slice a10 n10 c10) := by rw [cell_of_row w12 _ _ _ _ (0, 0) T_12_5.out]; rfl
          have z_12_5 : w11.heap.size < w12.heap.size := (Array.getElem?_eq_some_iff.1 T_12_5.out).1
          clear hb
          have O_L3_12 := hid (O_L3.out.below HB_12.out)
          go_wp2_with fail
          refine (s_QuietestHours _ _ _ q3 L3 _ (O_L3_12.out.below (by go_grown)) (by omega) x3 y3 z3 HR3.out).mono ?_
          rintro e w13 ⟨rfl, hb⟩
          have HB_13 := hid (bstep (by go_grown) hb : Below w12.heap.size w12 w13)
          have B_13 := hid (bstep B_12.out HB_13.out)
          have S_13 := HB_13.out.size
          have T_13_1 := hid ((HB_13.out.block w1.heap.size (Array.getElem?_eq_some_iff.1 T_12_1.out).1).trans T_12_1.out)
          have T_13_2 := hid ((HB_13.out.block w2.heap.size (Array.getElem?_eq_some_iff.1 T_12_2.out).1).trans T_12_2.out)
          have T_13_3 := hid ((HB_13.out.block w6.heap.size (Array.getElem?_eq_some_iff.1 T_12_3.out).1).trans T_12_3.out)
          have T_13_4 := hid ((HB_13.out.block w7.heap.size (Array.getElem?_eq_some_iff.1 T_12_4.out).1).trans T_12_4.out)
          have T_13_5 := hid ((HB_13.out.block w11.heap.size (Array.getElem?_eq_some_iff.1 T_12_5.out).1).trans T_12_5.out)
          clear m_12_5_0 z_12_5
          have m_13_5_0 : w13.cell? ⟨w11.heap.size, 0, none⟩ = some (.slice a10 n10 c10) := by rw [cell_of_row w13 _ _ _ _ (0, 0) T_13_5.out]; rfl
          have z_13_5 : w11.heap.size < w13.heap.size := (Array.getElem?_eq_some_iff.1 T_13_5.out).1
          clear hb
          go_upto_region 26 with fail
          go_cut [202] (fun s202 wx => s202 = .bool false ∧ Hid (Below w13.heap.size w13 wx))
          case first => as_aux_lemma =>
            cases z3
            · go_wp2_with fail
              go_meet
              exact ⟨rfl, hid (Below.refl _ _)⟩
            · obtain ⟨hq3, hy3⟩ := quiet_yes HR3.out
              have hw1 : IntKind.i64.wrap (100 * q3) = 100 * q3 := IntWalk.i64_in _ (by omega)
              have hle : ¬ 100 * q3 < y3 := by omega
              go_wp2_with fail
              go_meet
              exact ⟨rfl, hid (Below.refl _ _)⟩
          case rest => as_aux_lemma =>
            obtain ⟨rfl, hcu⟩ := hcut
            obtain ⟨w14, hW14⟩ : ∃ W, W = wc := ⟨_, rfl⟩
            subst hW14
            have HB_14 := hcu
            have B_14 := hid (bstep B_13.out HB_14.out)
            have S_14 := HB_14.out.size
            have T_14_1 := hid ((HB_14.out.block w1.heap.size (Array.getElem?_eq_some_iff.1 T_13_1.out).1).trans T_13_1.out)
            have T_14_2 := hid ((HB_14.out.block w2.heap.size (Array.getElem?_eq_some_iff.1 T_13_2.out).1).trans T_13_2.out)
            have T_14_3 := hid ((HB_14.out.block w6.heap.size (Array.getElem?_eq_some_iff.1 T_13_3.out).1).trans T_13_3.out)
            have T_14_4 := hid ((HB_14.out.block w7.heap.size (Array.getElem?_eq_some_iff.1 T_13_4.out).1).trans T_13_4.out)
            have T_14_5 := hid ((HB_14.out.block w11.heap.size (Array.getElem?_eq_some_iff.1 T_13_5.out).1).trans T_13_5.out)
            clear m_13_5_0 z_13_5
            have m_14_5_0 : w14.cell? ⟨w11.heap.size, 0, none⟩ = some (.slice a10 n10 c10) := by rw [cell_of_row w14 _ _ _ _ (0, 0) T_14_5.out]; rfl
            have z_14_5 : w11.heap.size < w14.heap.size := (Array.getElem?_eq_some_iff.1 T_14_5.out).1
            clear hcu
            go_wp2_with fail
            refine (s_DrawPeakHour _ _ _ _ ((H_code.out.below B_14.out).below (by go_grown))).mono ?_
            rintro e w15 ⟨a11, n11, c11, L4, rfl, ⟨hq, hn11, hfr⟩, hb⟩
            have HB_15 := hid (bstep (by go_grown) hb : Below w14.heap.size w14 w15)
            have B_15 := hid (bstep B_14.out HB_15.out)
            have S_15 := HB_15.out.size
            have T_15_1 := hid ((HB_15.out.block w1.heap.size (Array.getElem?_eq_some_iff.1 T_14_1.out).1).trans T_14_1.out)
            have T_15_2 := hid ((HB_15.out.block w2.heap.size (Array.getElem?_eq_some_iff.1 T_14_2.out).1).trans T_14_2.out)
            have T_15_3 := hid ((HB_15.out.block w6.heap.size (Array.getElem?_eq_some_iff.1 T_14_3.out).1).trans T_14_3.out)
            have T_15_4 := hid ((HB_15.out.block w7.heap.size (Array.getElem?_eq_some_iff.1 T_14_4.out).1).trans T_14_4.out)
            have T_15_5 := hid ((HB_15.out.block w11.heap.size (Array.getElem?_eq_some_iff.1 T_14_5.out).1).trans T_14_5.out)
            clear m_14_5_0 z_14_5
            clear hb
            clear hfr
            have O_L4 := hid hq
            clear hq
            obtain ⟨x4, y4, z4, hR⟩ : ∃ x4 y4 z4, peakR L4 = (x4, y4, z4) := ⟨_, _, _, rfl⟩
            have HR4 := hid hR
            clear hR
            go_wp2_with fail
            refine (i_PeakHour _ _ _ L4 _ (O_L4.out.below (by go_grown)) (by omega) x4 y4 z4 HR4.out).mono ?_
            rintro e w16 ⟨rfl, hb⟩
            have HB_16 := hid (bstep (by go_grown) hb : Below w15.heap.size w15 w16)
            have B_16 := hid (bstep B_15.out HB_16.out)
            have S_16 := HB_16.out.size
            have T_16_1 := hid ((HB_16.out.block w1.heap.size (Array.getElem?_eq_some_iff.1 T_15_1.out).1).trans T_15_1.out)
            have T_16_2 := hid ((HB_16.out.block w2.heap.size (Array.getElem?_eq_some_iff.1 T_15_2.out).1).trans T_15_2.out)
            have T_16_3 := hid ((HB_16.out.block w6.heap.size (Array.getElem?_eq_some_iff.1 T_15_3.out).1).trans T_15_3.out)
            have T_16_4 := hid ((HB_16.out.block w7.heap.size (Array.getElem?_eq_some_iff.1 T_15_4.out).1).trans T_15_4.out)
            have T_16_5 := hid ((HB_16.out.block w11.heap.size (Array.getElem?_eq_some_iff.1 T_15_5.out).1).trans T_15_5.out)
            have T_16_6 : Hid (w16.heap[w15.heap.size]? = some (.cells #[.slice a11 n11 c11] 26 (0, 0))) := hid (by rw [hb.block _ (by simp <;> omega)]; exact heap_alloc_new _ _)
            have m_16_6_0 : w16.cell? ⟨w15.heap.size, 0, none⟩ = some (.slice a11 n11 c11) := by rw [cell_of_row w16 _ _ _ _ (0, 0) T_16_6.out]; rfl
            have z_16_6 : w15.heap.size < w16.heap.size := (Array.getElem?_eq_some_iff.1 T_16_6.out).1
            clear hb
            have O_L4_16 := hid (O_L4.out.below HB_16.out)
            go_wp2_with fail
            refine (s_PeakHour _ _ _ L4 _ (O_L4_16.out.below (by go_grown)) (by omega) x4 y4 z4 HR4.out).mono ?_
            rintro e w17 ⟨rfl, hb⟩
            have HB_17 := hid (bstep (by go_grown) hb : Below w16.heap.size w16 w17)
            have B_17 := hid (bstep B_16.out HB_17.out)
            have S_17 := HB_17.out.size
            have T_17_1 := hid ((HB_17.out.block w1.heap.size (Array.getElem?_eq_some_iff.1 T_16_1.out).1).trans T_16_1.out)
            have T_17_2 := hid ((HB_17.out.block w2.heap.size (Array.getElem?_eq_some_iff.1 T_16_2.out).1).trans T_16_2.out)
            have T_17_3 := hid ((HB_17.out.block w6.heap.size (Array.getElem?_eq_some_iff.1 T_16_3.out).1).trans T_16_3.out)
            have T_17_4 := hid ((HB_17.out.block w7.heap.size (Array.getElem?_eq_some_iff.1 T_16_4.out).1).trans T_16_4.out)
            have T_17_5 := hid ((HB_17.out.block w11.heap.size (Array.getElem?_eq_some_iff.1 T_16_5.out).1).trans T_16_5.out)
            have T_17_6 := hid ((HB_17.out.block w15.heap.size (Array.getElem?_eq_some_iff.1 T_16_6.out).1).trans T_16_6.out)
            clear m_16_6_0 z_16_6
            have m_17_6_0 : w17.cell? ⟨w15.heap.size, 0, none⟩ = some (.slice a11 n11 c11) := by rw [cell_of_row w17 _ _ _ _ (0, 0) T_17_6.out]; rfl
            have z_17_6 : w15.heap.size < w17.heap.size := (Array.getElem?_eq_some_iff.1 T_17_6.out).1
            clear hb
            have hp4 : z4 = true → 100 ≤ y4 := peak_yes HR4.out
            cases z4
            · clear hp4
              go_wp2_with fail
              refine (i_FlatProfile _).mono ?_
              rintro e w18 ⟨p12, k12, rfl, ho, hb⟩
              have HB_18 := hid (bstep (by go_grown) hb : Below w17.heap.size w17 w18)
              have B_18 := hid (bstep B_17.out HB_18.out)
              have S_18 := HB_18.out.size
              have T_18_1 := hid ((HB_18.out.block w1.heap.size (Array.getElem?_eq_some_iff.1 T_17_1.out).1).trans T_17_1.out)
              have T_18_2 := hid ((HB_18.out.block w2.heap.size (Array.getElem?_eq_some_iff.1 T_17_2.out).1).trans T_17_2.out)
              have T_18_3 := hid ((HB_18.out.block w6.heap.size (Array.getElem?_eq_some_iff.1 T_17_3.out).1).trans T_17_3.out)
              have T_18_4 := hid ((HB_18.out.block w7.heap.size (Array.getElem?_eq_some_iff.1 T_17_4.out).1).trans T_17_4.out)
              have T_18_5 := hid ((HB_18.out.block w11.heap.size (Array.getElem?_eq_some_iff.1 T_17_5.out).1).trans T_17_5.out)
              have T_18_6 := hid ((HB_18.out.block w15.heap.size (Array.getElem?_eq_some_iff.1 T_17_6.out).1).trans T_17_6.out)
              clear m_17_6_0 z_17_6
              have m_18_6_0 : w18.cell? ⟨w15.heap.size, 0, none⟩ = some (.slice a11 n11 c11) := by rw [cell_of_row w18 _ _ _ _ (0, 0) T_18_6.out]; rfl
              have z_18_6 : w15.heap.size < w18.heap.size := (Array.getElem?_eq_some_iff.1 T_18_6.out).1
              clear hb
              have O_F := hid ho
              clear ho
              go_wp2_with fail
              refine (i_IsValidProfile _ _ _ (List.replicate 24 100) _ (O_F.out.at.below (by go_grown)) (by omega)).mono ?_
              rintro e w19 ⟨rfl, hb⟩
              have HB_19 := hid (bstep (by go_grown) hb : Below w18.heap.size w18 w19)
              have B_19 := hid (bstep B_18.out HB_19.out)
              have S_19 := HB_19.out.size
              have T_19_1 := hid ((HB_19.out.block w1.heap.size (Array.getElem?_eq_some_iff.1 T_18_1.out).1).trans T_18_1.out)
              have T_19_2 := hid ((HB_19.out.block w2.heap.size (Array.getElem?_eq_some_iff.1 T_18_2.out).1).trans T_18_2.out)
              have T_19_3 := hid ((HB_19.out.block w6.heap.size (Array.getElem?_eq_some_iff.1 T_18_3.out).1).trans T_18_3.out)
              have T_19_4 := hid ((HB_19.out.block w7.heap.size (Array.getElem?_eq_some_iff.1 T_18_4.out).1).trans T_18_4.out)
              have T_19_5 := hid ((HB_19.out.block w11.heap.size (Array.getElem?_eq_some_iff.1 T_18_5.out).1).trans T_18_5.out)
              have T_19_6 := hid ((HB_19.out.block w15.heap.size (Array.getElem?_eq_some_iff.1 T_18_6.out).1).trans T_18_6.out)
              clear m_18_6_0 z_18_6
              have m_19_6_0 : w19.cell? ⟨w15.heap.size, 0, none⟩ = some (.slice a11 n11 c11) := by rw [cell_of_row w19 _ _ _ _ (0, 0) T_19_6.out]; rfl
              have z_19_6 : w15.heap.size < w19.heap.size := (Array.getElem?_eq_some_iff.1 T_19_6.out).1
              clear hb
              rw [flat_good]
              go_wp2
              go_ret
              exact ⟨rfl, B_19.out⟩
            · have hp5 := hp4 rfl
              clear hp4
              go_wp2_with fail
              refine (i_FlatProfile _).mono ?_
              rintro e w18 ⟨p12, k12, rfl, ho, hb⟩
              have HB_18 := hid (bstep (by go_grown) hb : Below w17.heap.size w17 w18)
              have B_18 := hid (bstep B_17.out HB_18.out)
              have S_18 := HB_18.out.size
              have T_18_1 := hid ((HB_18.out.block w1.heap.size (Array.getElem?_eq_some_iff.1 T_17_1.out).1).trans T_17_1.out)
              have T_18_2 := hid ((HB_18.out.block w2.heap.size (Array.getElem?_eq_some_iff.1 T_17_2.out).1).trans T_17_2.out)
              have T_18_3 := hid ((HB_18.out.block w6.heap.size (Array.getElem?_eq_some_iff.1 T_17_3.out).1).trans T_17_3.out)
              have T_18_4 := hid ((HB_18.out.block w7.heap.size (Array.getElem?_eq_some_iff.1 T_17_4.out).1).trans T_17_4.out)
              have T_18_5 := hid ((HB_18.out.block w11.heap.size (Array.getElem?_eq_some_iff.1 T_17_5.out).1).trans T_17_5.out)
              have T_18_6 := hid ((HB_18.out.block w15.heap.size (Array.getElem?_eq_some_iff.1 T_17_6.out).1).trans T_17_6.out)
              clear m_17_6_0 z_17_6
              have m_18_6_0 : w18.cell? ⟨w15.heap.size, 0, none⟩ = some (.slice a11 n11 c11) := by rw [cell_of_row w18 _ _ _ _ (0, 0) T_18_6.out]; rfl
              have z_18_6 : w15.heap.size < w18.heap.size := (Array.getElem?_eq_some_iff.1 T_18_6.out).1
              clear hb
              have O_F := hid ho
              clear ho
              go_wp2_with fail
              refine (i_IsValidProfile _ _ _ (List.replicate 24 100) _ (O_F.out.at.below (by go_grown)) (by omega)).mono ?_
              rintro e w19 ⟨rfl, hb⟩
              have HB_19 := hid (bstep (by go_grown) hb : Below w18.heap.size w18 w19)
              have B_19 := hid (bstep B_18.out HB_19.out)
              have S_19 := HB_19.out.size
              have T_19_1 := hid ((HB_19.out.block w1.heap.size (Array.getElem?_eq_some_iff.1 T_18_1.out).1).trans T_18_1.out)
              have T_19_2 := hid ((HB_19.out.block w2.heap.size (Array.getElem?_eq_some_iff.1 T_18_2.out).1).trans T_18_2.out)
              have T_19_3 := hid ((HB_19.out.block w6.heap.size (Array.getElem?_eq_some_iff.1 T_18_3.out).1).trans T_18_3.out)
              have T_19_4 := hid ((HB_19.out.block w7.heap.size (Array.getElem?_eq_some_iff.1 T_18_4.out).1).trans T_18_4.out)
              have T_19_5 := hid ((HB_19.out.block w11.heap.size (Array.getElem?_eq_some_iff.1 T_18_5.out).1).trans T_18_5.out)
              have T_19_6 := hid ((HB_19.out.block w15.heap.size (Array.getElem?_eq_some_iff.1 T_18_6.out).1).trans T_18_6.out)
              clear m_18_6_0 z_18_6
              have m_19_6_0 : w19.cell? ⟨w15.heap.size, 0, none⟩ = some (.slice a11 n11 c11) := by rw [cell_of_row w19 _ _ _ _ (0, 0) T_19_6.out]; rfl
              have z_19_6 : w15.heap.size < w19.heap.size := (Array.getElem?_eq_some_iff.1 T_19_6.out).1
              clear hb
              rw [flat_good]
              go_wp2
              go_ret
              exact ⟨rfl, B_19.out⟩

set_option maxRecDepth 100000 in
theorem fnProfiles_lifted (os : Os) (started : os.Started) (H : Type) (enc : TypeId × Value → H) :
    ReturnsInHanded {} Try.checked os 8 .any (Rows.fnProfilesSpec.pre6 enc Try.prog Try.f8 Rows.fnProfilesRow.domain false) (Rows.fnProfilesSpec.post enc Try.prog Try.f8 false true false false) := by
  refine returnsInHanded_of_change (C := Try.checked) Try.own started (by kernel_rfl) Try.func8
    (ChangeSpec.witness6 (enc := enc) (C := Try.checked) false ⟨#[], #[.slice none 0 0], []⟩ 8 (by kernel_rfl) (by kernel_rfl) (by kernel_rfl) (by kernel_rfl)) ?_
  intro W base args ds gs before hval0 hW _ _
  have hval : ∀ (j : Nat) t v, Try.f8.params[j]? = some t → args[j]? = some v → Value.okWide Try.prog W .any base t v := hval0
  have hW' : DataW.Whole enc Try.prog Try.f8.params.toList Rows.fnProfilesSpec.vars false W args.toList ds gs before := hW
  obtain ⟨p, q, hA0, hV, rfl, hfz, hnd⟩ := hW
  have hlt : ∀ x ∈ p, x.block < W.heap.size := fun x hx => hW'.lt x (by simp [hx])
  have hA : DataW.TrodAll enc Try.prog W 0 (fun _ => true) true Try.f8.params.toList args.toList ds p := hA0
  rw [Try.params8] at hA hval
  clear hA0 hval0
  obtain ⟨v0, d0, rfl, rfl, h0⟩ := trodAll_one hA
  obtain ⟨rfl, rfl⟩ := trodVars_none hV
  obtain ⟨x0, n0, k0, rfl, g0⟩ := open_bytes (hval 0 39 v0 rfl rfl) h0
  refine (law_FnProfiles x0 n0 k0 W g0).mono fun e W' ⟨he, hb⟩ => ?_
  subst he
  exact ⟨_, rfl, law_post rfl rfl (by kernel_rfl) hW' rfl rfl rfl hb⟩

theorem fnProfiles_proved : Rows.FnProfilesSaid :=
  OpenClaim.holds_of_wide 8 Try.f8 rfl rfl rfl rfl rfl rfl rfl ⟨rfl, rfl, rfl, rfl, rfl⟩ rfl rfl rfl rfl rfl (by kernel_rfl) Try.func8 (by kernel_rfl)
    (of_decide_eq_true (by kernel_rfl)) (by unfold Func.isWrapper; first | (rw [if_pos (by decide +kernel)]; kernel_rfl) | (rw [if_neg (by decide +kernel)]; exact ⟨rfl, rfl⟩))
    (fun os started H enc _ => fnProfiles_lifted os started H enc)

end Go.Proofs.Ytpmffboojkfpdaa

