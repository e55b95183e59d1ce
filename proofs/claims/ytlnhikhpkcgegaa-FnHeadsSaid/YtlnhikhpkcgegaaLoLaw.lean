/-
  The law FnHeads returns true for every input, and leaves its argument as it was. No condition.
-/
import Derived.Deep.CutBlock
import Derived.Test.YtlnhikhpkcgegaaLo2
import Derived.Test.YtlnhikhpkcgegaaLo11
import Derived.Test.YtlnhikhpkcgegaaLo18
import Derived.Test.YtlnhikhpkcgegaaLo19
set_option linter.unusedVariables false
set_option linter.unusedSimpArgs false
namespace Go.Proofs.Ytlnhikhpkcgegaa
open Go.ChangeShapes Go.WideShapes Go.ChangeAt Go.RowKit Go.Joins

set_option maxRecDepth 100000 in
set_option maxHeartbeats 16000000 in
theorem law_FnHeads (a0 : Option Addr) (n0 c0 : Nat) (w : World) (h : BytesAt w a0 n0) :
    Calls Try.prog 5 #[.slice a0 n0 c0] w fun e w' => e = .returned (.bool true) ∧ Below w.heap.size w w' := by
  have H_code := hid h
  clear h
  by_cases hn : 65536 < n0
  · have hv : decide (65536 < n0) = true := by simpa using hn
    go_enter Try.func5, Try.ntmps5
    go_wp2_with fail
    refine (l_vBig _ _ _ _).mono ?_
    rintro e _ ⟨rfl, rfl⟩
    go_wp2
    go_ret
    exact ⟨rfl, Below.refl _ _⟩
  have hv : decide (65536 < n0) = false := by simpa using hn
  go_enter Try.func5, Try.ntmps5
  go_wp2_with fail
  refine (l_vBig _ _ _ _).mono ?_
  rintro e _ ⟨rfl, rfl⟩
  rw [hv]
  clear hn hv
  go_wp2_with fail
  refine (s_DrawHeadsOf _ _ _ _ (H_code.out.below (by go_grown))).mono ?_
  rintro e w1 ⟨N, a, m, c, L, v1, a2, m2, c2, l2, v3, rfl, hq, ho2, ⟨⟨hN0, hN1⟩, hm, hm2⟩, hb⟩
  have HB_1 := hid (bstep (by go_grown) hb : Below w.heap.size w w1)
  have B_1 := HB_1
  have S_1 := HB_1.out.size
  clear hb
  have O_L := hid hq
  clear hq
  have O_l2 := hid ho2
  clear ho2
  obtain ⟨R, B, hR⟩ : ∃ R B, headsR N L v1 l2 v3 = (R, B) := ⟨_, _, rfl⟩
  have HR1 := hid hR
  clear hR
  go_wp2_with fail
  refine (i_HeadsOf N v1 v3 _ _ _ _ _ _ L l2 _ ((OwnS.at qf_len O_L.out).below (by go_grown)) (O_l2.out.at.below (by go_grown)) (by omega) (by omega) R B HR1.out).mono ?_
  rintro e w2 ⟨a4, c4, rfl, ho4, hb⟩
  have HB_2 := hid (bstep (by go_grown) hb : Below w1.heap.size w1 w2)
  have B_2 := hid (bstep B_1.out HB_2.out)
  have S_2 := HB_2.out.size
  have T_2_1 : Hid (w2.heap[w1.heap.size]? = some (.cells #[.int .i64 N, .slice a m c] 26 (0, 0))) := hid (by rw [hb.block _ (by simp <;> omega)]; exact heap_alloc_new _ _)
  have m_2_1_0 : w2.cell? ⟨w1.heap.size, 0, none⟩ = some (.int .i64 N) := by rw [cell_of_row w2 _ _ _ _ (0, 0) T_2_1.out]; rfl
  have m_2_1_1 : w2.cell? ⟨w1.heap.size, 1, none⟩ = some (.slice a m c) := by rw [cell_of_row w2 _ _ _ _ (0, 0) T_2_1.out]; rfl
  have z_2_1 : w1.heap.size < w2.heap.size := (Array.getElem?_eq_some_iff.1 T_2_1.out).1
  clear hb
  have O_R4 := hid ho4
  clear ho4
  have O_L_2 := hid (O_L.out.below HB_2.out)
  have O_l2_2 := hid (O_l2.out.below HB_2.out)
  go_wp2_with fail
  refine (s_HeadsOf N v1 v3 _ _ _ _ _ _ L l2 _ ((OwnS.at qf_len O_L_2.out).below (by go_grown)) (O_l2_2.out.at.below (by go_grown)) (by omega) (by omega) (q_cap O_L_2.out) R B HR1.out).mono ?_
  rintro e w3 ⟨a5, c5, rfl, ho5, hb⟩
  have HB_3 := hid (bstep (by go_grown) hb : Below w2.heap.size w2 w3)
  have B_3 := hid (bstep B_2.out HB_3.out)
  have S_3 := HB_3.out.size
  have T_3_1 := hid ((HB_3.out.block w1.heap.size (Array.getElem?_eq_some_iff.1 T_2_1.out).1).trans T_2_1.out)
  clear m_2_1_0 m_2_1_1 z_2_1
  have m_3_1_0 : w3.cell? ⟨w1.heap.size, 0, none⟩ = some (.int .i64 N) := by rw [cell_of_row w3 _ _ _ _ (0, 0) T_3_1.out]; rfl
  have m_3_1_1 : w3.cell? ⟨w1.heap.size, 1, none⟩ = some (.slice a m c) := by rw [cell_of_row w3 _ _ _ _ (0, 0) T_3_1.out]; rfl
  have z_3_1 : w1.heap.size < w3.heap.size := (Array.getElem?_eq_some_iff.1 T_3_1.out).1
  clear hb
  have O_R5 := hid ho5
  clear ho5
  have hlr : R.length ≤ 1048576 := by have := headsR_len HR1.out; omega
  have O_R4_3 := hid (O_R4.out.below HB_3.out)
  have O_L_3 := hid (O_L_2.out.below HB_3.out)
  have O_l2_3 := hid (O_l2_2.out.below HB_3.out)
  go_upto_region 6 with fail
  go_cut [75] (fun s75 wx => s75 = .bool false ∧ Hid (Below w3.heap.size w3 wx))
  case first => as_aux_lemma =>
    go_wp2_with fail
    refine (l_vInts_same _ _ _ _ _ R _ (O_R4_3.out.at.below (by go_grown)) (O_R5.out.at.below (by go_grown)) (by omega)).mono ?_
    rintro e w4 ⟨rfl, hb⟩
    have HB_4 := hid (bstep (by go_grown) hb : Below w3.heap.size w3 w4)
    have B_4 := hid (bstep B_3.out HB_4.out)
    have S_4 := HB_4.out.size
    have T_4_1 := hid ((HB_4.out.block w1.heap.size (Array.getElem?_eq_some_iff.1 T_3_1.out).1).trans T_3_1.out)
    clear m_3_1_0 m_3_1_1 z_3_1
    have m_4_1_0 : w4.cell? ⟨w1.heap.size, 0, none⟩ = some (.int .i64 N) := by rw [cell_of_row w4 _ _ _ _ (0, 0) T_4_1.out]; rfl
    have m_4_1_1 : w4.cell? ⟨w1.heap.size, 1, none⟩ = some (.slice a m c) := by rw [cell_of_row w4 _ _ _ _ (0, 0) T_4_1.out]; rfl
    have z_4_1 : w1.heap.size < w4.heap.size := (Array.getElem?_eq_some_iff.1 T_4_1.out).1
    clear hb
    go_wp2_with fail
    go_meet
    exact ⟨rfl, hid HB_4.out⟩
  case rest => as_aux_lemma =>
    obtain ⟨rfl, hcu⟩ := hcut
    obtain ⟨w4, hW4⟩ : ∃ W, W = wc := ⟨_, rfl⟩
    subst hW4
    have HB_4 := hcu
    have B_4 := hid (bstep B_3.out HB_4.out)
    have S_4 := HB_4.out.size
    have T_4_1 := hid ((HB_4.out.block w1.heap.size (Array.getElem?_eq_some_iff.1 T_3_1.out).1).trans T_3_1.out)
    clear m_3_1_0 m_3_1_1 z_3_1
    have m_4_1_0 : w4.cell? ⟨w1.heap.size, 0, none⟩ = some (.int .i64 N) := by rw [cell_of_row w4 _ _ _ _ (0, 0) T_4_1.out]; rfl
    have m_4_1_1 : w4.cell? ⟨w1.heap.size, 1, none⟩ = some (.slice a m c) := by rw [cell_of_row w4 _ _ _ _ (0, 0) T_4_1.out]; rfl
    have z_4_1 : w1.heap.size < w4.heap.size := (Array.getElem?_eq_some_iff.1 T_4_1.out).1
    clear hcu
    have O_R4_4 := hid (O_R4_3.out.below HB_4.out)
    have O_L_4 := hid (O_L_3.out.below HB_4.out)
    have O_l2_4 := hid (O_l2_3.out.below HB_4.out)
    go_upto_if 76 with (fail)
    go_cut [] (fun wx => Hid (Below w4.heap.size w4 wx))
    case first => as_aux_lemma =>
      cases B
      · go_wp2_with fail
        go_meet
        exact hid (Below.refl _ _)
      · obtain ⟨fs, ht, hfl, hgd, hs, hRl, hR0, hall⟩ := heads_yes HR1.out
        have HT := hid ht
        have HALL := hid hall
        have HFIT := hid (headsR_fit HR1.out)
        have hN8 := (goodNet_get hgd).1
        have hlL := OwnS.len O_L_4.out
        obtain ⟨j, hj⟩ : ∃ j : Nat, j = v1.toNat - 1 := ⟨_, rfl⟩
        have hwj : IntKind.i64.wrap (v1 - 1) = (j : Int) := by rw [IntWalk.i64_in _ (by omega)]; omega
        have hjl : j < R.length := by omega
        have hji : (j : Int) < (R.length : Int) := by omega
        have HR0 := hid (show R[j]?.getD 0 = v3 by rw [hj]; exact hR0)
        have HGD := hid hgd
        have HLL := hid hlL
        have HFL := hid hfl
        have HRL := hid hRl
        have hm10 : m ≤ 10 := by have := (goodNet_get hgd).2.1; omega
        clear ht hall hR0 hj hgd hlL hfl hRl
        go_wp2_with fail
        refine (i_TreeFlows N v1 _ _ _ _ _ _ L l2 _ ((OwnS.at qf_len O_L_4.out).below (by go_grown)) (O_l2_4.out.at.below (by go_grown)) (by omega) (by omega) fs true HT.out).mono ?_
        rintro e w5 ⟨a6, c6, rfl, ho6, hb⟩
        have HB_5 := hid (bstep (by go_grown) hb : Below w4.heap.size w4 w5)
        have B_5 := hid (bstep B_4.out HB_5.out)
        have S_5 := HB_5.out.size
        have T_5_1 := hid ((HB_5.out.block w1.heap.size (Array.getElem?_eq_some_iff.1 T_4_1.out).1).trans T_4_1.out)
        clear m_4_1_0 m_4_1_1 z_4_1
        have m_5_1_0 : w5.cell? ⟨w1.heap.size, 0, none⟩ = some (.int .i64 N) := by rw [cell_of_row w5 _ _ _ _ (0, 0) T_5_1.out]; rfl
        have m_5_1_1 : w5.cell? ⟨w1.heap.size, 1, none⟩ = some (.slice a m c) := by rw [cell_of_row w5 _ _ _ _ (0, 0) T_5_1.out]; rfl
        have z_5_1 : w1.heap.size < w5.heap.size := (Array.getElem?_eq_some_iff.1 T_5_1.out).1
        clear hb
        have O_fs := hid ho6
        clear ho6
        have O_R4_5 := hid (O_R4_4.out.below HB_5.out)
        have O_L_5 := hid (O_L_4.out.below HB_5.out)
        obtain ⟨g4, rfl, -, hg4⟩ := own_some O_R4_5.out (by omega)
        have hcl := O_R4_5.out.cell (k := j) hjl
        rw [HR0.out] at hcl
        have hfm : fs.length = m := by have := HFL.out; have := HLL.out; omega
        have HFM := hid hfm
        clear hfm
        go_upto_block 0 with fail
        clear hcl
        go_wp2
        go_loopg [13] m (fun g i wr => ∃ k : Nat, k ≤ m ∧ g = m - k ∧ i = .int .i64 k ∧ Hid (Below w5.heap.size w5 wr))
        case atStart => exact ⟨0, Nat.zero_le _, rfl, rfl, hid (Below.refl _ _)⟩
        case round =>
          obtain ⟨k, hk, rfl, rfl, hh⟩ := hrel
          obtain ⟨w6, hW6⟩ : ∃ W, W = wr := ⟨_, rfl⟩
          subst hW6
          have HB_6 := hh
          have B_6 := hid (bstep B_5.out HB_6.out)
          have S_6 := HB_6.out.size
          have T_6_1 := hid ((HB_6.out.block w1.heap.size (Array.getElem?_eq_some_iff.1 T_5_1.out).1).trans T_5_1.out)
          clear m_5_1_0 m_5_1_1 z_5_1
          have m_6_1_0 : w6.cell? ⟨w1.heap.size, 0, none⟩ = some (.int .i64 N) := by rw [cell_of_row w6 _ _ _ _ (0, 0) T_6_1.out]; rfl
          have m_6_1_1 : w6.cell? ⟨w1.heap.size, 1, none⟩ = some (.slice a m c) := by rw [cell_of_row w6 _ _ _ _ (0, 0) T_6_1.out]; rfl
          have z_6_1 : w1.heap.size < w6.heap.size := (Array.getElem?_eq_some_iff.1 T_6_1.out).1
          have O_L_6 := hid (O_L_5.out.below HB_6.out)
          have O_R4_6 := hid (O_R4_5.out.below HB_6.out)
          have O_fs_6 := hid (O_fs.out.below HB_6.out)
          by_cases hlt9 : k < m
          · have hlti : (k : Int) < (m : Int) := by omega
            obtain ⟨x, y, hl1, hl2, hl3, hl4⟩ := HALL.out k (by have := HLL.out; omega)
            obtain ⟨-, p1, p2, pne, psz⟩ := goodNet_pipe HGD.out (k := k) (by have := HLL.out; omega)
            have HL1 := hid hl1
            have HL3 := hid hl3
            obtain ⟨gb, go, e0, hgb, x0, x1, x2, x3⟩ := QAt.get (OwnS.at qf_len O_L_6.out) k hlt9
            subst e0
            obtain ⟨P0, hP0⟩ : ∃ P, (pp L k).1 = P := ⟨_, rfl⟩
            obtain ⟨P1, hP1⟩ : ∃ P, (pp L k).2.1 = P := ⟨_, rfl⟩
            obtain ⟨P2, hP2⟩ : ∃ P, (pp L k).2.2.1 = P := ⟨_, rfl⟩
            obtain ⟨P3, hP3⟩ : ∃ P, (pp L k).2.2.2 = P := ⟨_, rfl⟩
            rw [hP1, hP2] at hl2
            rw [hP2] at hl4 p2
            rw [hP1] at p1
            rw [hP0] at HL1 x0
            rw [hP2] at HL3 x2
            rw [hP1] at x1
            rw [hP3] at x3
            obtain ⟨j1, hj1⟩ : ∃ j : Nat, j = P1.toNat - 1 := ⟨_, rfl⟩
            obtain ⟨j2, hj2⟩ : ∃ j : Nat, j = P2.toNat - 1 := ⟨_, rfl⟩
            rw [← hj1, ← hj2] at hl2
            rw [← hj2] at hl4
            have hw1 : IntKind.i64.wrap (P1 - 1) = (j1 : Int) := by rw [IntWalk.i64_in _ (by omega)]; omega
            have hw2 : IntKind.i64.wrap (P2 - 1) = (j2 : Int) := by rw [IntWalk.i64_in _ (by omega)]; omega
            have q1 : j1 < R.length := by have := HRL.out; omega
            have q2 : j2 < R.length := by have := HRL.out; omega
            have q1i : (j1 : Int) < (R.length : Int) := by omega
            have q2i : (j2 : Int) < (R.length : Int) := by omega
            have q3i : (0 : Int) ≤ (j1 : Int) := by omega
            have q4i : (0 : Int) ≤ (j2 : Int) := by omega
            have f1 := HFIT.out j1 q1
            have f2 := HFIT.out j2 q2
            obtain ⟨A1, hA1⟩ : ∃ A, R[j1]?.getD 0 = A := ⟨_, rfl⟩
            obtain ⟨A2, hA2⟩ : ∃ A, R[j2]?.getD 0 = A := ⟨_, rfl⟩
            rw [hA1] at f1 hl2
            rw [hA2] at f2 hl2 hl4
            have hw3 : IntKind.i64.wrap (A1 - A2) = x := by rw [IntWalk.i64_in _ (by omega)]; omega
            have hw4 : IntKind.i64.wrap (v3 - y) = A2 := by rw [IntWalk.i64_in _ (by omega)]; omega
            have hwk : IntKind.i64.wrap ((k : Int) + 1) = ((k + 1 : Nat) : Int) := by rw [IntWalk.i64_in _ (by omega)]; omega
            have HA1 := hid hA1
            have HA2 := hid hA2
            clear hl1 hl2 hl3 hl4 hP0 hP1 hP2 hP3 hj1 hj2 f1 f2 hA1 hA2 p1 p2 pne psz
            go_wp2_with fail
            refine (i_LossOf N _ _ _ _ _ _ L fs _ _ ((OwnS.at qf_len O_L_6.out).below (by go_grown)) (O_fs_6.out.at.below (by go_grown)) (by omega) (by have := HFM.out; omega) _ _ HL1.out).mono ?_
            rintro e w7 ⟨rfl, hb⟩
            have HB_7 := hid (bstep (by go_grown) hb : Below w6.heap.size w6 w7)
            have B_7 := hid (bstep B_6.out HB_7.out)
            have S_7 := HB_7.out.size
            have T_7_1 := hid ((HB_7.out.block w1.heap.size (Array.getElem?_eq_some_iff.1 T_6_1.out).1).trans T_6_1.out)
            have T_7_2 : Hid (w7.heap[w6.heap.size]? = some (.cells #[.int .i64 P0, .int .i64 P1, .int .i64 P2, .int .i64 P3] 40 (0, 0))) := hid (by rw [hb.block _ (by simp <;> omega)]; exact heap_alloc_new _ _)
            clear m_6_1_0 m_6_1_1 z_6_1
            have m_7_1_0 : w7.cell? ⟨w1.heap.size, 0, none⟩ = some (.int .i64 N) := by rw [cell_of_row w7 _ _ _ _ (0, 0) T_7_1.out]; rfl
            have m_7_1_1 : w7.cell? ⟨w1.heap.size, 1, none⟩ = some (.slice (some ⟨gb, go, none⟩) m c) := by rw [cell_of_row w7 _ _ _ _ (0, 0) T_7_1.out]; rfl
            have z_7_1 : w1.heap.size < w7.heap.size := (Array.getElem?_eq_some_iff.1 T_7_1.out).1
            have m_7_2_0 : w7.cell? ⟨w6.heap.size, 0, none⟩ = some (.int .i64 P0) := by rw [cell_of_row w7 _ _ _ _ (0, 0) T_7_2.out]; rfl
            have m_7_2_1 : w7.cell? ⟨w6.heap.size, 1, none⟩ = some (.int .i64 P1) := by rw [cell_of_row w7 _ _ _ _ (0, 0) T_7_2.out]; rfl
            have m_7_2_2 : w7.cell? ⟨w6.heap.size, 2, none⟩ = some (.int .i64 P2) := by rw [cell_of_row w7 _ _ _ _ (0, 0) T_7_2.out]; rfl
            have m_7_2_3 : w7.cell? ⟨w6.heap.size, 3, none⟩ = some (.int .i64 P3) := by rw [cell_of_row w7 _ _ _ _ (0, 0) T_7_2.out]; rfl
            have z_7_2 : w6.heap.size < w7.heap.size := (Array.getElem?_eq_some_iff.1 T_7_2.out).1
            clear hb
            have O_L_7 := hid (O_L_6.out.below HB_7.out)
            have O_fs_7 := hid (O_fs_6.out.below HB_7.out)
            go_wp2_with fail
            refine (i_LossAlong N v1 P2 _ _ _ _ _ _ L fs _ ((OwnS.at qf_len O_L_7.out).below (by go_grown)) (O_fs_7.out.at.below (by go_grown)) (by omega) (by have := HFM.out; omega) _ _ HL3.out).mono ?_
            rintro e w8 ⟨rfl, hb⟩
            have HB_8 := hid (bstep (by go_grown) hb : Below w7.heap.size w7 w8)
            have B_8 := hid (bstep B_7.out HB_8.out)
            have S_8 := HB_8.out.size
            have T_8_1 := hid ((HB_8.out.block w1.heap.size (Array.getElem?_eq_some_iff.1 T_7_1.out).1).trans T_7_1.out)
            have T_8_2 := hid ((HB_8.out.block w6.heap.size (Array.getElem?_eq_some_iff.1 T_7_2.out).1).trans T_7_2.out)
            clear m_7_1_0 m_7_1_1 z_7_1 m_7_2_0 m_7_2_1 m_7_2_2 m_7_2_3 z_7_2
            have m_8_1_0 : w8.cell? ⟨w1.heap.size, 0, none⟩ = some (.int .i64 N) := by rw [cell_of_row w8 _ _ _ _ (0, 0) T_8_1.out]; rfl
            have m_8_1_1 : w8.cell? ⟨w1.heap.size, 1, none⟩ = some (.slice (some ⟨gb, go, none⟩) m c) := by rw [cell_of_row w8 _ _ _ _ (0, 0) T_8_1.out]; rfl
            have z_8_1 : w1.heap.size < w8.heap.size := (Array.getElem?_eq_some_iff.1 T_8_1.out).1
            have m_8_2_0 : w8.cell? ⟨w6.heap.size, 0, none⟩ = some (.int .i64 P0) := by rw [cell_of_row w8 _ _ _ _ (0, 0) T_8_2.out]; rfl
            have m_8_2_1 : w8.cell? ⟨w6.heap.size, 1, none⟩ = some (.int .i64 P1) := by rw [cell_of_row w8 _ _ _ _ (0, 0) T_8_2.out]; rfl
            have m_8_2_2 : w8.cell? ⟨w6.heap.size, 2, none⟩ = some (.int .i64 P2) := by rw [cell_of_row w8 _ _ _ _ (0, 0) T_8_2.out]; rfl
            have m_8_2_3 : w8.cell? ⟨w6.heap.size, 3, none⟩ = some (.int .i64 P3) := by rw [cell_of_row w8 _ _ _ _ (0, 0) T_8_2.out]; rfl
            have z_8_2 : w6.heap.size < w8.heap.size := (Array.getElem?_eq_some_iff.1 T_8_2.out).1
            clear hb
            have O_R4_8 := hid ((O_R4_6.out.below HB_7.out).below HB_8.out)
            have c1 := O_R4_8.out.cell (k := j1) q1
            have c2 := O_R4_8.out.cell (k := j2) q2
            rw [HA1.out] at c1
            rw [HA2.out] at c2
            go_upto_region 18 with fail
            go_quiet (fail)
            clear c1 c2 hw1 hw2 hw3 hw4
            go_wp2
            go_roundg (m - (k + 1))
            case rel => exact ⟨k + 1, by omega, rfl, rfl, hid (bstep (bstep hh.out (bstep HB_7.out HB_8.out)) (bdraws _))⟩
            case measure => omega
          · obtain rfl : m = k := by omega
            go_wp2_with fail
            go_meet
            exact hid (bstep HB_5.out hh.out)
    case rest => as_aux_lemma =>
      obtain ⟨w5, hW5⟩ : ∃ W, W = wc := ⟨_, rfl⟩
      subst hW5
      have HB_5 := hcut
      have B_5 := hid (bstep B_4.out HB_5.out)
      have S_5 := HB_5.out.size
      have T_5_1 := hid ((HB_5.out.block w1.heap.size (Array.getElem?_eq_some_iff.1 T_4_1.out).1).trans T_4_1.out)
      clear m_4_1_0 m_4_1_1 z_4_1
      have m_5_1_0 : w5.cell? ⟨w1.heap.size, 0, none⟩ = some (.int .i64 N) := by rw [cell_of_row w5 _ _ _ _ (0, 0) T_5_1.out]; rfl
      have m_5_1_1 : w5.cell? ⟨w1.heap.size, 1, none⟩ = some (.slice a m c) := by rw [cell_of_row w5 _ _ _ _ (0, 0) T_5_1.out]; rfl
      have z_5_1 : w1.heap.size < w5.heap.size := (Array.getElem?_eq_some_iff.1 T_5_1.out).1
      go_wp2_with fail
      refine (s_DrawHeadNeeded _ _ _ _ ((H_code.out.below B_5.out).below (by go_grown))).mono ?_
      rintro e w6 ⟨N6, a6, m6, c6, L6, v7, a8, m8, c8, l8, a9, m9, c9, l9, v10, rfl, hq, ho8, ho9, ⟨⟨hN6, hN7⟩, hm6, hm8, hm9⟩, hb⟩
      have HB_6 := hid (bstep (by go_grown) hb : Below w5.heap.size w5 w6)
      have B_6 := hid (bstep B_5.out HB_6.out)
      have S_6 := HB_6.out.size
      have T_6_1 := hid ((HB_6.out.block w1.heap.size (Array.getElem?_eq_some_iff.1 T_5_1.out).1).trans T_5_1.out)
      clear m_5_1_0 m_5_1_1 z_5_1
      clear hb
      have O_L6 := hid hq
      clear hq
      have O_l8 := hid ho8
      clear ho8
      have O_l9 := hid ho9
      clear ho9
      obtain ⟨X, B2, hR⟩ : ∃ X B2, needR N6 L6 v7 l8 l9 v10 = (X, B2) := ⟨_, _, rfl⟩
      have HR2 := hid hR
      clear hR
      go_wp2_with fail
      refine (i_HeadNeeded N6 v7 v10 _ _ _ _ _ _ _ _ _ L6 l8 l9 _ ((OwnS.at qf_len O_L6.out).below (by go_grown)) (O_l8.out.at.below (by go_grown)) (O_l9.out.at.below (by go_grown)) (by omega) (by omega) (by omega) X B2 HR2.out).mono ?_
      rintro e w7 ⟨rfl, hb⟩
      have HB_7 := hid (bstep (by go_grown) hb : Below w6.heap.size w6 w7)
      have B_7 := hid (bstep B_6.out HB_7.out)
      have S_7 := HB_7.out.size
      have T_7_1 := hid ((HB_7.out.block w1.heap.size (Array.getElem?_eq_some_iff.1 T_6_1.out).1).trans T_6_1.out)
      have T_7_2 : Hid (w7.heap[w6.heap.size]? = some (.cells #[.int .i64 N6, .slice a6 m6 c6] 26 (0, 0))) := hid (by rw [hb.block _ (by simp <;> omega)]; exact heap_alloc_new _ _)
      have m_7_2_0 : w7.cell? ⟨w6.heap.size, 0, none⟩ = some (.int .i64 N6) := by rw [cell_of_row w7 _ _ _ _ (0, 0) T_7_2.out]; rfl
      have m_7_2_1 : w7.cell? ⟨w6.heap.size, 1, none⟩ = some (.slice a6 m6 c6) := by rw [cell_of_row w7 _ _ _ _ (0, 0) T_7_2.out]; rfl
      have z_7_2 : w6.heap.size < w7.heap.size := (Array.getElem?_eq_some_iff.1 T_7_2.out).1
      clear hb
      have O_L6_7 := hid (O_L6.out.below HB_7.out)
      have O_l8_7 := hid (O_l8.out.below HB_7.out)
      have O_l9_7 := hid (O_l9.out.below HB_7.out)
      go_wp2_with fail
      refine (s_HeadNeeded N6 v7 v10 _ _ _ _ _ _ _ _ _ L6 l8 l9 _ ((OwnS.at qf_len O_L6_7.out).below (by go_grown)) (O_l8_7.out.at.below (by go_grown)) (O_l9_7.out.at.below (by go_grown)) (by omega) (by omega) (by omega) (q_cap O_L6_7.out) X B2 HR2.out).mono ?_
      rintro e w8 ⟨rfl, hb⟩
      have HB_8 := hid (bstep (by go_grown) hb : Below w7.heap.size w7 w8)
      have B_8 := hid (bstep B_7.out HB_8.out)
      have S_8 := HB_8.out.size
      have T_8_1 := hid ((HB_8.out.block w1.heap.size (Array.getElem?_eq_some_iff.1 T_7_1.out).1).trans T_7_1.out)
      have T_8_2 := hid ((HB_8.out.block w6.heap.size (Array.getElem?_eq_some_iff.1 T_7_2.out).1).trans T_7_2.out)
      clear m_7_2_0 m_7_2_1 z_7_2
      have m_8_2_0 : w8.cell? ⟨w6.heap.size, 0, none⟩ = some (.int .i64 N6) := by rw [cell_of_row w8 _ _ _ _ (0, 0) T_8_2.out]; rfl
      have m_8_2_1 : w8.cell? ⟨w6.heap.size, 1, none⟩ = some (.slice a6 m6 c6) := by rw [cell_of_row w8 _ _ _ _ (0, 0) T_8_2.out]; rfl
      have z_8_2 : w6.heap.size < w8.heap.size := (Array.getElem?_eq_some_iff.1 T_8_2.out).1
      clear hb
      go_upto_region 23 with fail
      go_cut [192] (fun s192 wx => s192 = .bool false ∧ Hid (Below w8.heap.size w8 wx))
      case first => as_aux_lemma =>
        go_wp2_with fail
        go_meet
        exact ⟨rfl, hid (Below.refl _ _)⟩
      case rest => as_aux_lemma =>
        obtain ⟨rfl, hcu⟩ := hcut
        obtain ⟨w9, hW9⟩ : ∃ W, W = wc := ⟨_, rfl⟩
        subst hW9
        have HB_9 := hcu
        have B_9 := hid (bstep B_8.out HB_9.out)
        have S_9 := HB_9.out.size
        have T_9_1 := hid ((HB_9.out.block w1.heap.size (Array.getElem?_eq_some_iff.1 T_8_1.out).1).trans T_8_1.out)
        have T_9_2 := hid ((HB_9.out.block w6.heap.size (Array.getElem?_eq_some_iff.1 T_8_2.out).1).trans T_8_2.out)
        clear m_8_2_0 m_8_2_1 z_8_2
        have m_9_2_0 : w9.cell? ⟨w6.heap.size, 0, none⟩ = some (.int .i64 N6) := by rw [cell_of_row w9 _ _ _ _ (0, 0) T_9_2.out]; rfl
        have m_9_2_1 : w9.cell? ⟨w6.heap.size, 1, none⟩ = some (.slice a6 m6 c6) := by rw [cell_of_row w9 _ _ _ _ (0, 0) T_9_2.out]; rfl
        have z_9_2 : w6.heap.size < w9.heap.size := (Array.getElem?_eq_some_iff.1 T_9_2.out).1
        clear hcu
        have O_L6_9 := hid ((O_L6_7.out.below HB_8.out).below HB_9.out)
        have O_l8_9 := hid ((O_l8_7.out.below HB_8.out).below HB_9.out)
        have O_l9_9 := hid ((O_l9_7.out.below HB_8.out).below HB_9.out)
        go_upto_if 193 with (fail)
        go_cut [] (fun wx => Hid (Below w9.heap.size w9 wx))
        case first => as_aux_lemma =>
          cases B2
          · go_wp2_with fail
            go_meet
            exact hid (Below.refl _ _)
          · obtain ⟨hw0, hx, hless⟩ := need_weak HR2.out
            have HW0 := hid hw0
            have HLESS := hid hless
            clear hw0 hless
            have hwx := IntWalk.i64_in (X - 1) (by omega)
            obtain ⟨R3, B3, hR⟩ : ∃ R3 B3, weakR N6 L6 v7 l8 (X - 1) l9 v10 = (R3, B3) := ⟨_, _, rfl⟩
            have HR3 := hid hR
            clear hR
            go_wp2_with fail
            refine (i_WeakNodes N6 v7 X v10 _ _ _ _ _ _ _ _ _ L6 l8 l9 _ ((OwnS.at qf_len O_L6_9.out).below (by go_grown)) (O_l8_9.out.at.below (by go_grown)) (O_l9_9.out.at.below (by go_grown)) (by omega) (by omega) (by omega) _ true HW0.out).mono ?_
            rintro e w10 ⟨a11, c11, rfl, ho11, hb⟩
            have HB_10 := hid (bstep (by go_grown) hb : Below w9.heap.size w9 w10)
            have B_10 := hid (bstep B_9.out HB_10.out)
            have S_10 := HB_10.out.size
            have T_10_1 := hid ((HB_10.out.block w1.heap.size (Array.getElem?_eq_some_iff.1 T_9_1.out).1).trans T_9_1.out)
            have T_10_2 := hid ((HB_10.out.block w6.heap.size (Array.getElem?_eq_some_iff.1 T_9_2.out).1).trans T_9_2.out)
            clear m_9_2_0 m_9_2_1 z_9_2
            have m_10_2_0 : w10.cell? ⟨w6.heap.size, 0, none⟩ = some (.int .i64 N6) := by rw [cell_of_row w10 _ _ _ _ (0, 0) T_10_2.out]; rfl
            have m_10_2_1 : w10.cell? ⟨w6.heap.size, 1, none⟩ = some (.slice a6 m6 c6) := by rw [cell_of_row w10 _ _ _ _ (0, 0) T_10_2.out]; rfl
            have z_10_2 : w6.heap.size < w10.heap.size := (Array.getElem?_eq_some_iff.1 T_10_2.out).1
            clear hb
            clear ho11
            simp only [List.length_nil]
            have O_L6_10 := hid (O_L6_9.out.below HB_10.out)
            have O_l8_10 := hid (O_l8_9.out.below HB_10.out)
            have O_l9_10 := hid (O_l9_9.out.below HB_10.out)
            go_wp2_with fail
            refine (i_WeakNodes N6 v7 (X - 1) v10 _ _ _ _ _ _ _ _ _ L6 l8 l9 _ ((OwnS.at qf_len O_L6_10.out).below (by go_grown)) (O_l8_10.out.at.below (by go_grown)) (O_l9_10.out.at.below (by go_grown)) (by omega) (by omega) (by omega) R3 B3 HR3.out).mono ?_
            rintro e w11 ⟨a12, c12, rfl, ho12, hb⟩
            have HB_11 := hid (bstep (by go_grown) hb : Below w10.heap.size w10 w11)
            have B_11 := hid (bstep B_10.out HB_11.out)
            have S_11 := HB_11.out.size
            have T_11_1 := hid ((HB_11.out.block w1.heap.size (Array.getElem?_eq_some_iff.1 T_10_1.out).1).trans T_10_1.out)
            have T_11_2 := hid ((HB_11.out.block w6.heap.size (Array.getElem?_eq_some_iff.1 T_10_2.out).1).trans T_10_2.out)
            clear m_10_2_0 m_10_2_1 z_10_2
            have m_11_2_0 : w11.cell? ⟨w6.heap.size, 0, none⟩ = some (.int .i64 N6) := by rw [cell_of_row w11 _ _ _ _ (0, 0) T_11_2.out]; rfl
            have m_11_2_1 : w11.cell? ⟨w6.heap.size, 1, none⟩ = some (.slice a6 m6 c6) := by rw [cell_of_row w11 _ _ _ _ (0, 0) T_11_2.out]; rfl
            have z_11_2 : w6.heap.size < w11.heap.size := (Array.getElem?_eq_some_iff.1 T_11_2.out).1
            clear hb
            clear ho12
            cases B3
            · go_wp2_with fail
              go_meet
              exact hid (bstep HB_10.out HB_11.out)
            · have hne : ¬ R3.length = 0 := fun e => HLESS.out R3 HR3.out (List.eq_nil_of_length_eq_zero e)
              have hnb : ((R3.length : Int) == 0) = false := by simpa using hne
              obtain ⟨q3, hq3⟩ : ∃ q, R3.length = q := ⟨_, rfl⟩
              rw [hq3] at hnb ⊢
              clear hq3 hne
              go_wp2_with fail
              go_meet
              exact hid (bstep HB_10.out HB_11.out)
        case rest => as_aux_lemma =>
          obtain ⟨w10, hW10⟩ : ∃ W, W = wc := ⟨_, rfl⟩
          subst hW10
          have HB_10 := hcut
          have B_10 := hid (bstep B_9.out HB_10.out)
          have S_10 := HB_10.out.size
          have T_10_1 := hid ((HB_10.out.block w1.heap.size (Array.getElem?_eq_some_iff.1 T_9_1.out).1).trans T_9_1.out)
          have T_10_2 := hid ((HB_10.out.block w6.heap.size (Array.getElem?_eq_some_iff.1 T_9_2.out).1).trans T_9_2.out)
          clear m_9_2_0 m_9_2_1 z_9_2
          have m_10_2_0 : w10.cell? ⟨w6.heap.size, 0, none⟩ = some (.int .i64 N6) := by rw [cell_of_row w10 _ _ _ _ (0, 0) T_10_2.out]; rfl
          have m_10_2_1 : w10.cell? ⟨w6.heap.size, 1, none⟩ = some (.slice a6 m6 c6) := by rw [cell_of_row w10 _ _ _ _ (0, 0) T_10_2.out]; rfl
          have z_10_2 : w6.heap.size < w10.heap.size := (Array.getElem?_eq_some_iff.1 T_10_2.out).1
          go_wp2_with fail
          refine (s_DrawWeakNodes _ _ _ _ ((H_code.out.below B_10.out).below (by go_grown))).mono ?_
          rintro e w11 ⟨N13, a13, m13, c13, L13, v14, a15, m15, c15, l15, v16, a17, m17, c17, l17, v18, rfl, hq, ho15, ho17, ⟨⟨hN13, hN14⟩, hm13, hm15, hm17⟩, hb⟩
          have HB_11 := hid (bstep (by go_grown) hb : Below w10.heap.size w10 w11)
          have B_11 := hid (bstep B_10.out HB_11.out)
          have S_11 := HB_11.out.size
          have T_11_1 := hid ((HB_11.out.block w1.heap.size (Array.getElem?_eq_some_iff.1 T_10_1.out).1).trans T_10_1.out)
          have T_11_2 := hid ((HB_11.out.block w6.heap.size (Array.getElem?_eq_some_iff.1 T_10_2.out).1).trans T_10_2.out)
          clear m_10_2_0 m_10_2_1 z_10_2
          clear hb
          have O_L13 := hid hq
          clear hq
          have O_l15 := hid ho15
          clear ho15
          have O_l17 := hid ho17
          clear ho17
          obtain ⟨R19, B19, hR⟩ : ∃ R19 B19, weakR N13 L13 v14 l15 v16 l17 v18 = (R19, B19) := ⟨_, _, rfl⟩
          have HR4 := hid hR
          clear hR
          go_wp2_with fail
          refine (i_WeakNodes N13 v14 v16 v18 _ _ _ _ _ _ _ _ _ L13 l15 l17 _ ((OwnS.at qf_len O_L13.out).below (by go_grown)) (O_l15.out.at.below (by go_grown)) (O_l17.out.at.below (by go_grown)) (by omega) (by omega) (by omega) R19 B19 HR4.out).mono ?_
          rintro e w12 ⟨a20, c20, rfl, ho20, hb⟩
          have HB_12 := hid (bstep (by go_grown) hb : Below w11.heap.size w11 w12)
          have B_12 := hid (bstep B_11.out HB_12.out)
          have S_12 := HB_12.out.size
          have T_12_1 := hid ((HB_12.out.block w1.heap.size (Array.getElem?_eq_some_iff.1 T_11_1.out).1).trans T_11_1.out)
          have T_12_2 := hid ((HB_12.out.block w6.heap.size (Array.getElem?_eq_some_iff.1 T_11_2.out).1).trans T_11_2.out)
          have T_12_3 : Hid (w12.heap[w11.heap.size]? = some (.cells #[.int .i64 N13, .slice a13 m13 c13] 26 (0, 0))) := hid (by rw [hb.block _ (by simp <;> omega)]; exact heap_alloc_new _ _)
          have m_12_3_0 : w12.cell? ⟨w11.heap.size, 0, none⟩ = some (.int .i64 N13) := by rw [cell_of_row w12 _ _ _ _ (0, 0) T_12_3.out]; rfl
          have m_12_3_1 : w12.cell? ⟨w11.heap.size, 1, none⟩ = some (.slice a13 m13 c13) := by rw [cell_of_row w12 _ _ _ _ (0, 0) T_12_3.out]; rfl
          have z_12_3 : w11.heap.size < w12.heap.size := (Array.getElem?_eq_some_iff.1 T_12_3.out).1
          clear hb
          have O_R20 := hid ho20
          clear ho20
          have O_L13_12 := hid (O_L13.out.below HB_12.out)
          have O_l15_12 := hid (O_l15.out.below HB_12.out)
          have O_l17_12 := hid (O_l17.out.below HB_12.out)
          go_wp2_with fail
          refine (s_WeakNodes N13 v14 v16 v18 _ _ _ _ _ _ _ _ _ L13 l15 l17 _ ((OwnS.at qf_len O_L13_12.out).below (by go_grown)) (O_l15_12.out.at.below (by go_grown)) (O_l17_12.out.at.below (by go_grown)) (by omega) (by omega) (by omega) (q_cap O_L13_12.out) R19 B19 HR4.out).mono ?_
          rintro e w13 ⟨a21, c21, rfl, ho21, hb⟩
          have HB_13 := hid (bstep (by go_grown) hb : Below w12.heap.size w12 w13)
          have B_13 := hid (bstep B_12.out HB_13.out)
          have S_13 := HB_13.out.size
          have T_13_1 := hid ((HB_13.out.block w1.heap.size (Array.getElem?_eq_some_iff.1 T_12_1.out).1).trans T_12_1.out)
          have T_13_2 := hid ((HB_13.out.block w6.heap.size (Array.getElem?_eq_some_iff.1 T_12_2.out).1).trans T_12_2.out)
          have T_13_3 := hid ((HB_13.out.block w11.heap.size (Array.getElem?_eq_some_iff.1 T_12_3.out).1).trans T_12_3.out)
          clear m_12_3_0 m_12_3_1 z_12_3
          have m_13_3_0 : w13.cell? ⟨w11.heap.size, 0, none⟩ = some (.int .i64 N13) := by rw [cell_of_row w13 _ _ _ _ (0, 0) T_13_3.out]; rfl
          have m_13_3_1 : w13.cell? ⟨w11.heap.size, 1, none⟩ = some (.slice a13 m13 c13) := by rw [cell_of_row w13 _ _ _ _ (0, 0) T_13_3.out]; rfl
          have z_13_3 : w11.heap.size < w13.heap.size := (Array.getElem?_eq_some_iff.1 T_13_3.out).1
          clear hb
          have O_R21 := hid ho21
          clear ho21
          have hl19 : R19.length ≤ 1048576 := by have := weakR_len HR4.out; omega
          have O_R20_13 := hid (O_R20.out.below HB_13.out)
          go_wp2_with fail
          refine (l_vInts_same _ _ _ _ _ R19 _ (O_R20_13.out.at.below (by go_grown)) (O_R21.out.at.below (by go_grown)) (by omega)).mono ?_
          rintro e w14 ⟨rfl, hb⟩
          have HB_14 := hid (bstep (by go_grown) hb : Below w13.heap.size w13 w14)
          have B_14 := hid (bstep B_13.out HB_14.out)
          have S_14 := HB_14.out.size
          have T_14_1 := hid ((HB_14.out.block w1.heap.size (Array.getElem?_eq_some_iff.1 T_13_1.out).1).trans T_13_1.out)
          have T_14_2 := hid ((HB_14.out.block w6.heap.size (Array.getElem?_eq_some_iff.1 T_13_2.out).1).trans T_13_2.out)
          have T_14_3 := hid ((HB_14.out.block w11.heap.size (Array.getElem?_eq_some_iff.1 T_13_3.out).1).trans T_13_3.out)
          clear m_13_3_0 m_13_3_1 z_13_3
          have m_14_3_0 : w14.cell? ⟨w11.heap.size, 0, none⟩ = some (.int .i64 N13) := by rw [cell_of_row w14 _ _ _ _ (0, 0) T_14_3.out]; rfl
          have m_14_3_1 : w14.cell? ⟨w11.heap.size, 1, none⟩ = some (.slice a13 m13 c13) := by rw [cell_of_row w14 _ _ _ _ (0, 0) T_14_3.out]; rfl
          have z_14_3 : w11.heap.size < w14.heap.size := (Array.getElem?_eq_some_iff.1 T_14_3.out).1
          clear hb
          go_wp2
          go_ret
          exact ⟨rfl, B_14.out⟩

set_option maxRecDepth 100000 in
theorem fnHeads_lifted (os : Os) (started : os.Started) (H : Type) (enc : TypeId × Value → H) :
    ReturnsInHanded {} Try.checked os 5 .any (Rows.fnHeadsSpec.pre6 enc Try.prog Try.f5 Rows.fnHeadsRow.domain false) (Rows.fnHeadsSpec.post enc Try.prog Try.f5 false true false false) := by
  refine returnsInHanded_of_change (C := Try.checked) Try.own started (by kernel_rfl) Try.func5
    (ChangeSpec.witness6 (enc := enc) (C := Try.checked) false ⟨#[], #[.slice none 0 0], []⟩ 8 (by kernel_rfl) (by kernel_rfl) (by kernel_rfl) (by kernel_rfl)) ?_
  intro W base args ds gs before hval0 hW _ _
  have hval : ∀ (j : Nat) t v, Try.f5.params[j]? = some t → args[j]? = some v → Value.okWide Try.prog W .any base t v := hval0
  have hW' : DataW.Whole enc Try.prog Try.f5.params.toList Rows.fnHeadsSpec.vars false W args.toList ds gs before := hW
  obtain ⟨p, q, hA0, hV, rfl, hfz, hnd⟩ := hW
  have hlt : ∀ x ∈ p, x.block < W.heap.size := fun x hx => hW'.lt x (by simp [hx])
  have hA : DataW.TrodAll enc Try.prog W 0 (fun _ => true) true Try.f5.params.toList args.toList ds p := hA0
  rw [Try.params5] at hA hval
  clear hA0 hval0
  obtain ⟨v0, d0, rfl, rfl, h0⟩ := trodAll_one hA
  obtain ⟨rfl, rfl⟩ := trodVars_none hV
  obtain ⟨x0, n0, k0, rfl, g0⟩ := open_bytes (hval 0 22 v0 rfl rfl) h0
  refine (law_FnHeads x0 n0 k0 W g0).mono fun e W' ⟨he, hb⟩ => ?_
  subst he
  exact ⟨_, rfl, law_post rfl rfl (by kernel_rfl) hW' rfl rfl rfl hb⟩

theorem fnHeads_proved : Rows.FnHeadsSaid :=
  OpenClaim.holds_of_wide 5 Try.f5 rfl rfl rfl rfl rfl rfl rfl ⟨rfl, rfl, rfl, rfl, rfl⟩ rfl rfl rfl rfl rfl (by kernel_rfl) Try.func5 (by kernel_rfl)
    (of_decide_eq_true (by kernel_rfl)) (by unfold Func.isWrapper; first | (rw [if_pos (by decide +kernel)]; kernel_rfl) | (rw [if_neg (by decide +kernel)]; exact ⟨rfl, rfl⟩))
    (fun os started H enc _ => fnHeads_lifted os started H enc)

end Go.Proofs.Ytlnhikhpkcgegaa

