/-
  The law FnTreeFlows returns true for every input, and leaves its argument as it was. No condition.
-/
import Derived.Deep.CutBlock
import Derived.Test.YtlnhikhpkcgegaaLo2
import Derived.Test.YtlnhikhpkcgegaaLo11
import Derived.Test.YtlnhikhpkcgegaaLo13
import Derived.Test.YtlnhikhpkcgegaaLo18
import Derived.Test.YtlnhikhpkcgegaaLo19
set_option linter.unusedVariables false
set_option linter.unusedSimpArgs false
namespace Go.Proofs.Ytlnhikhpkcgegaa
open Go.ChangeShapes Go.WideShapes Go.ChangeAt Go.RowKit Go.Joins

set_option maxRecDepth 100000 in
set_option maxHeartbeats 16000000 in
theorem law_FnTreeFlows (a0 : Option Addr) (n0 c0 : Nat) (w : World) (h : BytesAt w a0 n0) :
    Calls Try.prog 3 #[.slice a0 n0 c0] w fun e w' => e = .returned (.bool true) ∧ Below w.heap.size w w' := by
  have H_code := hid h
  clear h
  by_cases hn : 65536 < n0
  · have hv : decide (65536 < n0) = true := by simpa using hn
    go_enter Try.func3, Try.ntmps3
    go_wp2_with fail
    refine (l_vBig _ _ _ _).mono ?_
    rintro e _ ⟨rfl, rfl⟩
    go_wp2
    go_ret
    exact ⟨rfl, Below.refl _ _⟩
  have hv : decide (65536 < n0) = false := by simpa using hn
  go_enter Try.func3, Try.ntmps3
  go_wp2_with fail
  refine (l_vBig _ _ _ _).mono ?_
  rintro e _ ⟨rfl, rfl⟩
  rw [hv]
  clear hn hv
  go_wp2_with fail
  refine (s_DrawTreeFlows _ _ _ _ (H_code.out.below (by go_grown))).mono ?_
  rintro e w1 ⟨N, a, m, c, L, v1, a2, m2, c2, l2, rfl, hq, ho2, ⟨⟨hN0, hN1⟩, hm, hm2⟩, hb⟩
  have HB_1 := hid (bstep (by go_grown) hb : Below w.heap.size w w1)
  have B_1 := HB_1
  have S_1 := HB_1.out.size
  clear hb
  have O_L := hid hq
  clear hq
  have O_l2 := hid ho2
  clear ho2
  obtain ⟨R, B, hR⟩ : ∃ R B, treesR N L v1 l2 = (R, B) := ⟨_, _, rfl⟩
  have HR1 := hid hR
  clear hR
  go_wp2_with fail
  refine (i_TreeFlows N v1 _ _ _ _ _ _ L l2 _ ((OwnS.at qf_len O_L.out).below (by go_grown)) (O_l2.out.at.below (by go_grown)) (by omega) (by omega) R B HR1.out).mono ?_
  rintro e w2 ⟨a4, c4, rfl, ho4, hb⟩
  have HB_2 := hid (bstep (by go_grown) hb : Below w1.heap.size w1 w2)
  have B_2 := hid (bstep B_1.out HB_2.out)
  have S_2 := HB_2.out.size
  have T_2_1 : Hid (w2.heap[w1.heap.size]? = some (.cells #[.int .i64 N, .slice a m c] 26 (0, 0))) := hid (by rw [hb.block _ (by simp <;> omega)]; exact heap_alloc_new _ _)
  have m_2_1_0 : w2.cell? ⟨w1.heap.size, 0, none⟩ = some (.int .i64 N) := by rw [cell_of_row w2 _ _ _ _ (0, 0) T_2_1.out]; rfl
  have m_2_1_1 : w2.cell? ⟨w1.heap.size, 1, none⟩ = some (.slice a m c) := by rw [cell_of_row w2 _ _ _ _ (0, 0) T_2_1.out]; rfl
  have z_2_1 : w1.heap.size < w2.heap.size := (Array.getElem?_eq_some_iff.1 T_2_1.out).1
  clear hb
  have O_R4 := hid ho4
  clear ho4
  have O_L_2 := hid (O_L.out.below HB_2.out)
  have O_l2_2 := hid (O_l2.out.below HB_2.out)
  go_wp2_with fail
  refine (s_TreeFlows N v1 _ _ _ _ _ _ L l2 _ ((OwnS.at qf_len O_L_2.out).below (by go_grown)) (O_l2_2.out.at.below (by go_grown)) (by omega) (by omega) (q_cap O_L_2.out) R B HR1.out).mono ?_
  rintro e w3 ⟨a5, c5, rfl, ho5, hb⟩
  have HB_3 := hid (bstep (by go_grown) hb : Below w2.heap.size w2 w3)
  have B_3 := hid (bstep B_2.out HB_3.out)
  have S_3 := HB_3.out.size
  have T_3_1 := hid ((HB_3.out.block w1.heap.size (Array.getElem?_eq_some_iff.1 T_2_1.out).1).trans T_2_1.out)
  clear m_2_1_0 m_2_1_1 z_2_1
  have m_3_1_0 : w3.cell? ⟨w1.heap.size, 0, none⟩ = some (.int .i64 N) := by rw [cell_of_row w3 _ _ _ _ (0, 0) T_3_1.out]; rfl
  have m_3_1_1 : w3.cell? ⟨w1.heap.size, 1, none⟩ = some (.slice a m c) := by rw [cell_of_row w3 _ _ _ _ (0, 0) T_3_1.out]; rfl
  have z_3_1 : w1.heap.size < w3.heap.size := (Array.getElem?_eq_some_iff.1 T_3_1.out).1
  clear hb
  have O_R5 := hid ho5
  clear ho5
  have hlr : R.length ≤ 1048576 := by have := treesR_len HR1.out; omega
  have O_R4_3 := hid (O_R4.out.below HB_3.out)
  have O_L_3 := hid (O_L_2.out.below HB_3.out)
  have O_l2_3 := hid (O_l2_2.out.below HB_3.out)
  go_upto_region 6 with fail
  go_cut [65] (fun s65 wx => s65 = .bool false ∧ Hid (Below w3.heap.size w3 wx))
  case first => as_aux_lemma =>
    go_wp2_with fail
    refine (l_vInts_same _ _ _ _ _ R _ (O_R4_3.out.at.below (by go_grown)) (O_R5.out.at.below (by go_grown)) (by omega)).mono ?_
    rintro e w4 ⟨rfl, hb⟩
    have HB_4 := hid (bstep (by go_grown) hb : Below w3.heap.size w3 w4)
    have B_4 := hid (bstep B_3.out HB_4.out)
    have S_4 := HB_4.out.size
    have T_4_1 := hid ((HB_4.out.block w1.heap.size (Array.getElem?_eq_some_iff.1 T_3_1.out).1).trans T_3_1.out)
    clear m_3_1_0 m_3_1_1 z_3_1
    have m_4_1_0 : w4.cell? ⟨w1.heap.size, 0, none⟩ = some (.int .i64 N) := by rw [cell_of_row w4 _ _ _ _ (0, 0) T_4_1.out]; rfl
    have m_4_1_1 : w4.cell? ⟨w1.heap.size, 1, none⟩ = some (.slice a m c) := by rw [cell_of_row w4 _ _ _ _ (0, 0) T_4_1.out]; rfl
    have z_4_1 : w1.heap.size < w4.heap.size := (Array.getElem?_eq_some_iff.1 T_4_1.out).1
    clear hb
    go_wp2_with fail
    go_meet
    exact ⟨rfl, hid HB_4.out⟩
  case rest => as_aux_lemma =>
    obtain ⟨rfl, hcu⟩ := hcut
    obtain ⟨w4, hW4⟩ : ∃ W, W = wc := ⟨_, rfl⟩
    subst hW4
    have HB_4 := hcu
    have B_4 := hid (bstep B_3.out HB_4.out)
    have S_4 := HB_4.out.size
    have T_4_1 := hid ((HB_4.out.block w1.heap.size (Array.getElem?_eq_some_iff.1 T_3_1.out).1).trans T_3_1.out)
    clear m_3_1_0 m_3_1_1 z_3_1
    have m_4_1_0 : w4.cell? ⟨w1.heap.size, 0, none⟩ = some (.int .i64 N) := by rw [cell_of_row w4 _ _ _ _ (0, 0) T_4_1.out]; rfl
    have m_4_1_1 : w4.cell? ⟨w1.heap.size, 1, none⟩ = some (.slice a m c) := by rw [cell_of_row w4 _ _ _ _ (0, 0) T_4_1.out]; rfl
    have z_4_1 : w1.heap.size < w4.heap.size := (Array.getElem?_eq_some_iff.1 T_4_1.out).1
    clear hcu
    have O_R4_4 := hid (O_R4_3.out.below HB_4.out)
    have O_L_4 := hid (O_L_3.out.below HB_4.out)
    have O_l2_4 := hid (O_l2_3.out.below HB_4.out)
    go_upto_if 66 with (fail)
    go_cut [] (fun wx => Hid (Below w4.heap.size w4 wx))
    case first => as_aux_lemma =>
      cases B
      · go_wp2_with fail
        go_meet
        exact hid (Below.refl _ _)
      · obtain ⟨h1, h2, h3, hfl, hgd, hds, hall⟩ := trees_yes HR1.out
        have H1 := hid h1
        have H2 := hid h2
        have H3 := hid h3
        have HALL := hid hall
        have HDS := hid hds.2
        have hN8 := (goodNet_get hgd).1
        have hm10 : m ≤ 10 := by have := (goodNet_get hgd).2.1; have := OwnS.len O_L_4.out; omega
        have hRm : R.length = m := by have := OwnS.len O_L_4.out; omega
        have hlL := OwnS.len O_L_4.out
        have hll2 := O_l2_4.out.len
        have hm2N : (m2 : Int) = N := by omega
        have HRM := hid hRm
        have HLL := hid hlL
        have HLD := hid hll2
        have hsb := sum_fit (B := 1000) (by omega) hds.2
        obtain ⟨Q, hQ⟩ : ∃ Q, l2.sum = Q := ⟨_, rfl⟩
        rw [hQ] at H2 HALL hsb
        clear hQ
        clear h1 h2 h3 hall hfl hds hgd hRm hlL hll2
        go_wp2_with fail
        refine (i_IsBalanced N v1 _ _ _ _ _ _ _ _ _ L l2 R _ ((OwnS.at qf_len O_L_4.out).below (by go_grown)) (O_l2_4.out.at.below (by go_grown)) (O_R4_4.out.at.below (by go_grown)) (by omega) (by omega) (by omega) true true H1.out).mono ?_
        rintro e w5 ⟨rfl, hb⟩
        have HB_5 := hid (bstep (by go_grown) hb : Below w4.heap.size w4 w5)
        have B_5 := hid (bstep B_4.out HB_5.out)
        have S_5 := HB_5.out.size
        have T_5_1 := hid ((HB_5.out.block w1.heap.size (Array.getElem?_eq_some_iff.1 T_4_1.out).1).trans T_4_1.out)
        clear m_4_1_0 m_4_1_1 z_4_1
        have m_5_1_0 : w5.cell? ⟨w1.heap.size, 0, none⟩ = some (.int .i64 N) := by rw [cell_of_row w5 _ _ _ _ (0, 0) T_5_1.out]; rfl
        have m_5_1_1 : w5.cell? ⟨w1.heap.size, 1, none⟩ = some (.slice a m c) := by rw [cell_of_row w5 _ _ _ _ (0, 0) T_5_1.out]; rfl
        have z_5_1 : w1.heap.size < w5.heap.size := (Array.getElem?_eq_some_iff.1 T_5_1.out).1
        clear hb
        have O_L_5 := hid (O_L_4.out.below HB_5.out)
        have O_l2_5 := hid (O_l2_4.out.below HB_5.out)
        go_wp2_with fail
        refine (i_SupplyOf N _ _ _ _ _ _ L l2 _ ((OwnS.at qf_len O_L_5.out).below (by go_grown)) (O_l2_5.out.at.below (by go_grown)) (by omega) (by omega) Q true H2.out).mono ?_
        rintro e w6 ⟨rfl, hb⟩
        have HB_6 := hid (bstep (by go_grown) hb : Below w5.heap.size w5 w6)
        have B_6 := hid (bstep B_5.out HB_6.out)
        have S_6 := HB_6.out.size
        have T_6_1 := hid ((HB_6.out.block w1.heap.size (Array.getElem?_eq_some_iff.1 T_5_1.out).1).trans T_5_1.out)
        clear m_5_1_0 m_5_1_1 z_5_1
        have m_6_1_0 : w6.cell? ⟨w1.heap.size, 0, none⟩ = some (.int .i64 N) := by rw [cell_of_row w6 _ _ _ _ (0, 0) T_6_1.out]; rfl
        have m_6_1_1 : w6.cell? ⟨w1.heap.size, 1, none⟩ = some (.slice a m c) := by rw [cell_of_row w6 _ _ _ _ (0, 0) T_6_1.out]; rfl
        have z_6_1 : w1.heap.size < w6.heap.size := (Array.getElem?_eq_some_iff.1 T_6_1.out).1
        clear hb
        have O_L_6 := hid (O_L_5.out.below HB_6.out)
        go_wp2_with fail
        refine (i_IsTreeNetwork N _ _ _ L _ ((OwnS.at qf_len O_L_6.out).below (by go_grown)) (by omega) true true H3.out).mono ?_
        rintro e w7 ⟨rfl, hb⟩
        have HB_7 := hid (bstep (by go_grown) hb : Below w6.heap.size w6 w7)
        have B_7 := hid (bstep B_6.out HB_7.out)
        have S_7 := HB_7.out.size
        have T_7_1 := hid ((HB_7.out.block w1.heap.size (Array.getElem?_eq_some_iff.1 T_6_1.out).1).trans T_6_1.out)
        clear m_6_1_0 m_6_1_1 z_6_1
        have m_7_1_0 : w7.cell? ⟨w1.heap.size, 0, none⟩ = some (.int .i64 N) := by rw [cell_of_row w7 _ _ _ _ (0, 0) T_7_1.out]; rfl
        have m_7_1_1 : w7.cell? ⟨w1.heap.size, 1, none⟩ = some (.slice a m c) := by rw [cell_of_row w7 _ _ _ _ (0, 0) T_7_1.out]; rfl
        have z_7_1 : w1.heap.size < w7.heap.size := (Array.getElem?_eq_some_iff.1 T_7_1.out).1
        clear hb
        have O_R4_7 := hid (((O_R4_4.out.below HB_5.out).below HB_6.out).below HB_7.out)
        have O_L_7 := hid (O_L_6.out.below HB_7.out)
        have O_l2_7 := hid ((O_l2_5.out.below HB_6.out).below HB_7.out)
        go_wp2
        go_loopg [16] m (fun g i wr => ∃ k : Nat, k ≤ m ∧ g = m - k ∧ i = .int .i64 k ∧ Hid (Below w7.heap.size w7 wr))
        case atStart => exact ⟨0, Nat.zero_le _, rfl, rfl, hid (Below.refl _ _)⟩
        case round =>
          obtain ⟨k, hk, rfl, rfl, hh⟩ := hrel
          obtain ⟨w8, hW8⟩ : ∃ W, W = wr := ⟨_, rfl⟩
          subst hW8
          have HB_8 := hh
          have B_8 := hid (bstep B_7.out HB_8.out)
          have S_8 := HB_8.out.size
          have T_8_1 := hid ((HB_8.out.block w1.heap.size (Array.getElem?_eq_some_iff.1 T_7_1.out).1).trans T_7_1.out)
          clear m_7_1_0 m_7_1_1 z_7_1
          have m_8_1_0 : w8.cell? ⟨w1.heap.size, 0, none⟩ = some (.int .i64 N) := by rw [cell_of_row w8 _ _ _ _ (0, 0) T_8_1.out]; rfl
          have m_8_1_1 : w8.cell? ⟨w1.heap.size, 1, none⟩ = some (.slice a m c) := by rw [cell_of_row w8 _ _ _ _ (0, 0) T_8_1.out]; rfl
          have z_8_1 : w1.heap.size < w8.heap.size := (Array.getElem?_eq_some_iff.1 T_8_1.out).1
          have O_L_8 := hid (O_L_7.out.below HB_8.out)
          have O_R4_8 := hid (O_R4_7.out.below HB_8.out)
          have O_l2_8 := hid (O_l2_7.out.below HB_8.out)
          by_cases hlt9 : k < m
          · have hlti : (k : Int) < (m : Int) := by omega
            have hki : (0 : Int) ≤ (k : Int) := by omega
            obtain ⟨D, hd1, hd2, hd3, hd4, hd5, hd6, hd7⟩ := HALL.out k (by have := HLL.out; omega)
            obtain ⟨gb, go, e0, hgb, x0, x1, x2, x3⟩ := QAt.get (OwnS.at qf_len O_L_8.out) k hlt9
            subst e0
            obtain ⟨P0, hP0⟩ : ∃ P, (pp L k).1 = P := ⟨_, rfl⟩
            obtain ⟨P1, hP1⟩ : ∃ P, (pp L k).2.1 = P := ⟨_, rfl⟩
            rw [hP0] at hd1 x0
            rw [hP1] at hd6 hd7 x1
            have HD1 := hid hd1
            have HD2 := hid hd2
            have HD4 := hid hd4
            have HD6 := hid hd6
            have HD7 := hid hd7
            have HX1 := hid x1
            have HRd := hid (show -8000 ≤ R[k]?.getD 0 ∧ R[k]?.getD 0 ≤ 8000 from hd5)
            clear hd1 hd2 hd4 hd5 hd6 hd7 hP0 hP1 x1 x2 x3
            go_upto_region 17 with fail
            refine wp_region_noPanic ?_
            refine wp_region_held_drew (S := (fun w' => w'.cell? ⟨w1.heap.size, 0, none⟩ = some (.int .i64 N) ∧ w'.cell? ⟨w1.heap.size, 1, none⟩ = some (.slice (some ⟨gb, go, none⟩) m c) ∧ w'.cell? ⟨gb, go + k * 4, none⟩ = some (.int .i64 P0))) (by kernel_rfl) (by exact ⟨m_8_1_0, m_8_1_1, x0⟩) (fun hHeld => ?_)
            refine wpAnyH_take' (i := 0) (v := ?_) rfl (by kernel_rfl) (by kernel_rfl) (by kernel_rfl) (fun _ _ _ h => h) (Or.inl ⟨by rfl, ?_⟩) (by assumption) ?_
            rotate_left
            · (intro w' hSw; (try dsimp only at hSw); go_simp; all_goals with_reducible rfl)
            try simp only [Act.put, List.setIfInBounds_toArray, List.set_cons_zero, List.set_cons_succ]
            refine wpAnyH_take' (i := 1) (v := ?_) rfl (by kernel_rfl) (by kernel_rfl) (by kernel_rfl) (fun _ _ _ h => h) (Or.inl ⟨by rfl, ?_⟩) (by assumption) ?_
            rotate_left
            · (intro w' hSw; (try dsimp only at hSw); go_simp; all_goals with_reducible rfl)
            try simp only [Act.put, List.setIfInBounds_toArray, List.set_cons_zero, List.set_cons_succ]
            refine wpAnyH_take' (i := 2) (v := ?_) rfl (by kernel_rfl) (by kernel_rfl) (by kernel_rfl) (fun _ _ _ h => h) (Or.inl ⟨by rfl, ?_⟩) (by assumption) ?_
            rotate_left
            · (intro w' hSw; (try dsimp only at hSw); go_simp; all_goals with_reducible rfl)
            try simp only [Act.put, List.setIfInBounds_toArray, List.set_cons_zero, List.set_cons_succ]
            refine wpAnyH_take' (i := 3) (v := ?_) rfl (by kernel_rfl) (by kernel_rfl) (by kernel_rfl) (fun _ _ _ h => h) (Or.inl ⟨by rfl, ?_⟩) (by assumption) ?_
            rotate_left
            · (intro w' hSw; (try dsimp only at hSw); go_simp; all_goals with_reducible rfl)
            try simp only [Act.put, List.setIfInBounds_toArray, List.set_cons_zero, List.set_cons_succ]
            refine wpAnyH_take' (i := 4) (v := ?_) rfl (by kernel_rfl) (by kernel_rfl) (by kernel_rfl) (fun _ _ _ h => h) (Or.inl ⟨by rfl, ?_⟩) (by assumption) ?_
            rotate_left
            · (intro w' hSw; (try dsimp only at hSw); go_simp; all_goals with_reducible rfl)
            try simp only [Act.put, List.setIfInBounds_toArray, List.set_cons_zero, List.set_cons_succ]
            refine wpAnyH_take' (i := 5) (v := ?_) rfl (by kernel_rfl) (by kernel_rfl) (by kernel_rfl) (fun _ _ _ h => h) (Or.inl ⟨by rfl, ?_⟩) (by assumption) ?_
            rotate_left
            · (intro w' hSw; (try dsimp only at hSw); go_simp; all_goals with_reducible rfl)
            try simp only [Act.put, List.setIfInBounds_toArray, List.set_cons_zero, List.set_cons_succ]
            refine wpAnyH_take' (i := 6) (v := ?_) rfl (by kernel_rfl) (by kernel_rfl) (by kernel_rfl) (fun _ _ _ h => h) (Or.inl ⟨by rfl, ?_⟩) (by assumption) ?_
            rotate_left
            · (intro w' hSw; (try dsimp only at hSw); go_simp; all_goals with_reducible rfl)
            try simp only [Act.put, List.setIfInBounds_toArray, List.set_cons_zero, List.set_cons_succ]
            refine wpAnyH_take' (i := 7) (v := ?_) rfl (by kernel_rfl) (by kernel_rfl) (by kernel_rfl) (fun _ _ _ h => h) (Or.inl ⟨by rfl, ?_⟩) (by assumption) ?_
            rotate_left
            · (intro w' hSw; (try dsimp only at hSw); go_simp; all_goals with_reducible rfl)
            try simp only [Act.put, List.setIfInBounds_toArray, List.set_cons_zero, List.set_cons_succ]
            refine wpAnyH_ready (rs := [8]) (by kernel_rfl) (by simp) ?_
            refine allReadyH_cons' rfl (fun Kn hKn => ?_) AllReadyH.nil
            go_simp
            go_at_call 16
            refine (i_DownstreamNodes N v1 P0 _ _ _ L _ (OwnS.at qf_len (OwnS.below O_L_8.out (by go_grown))) (by omega) D true HD1.out).mono ?_
            rintro e w9 ⟨a7, c7, rfl, ho7, hb⟩
            have HB_9 := hid (bstep (by go_grown) hb : Below w8.heap.size w8 w9)
            have B_9 := hid (bstep B_8.out HB_9.out)
            have S_9 := HB_9.out.size
            clear hb
            have y0 := (HB_9.out.cell (World.block_lt_of_cell? _ _ m_8_1_0)).trans m_8_1_0
            have y1 := (HB_9.out.cell (World.block_lt_of_cell? _ _ m_8_1_1)).trans m_8_1_1
            have y2 := (HB_9.out.cell (World.block_lt_of_cell? _ _ x0)).trans x0
            refine hKn.out _ _ ⟨y0, y1, y2⟩ (fun hHeldN => ?_)
            clear hKn Kn hHeld
            have hHeld := hHeldN
            clear hHeldN
            try simp only [Act.put, List.setIfInBounds_toArray, List.set_cons_zero, List.set_cons_succ]
            refine wpAnyH_take' (i := 9) (v := ?_) rfl (by kernel_rfl) (by kernel_rfl) (by kernel_rfl) (fun _ _ _ h => h) (Or.inl ⟨by rfl, ?_⟩) (by assumption) ?_
            rotate_left
            · (intro w' hSw; (try dsimp only at hSw); go_simp; all_goals with_reducible rfl)
            try simp only [Act.put, List.setIfInBounds_toArray, List.set_cons_zero, List.set_cons_succ]
            refine wpAnyH_take' (i := 10) (v := ?_) rfl (by kernel_rfl) (by kernel_rfl) (by kernel_rfl) (fun _ _ _ h => h) (Or.inl ⟨by rfl, ?_⟩) (by assumption) ?_
            rotate_left
            · (intro w' hSw; (try dsimp only at hSw); go_simp; all_goals with_reducible rfl)
            try simp only [Act.put, List.setIfInBounds_toArray, List.set_cons_zero, List.set_cons_succ]
            refine wpAnyH_take' (i := 11) (v := ?_) rfl (by kernel_rfl) (by kernel_rfl) (by kernel_rfl) (fun _ _ _ h => h) (Or.inl ⟨by rfl, ?_⟩) (by assumption) ?_
            rotate_left
            · (intro w' hSw; (try dsimp only at hSw); go_simp; all_goals with_reducible rfl)
            try simp only [Act.put, List.setIfInBounds_toArray, List.set_cons_zero, List.set_cons_succ]
            refine wpAnyH_take' (i := 12) (v := ?_) rfl (by kernel_rfl) (by kernel_rfl) (by kernel_rfl) (fun _ _ _ h => h) (Or.inl ⟨by rfl, ?_⟩) (by assumption) ?_
            rotate_left
            · (intro w' hSw; (try dsimp only at hSw); go_simp; all_goals with_reducible rfl)
            try simp only [Act.put, List.setIfInBounds_toArray, List.set_cons_zero, List.set_cons_succ]
            refine wpAnyH_take' (i := 13) (v := ?_) rfl (by kernel_rfl) (by kernel_rfl) (by kernel_rfl) (fun _ _ _ h => h) (Or.inl ⟨by rfl, ?_⟩) (by assumption) ?_
            rotate_left
            · (intro w' hSw; (try dsimp only at hSw); go_simp; all_goals with_reducible rfl)
            try simp only [Act.put, List.setIfInBounds_toArray, List.set_cons_zero, List.set_cons_succ]
            refine wpAnyH_done (by kernel_rfl) ?_ _
            refine NoPanic.normal ?_
            clear hHeld
            clear y0 y1 y2
            have T_9_1 := hid ((HB_9.out.block w1.heap.size (Array.getElem?_eq_some_iff.1 T_8_1.out).1).trans T_8_1.out)
            clear m_8_1_0 m_8_1_1 z_8_1
            have m_9_1_0 : w9.cell? ⟨w1.heap.size, 0, none⟩ = some (.int .i64 N) := by rw [cell_of_row w9 _ _ _ _ (0, 0) T_9_1.out]; rfl
            have m_9_1_1 : w9.cell? ⟨w1.heap.size, 1, none⟩ = some (.slice (some ⟨gb, go, none⟩) m c) := by rw [cell_of_row w9 _ _ _ _ (0, 0) T_9_1.out]; rfl
            have z_9_1 : w1.heap.size < w9.heap.size := (Array.getElem?_eq_some_iff.1 T_9_1.out).1
            have O_D := hid ho7
            clear ho7
            clear x0
            have O_R4_9 := hid (O_R4_8.out.below HB_9.out)
            have O_L_9 := hid (O_L_8.out.below HB_9.out)
            have O_l2_9 := hid (O_l2_8.out.below HB_9.out)
            go_wp2
            go_loopg [19, 20] D.length (fun g s i wr => ∃ j : Nat, j ≤ D.length ∧ g = D.length - j ∧ s = .int .i64 (psum l2 D j) ∧ i = .int .i64 j ∧ w9 = wr)
            case atStart => exact ⟨0, Nat.zero_le _, rfl, by rw [psum_zero], rfl, rfl⟩
            case round =>
              obtain ⟨j, hj, rfl, rfl, rfl, rfl⟩ := hrel
              have hp := psum_fit (D := D) HDS.out j hj
              by_cases hlt8 : j < D.length
              · have hjl : (j : Int) < (D.length : Int) := by omega
                obtain ⟨g7, rfl, -, hg7⟩ := own_some O_D.out (by omega)
                have hc7 := O_D.out.cell (k := j) hlt8
                have hdj := HD2.out j hlt8
                obtain ⟨E, hE⟩ : ∃ E, D[j]?.getD 0 = E := ⟨_, rfl⟩
                have hps := psum_succ (ds := l2) hlt8
                rw [hE] at hc7 hdj hps
                obtain ⟨t, ht⟩ : ∃ t : Nat, t = E.toNat - 1 := ⟨_, rfl⟩
                have ht2 : t < m2 := by omega
                have ht3 : (t : Int) < (m2 : Int) := by omega
                have ht4 : (0 : Int) ≤ (t : Int) := by omega
                have hwt : IntKind.i64.wrap (E - 1) = (t : Int) := by rw [IntWalk.i64_in _ (by omega)]; omega
                rw [← ht] at hps
                obtain ⟨g2, rfl, -, hg2⟩ := own_some O_l2_9.out (by omega)
                have hc2 := O_l2_9.out.cell (k := t) ht2
                have hb2 := HDS.out _ (getD_mem' (l := l2) (k := t) (by have := HLD.out; omega))
                have hws : IntKind.i64.wrap (psum l2 D j + l2[t]?.getD 0) = psum l2 D (j + 1) := by rw [IntWalk.i64_in _ (by omega), hps]
                have hwj : IntKind.i64.wrap ((j : Int) + 1) = ((j + 1 : Nat) : Int) := by rw [IntWalk.i64_in _ (by omega)]; omega
                clear hE ht hps hdj hb2
                go_wp2
                go_roundg (D.length - (j + 1))
                case rel => exact ⟨j + 1, by omega, rfl, rfl, rfl, rfl⟩
                case measure => omega
              · obtain rfl : j = D.length := by omega
                have x1 := (HB_9.out.cell (World.block_lt_of_cell? _ _ HX1.out)).trans HX1.out
                obtain ⟨g4, rfl, -, hg4⟩ := own_some O_R4_9.out (by have := HRM.out; omega)
                have hcr := O_R4_9.out.cell (k := k) (by have := HRM.out; omega)
                have hkR : (k : Int) < (R.length : Int) := by have := HRM.out; omega
                have hq4 := HD4.out
                obtain ⟨F, hF⟩ : ∃ F, psum l2 D D.length = F := ⟨_, rfl⟩
                rw [hF] at hp hq4 HD6 HD7 ⊢
                have hFQ : ¬ Q < F := by omega
                have hwk : IntKind.i64.wrap ((k : Int) + 1) = ((k + 1 : Nat) : Int) := by rw [IntWalk.i64_in _ (by omega)]; omega
                have hrd := HRd.out
                have hwn := IntWalk.i64_in (-(R[k]?.getD 0)) (by omega)
                clear hF
                go_wp2_with fail
                by_cases hin : P1 ∈ D
                · have HIN := hid (show decide (P1 ∈ D) = true by simpa using hin)
                  have hrf := HD6.out hin
                  clear hin
                  refine (l_vHas_is _ _ _ P1 D _ O_D.out.at (by omega) true HIN.out).mono ?_
                  rintro e _ ⟨rfl, rfl⟩
                  rw [hrf] at hwn
                  have hwn2 : IntKind.i64.wrap (-(R[k]?.getD 0)) = F := by rw [hrf]; exact hwn
                  clear hwn hrf hrd
                  go_wp2
                  go_roundg (m - (k + 1))
                  case rel => exact ⟨k + 1, by omega, rfl, rfl, hid (bstep hh.out HB_9.out)⟩
                  case measure => omega
                · have HIN := hid (show decide (P1 ∈ D) = false by simpa using hin)
                  have hrf := HD7.out hin
                  clear hin
                  refine (l_vHas_is _ _ _ P1 D _ O_D.out.at (by omega) false HIN.out).mono ?_
                  rintro e _ ⟨rfl, rfl⟩
                  have hne : (R[k]?.getD 0 != F) = false := by simp [hrf]
                  have hle : ¬ Q < R[k]?.getD 0 := by omega
                  clear hwn hrf hrd
                  go_wp2
                  go_roundg (m - (k + 1))
                  case rel => exact ⟨k + 1, by omega, rfl, rfl, hid (bstep hh.out HB_9.out)⟩
                  case measure => omega
          · obtain rfl : m = k := by omega
            go_wp2_with fail
            go_meet
            exact hid (bstep (bstep (bstep HB_5.out HB_6.out) HB_7.out) hh.out)
    case rest => as_aux_lemma =>
      obtain ⟨w5, hW5⟩ : ∃ W, W = wc := ⟨_, rfl⟩
      subst hW5
      have HB_5 := hcut
      have B_5 := hid (bstep B_4.out HB_5.out)
      have S_5 := HB_5.out.size
      have T_5_1 := hid ((HB_5.out.block w1.heap.size (Array.getElem?_eq_some_iff.1 T_4_1.out).1).trans T_4_1.out)
      clear m_4_1_0 m_4_1_1 z_4_1
      have m_5_1_0 : w5.cell? ⟨w1.heap.size, 0, none⟩ = some (.int .i64 N) := by rw [cell_of_row w5 _ _ _ _ (0, 0) T_5_1.out]; rfl
      have m_5_1_1 : w5.cell? ⟨w1.heap.size, 1, none⟩ = some (.slice a m c) := by rw [cell_of_row w5 _ _ _ _ (0, 0) T_5_1.out]; rfl
      have z_5_1 : w1.heap.size < w5.heap.size := (Array.getElem?_eq_some_iff.1 T_5_1.out).1
      go_wp2_with fail
      refine (s_DrawIsBalanced _ _ _ _ ((H_code.out.below B_5.out).below (by go_grown))).mono ?_
      rintro e w6 ⟨N6, a6, m6, c6, L6, v7, a8, m8, c8, l8, a9, m9, c9, l9, rfl, hq, ho8, ho9, ⟨⟨hN6, hN7⟩, hm6, hm8, hm9⟩, hb⟩
      have HB_6 := hid (bstep (by go_grown) hb : Below w5.heap.size w5 w6)
      have B_6 := hid (bstep B_5.out HB_6.out)
      have S_6 := HB_6.out.size
      have T_6_1 := hid ((HB_6.out.block w1.heap.size (Array.getElem?_eq_some_iff.1 T_5_1.out).1).trans T_5_1.out)
      clear m_5_1_0 m_5_1_1 z_5_1
      clear hb
      have O_L6 := hid hq
      clear hq
      have O_l8 := hid ho8
      clear ho8
      have O_l9 := hid ho9
      clear ho9
      obtain ⟨Y, B2, hR⟩ : ∃ Y B2, balR N6 L6 v7 l8 l9 = (Y, B2) := ⟨_, _, rfl⟩
      have HR2 := hid hR
      clear hR
      go_wp2_with fail
      refine (i_IsBalanced N6 v7 _ _ _ _ _ _ _ _ _ L6 l8 l9 _ ((OwnS.at qf_len O_L6.out).below (by go_grown)) (O_l8.out.at.below (by go_grown)) (O_l9.out.at.below (by go_grown)) (by omega) (by omega) (by omega) Y B2 HR2.out).mono ?_
      rintro e w7 ⟨rfl, hb⟩
      have HB_7 := hid (bstep (by go_grown) hb : Below w6.heap.size w6 w7)
      have B_7 := hid (bstep B_6.out HB_7.out)
      have S_7 := HB_7.out.size
      have T_7_1 := hid ((HB_7.out.block w1.heap.size (Array.getElem?_eq_some_iff.1 T_6_1.out).1).trans T_6_1.out)
      have T_7_2 : Hid (w7.heap[w6.heap.size]? = some (.cells #[.int .i64 N6, .slice a6 m6 c6] 26 (0, 0))) := hid (by rw [hb.block _ (by simp <;> omega)]; exact heap_alloc_new _ _)
      have m_7_2_0 : w7.cell? ⟨w6.heap.size, 0, none⟩ = some (.int .i64 N6) := by rw [cell_of_row w7 _ _ _ _ (0, 0) T_7_2.out]; rfl
      have m_7_2_1 : w7.cell? ⟨w6.heap.size, 1, none⟩ = some (.slice a6 m6 c6) := by rw [cell_of_row w7 _ _ _ _ (0, 0) T_7_2.out]; rfl
      have z_7_2 : w6.heap.size < w7.heap.size := (Array.getElem?_eq_some_iff.1 T_7_2.out).1
      clear hb
      have O_L6_7 := hid (O_L6.out.below HB_7.out)
      have O_l8_7 := hid (O_l8.out.below HB_7.out)
      have O_l9_7 := hid (O_l9.out.below HB_7.out)
      go_wp2_with fail
      refine (s_IsBalanced N6 v7 _ _ _ _ _ _ _ _ _ L6 l8 l9 _ ((OwnS.at qf_len O_L6_7.out).below (by go_grown)) (O_l8_7.out.at.below (by go_grown)) (O_l9_7.out.at.below (by go_grown)) (by omega) (by omega) (by omega) Y B2 HR2.out).mono ?_
      rintro e w8 ⟨rfl, hb⟩
      have HB_8 := hid (bstep (by go_grown) hb : Below w7.heap.size w7 w8)
      have B_8 := hid (bstep B_7.out HB_8.out)
      have S_8 := HB_8.out.size
      have T_8_1 := hid ((HB_8.out.block w1.heap.size (Array.getElem?_eq_some_iff.1 T_7_1.out).1).trans T_7_1.out)
      have T_8_2 := hid ((HB_8.out.block w6.heap.size (Array.getElem?_eq_some_iff.1 T_7_2.out).1).trans T_7_2.out)
      clear m_7_2_0 m_7_2_1 z_7_2
      have m_8_2_0 : w8.cell? ⟨w6.heap.size, 0, none⟩ = some (.int .i64 N6) := by rw [cell_of_row w8 _ _ _ _ (0, 0) T_8_2.out]; rfl
      have m_8_2_1 : w8.cell? ⟨w6.heap.size, 1, none⟩ = some (.slice a6 m6 c6) := by rw [cell_of_row w8 _ _ _ _ (0, 0) T_8_2.out]; rfl
      have z_8_2 : w6.heap.size < w8.heap.size := (Array.getElem?_eq_some_iff.1 T_8_2.out).1
      clear hb
      go_upto_region 31 with fail
      go_cut [195] (fun s195 wx => s195 = .bool false ∧ Hid (Below w8.heap.size w8 wx))
      case first => as_aux_lemma =>
        go_wp2_with fail
        go_meet
        exact ⟨rfl, hid (Below.refl _ _)⟩
      case rest => as_aux_lemma =>
        obtain ⟨rfl, hcu⟩ := hcut
        obtain ⟨w9, hW9⟩ : ∃ W, W = wc := ⟨_, rfl⟩
        subst hW9
        have HB_9 := hcu
        have B_9 := hid (bstep B_8.out HB_9.out)
        have S_9 := HB_9.out.size
        have T_9_1 := hid ((HB_9.out.block w1.heap.size (Array.getElem?_eq_some_iff.1 T_8_1.out).1).trans T_8_1.out)
        have T_9_2 := hid ((HB_9.out.block w6.heap.size (Array.getElem?_eq_some_iff.1 T_8_2.out).1).trans T_8_2.out)
        clear m_8_2_0 m_8_2_1 z_8_2
        have m_9_2_0 : w9.cell? ⟨w6.heap.size, 0, none⟩ = some (.int .i64 N6) := by rw [cell_of_row w9 _ _ _ _ (0, 0) T_9_2.out]; rfl
        have m_9_2_1 : w9.cell? ⟨w6.heap.size, 1, none⟩ = some (.slice a6 m6 c6) := by rw [cell_of_row w9 _ _ _ _ (0, 0) T_9_2.out]; rfl
        have z_9_2 : w6.heap.size < w9.heap.size := (Array.getElem?_eq_some_iff.1 T_9_2.out).1
        clear hcu
        have O_L6_9 := hid ((O_L6_7.out.below HB_8.out).below HB_9.out)
        have O_l8_9 := hid ((O_l8_7.out.below HB_8.out).below HB_9.out)
        have O_l9_9 := hid ((O_l9_7.out.below HB_8.out).below HB_9.out)
        cases B2
        · go_wp2
          go_loopg [30, 31, 32] 0 (fun g s b i wr => s = .int .i64 0 ∧ b = .bool true ∧ i = .int .i64 1 ∧ w9 = wr)
          case atStart => exact ⟨rfl, rfl, rfl, rfl⟩
          case round =>
            obtain ⟨rfl, rfl, rfl, rfl⟩ := hrel
            go_wp2
            all_goals go_ret
            all_goals exact ⟨rfl, B_9.out⟩
        · obtain ⟨hNb, hby, hsm, hall⟩ := bal_parts HR2.out
          obtain ⟨M, rfl⟩ : ∃ M : Nat, N6 = M := ⟨N6.toNat, by omega⟩
          rw [Int.toNat_natCast] at hby hsm hall
          have HBY := hid hby
          have HSM := hid hsm
          have HALL := hid hall
          clear hby hsm hall
          go_wp2
          go_loopg [30, 31, 32] M (fun g s b i wr => ∃ k : Nat, k ≤ M ∧ g = M - k ∧ s = .int .i64 (sm (fun i => imb L6 l8 l9 v7 ((i : Int) + 1)) k) ∧ b = .bool (bal L6 l8 l9 v7 k) ∧ i = .int .i64 ((k : Int) + 1) ∧ Hid (Below w9.heap.size w9 wr))
          case atStart => exact ⟨0, Nat.zero_le _, rfl, rfl, rfl, rfl, hid (Below.refl _ _)⟩
          case round =>
            obtain ⟨k, hk, rfl, rfl, rfl, rfl, hh⟩ := hrel
            obtain ⟨w10, hW10⟩ : ∃ W, W = wr := ⟨_, rfl⟩
            subst hW10
            have HB_10 := hh
            have B_10 := hid (bstep B_9.out HB_10.out)
            have S_10 := HB_10.out.size
            have T_10_1 := hid ((HB_10.out.block w1.heap.size (Array.getElem?_eq_some_iff.1 T_9_1.out).1).trans T_9_1.out)
            have T_10_2 := hid ((HB_10.out.block w6.heap.size (Array.getElem?_eq_some_iff.1 T_9_2.out).1).trans T_9_2.out)
            clear m_9_2_0 m_9_2_1 z_9_2
            have m_10_2_0 : w10.cell? ⟨w6.heap.size, 0, none⟩ = some (.int .i64 M) := by rw [cell_of_row w10 _ _ _ _ (0, 0) T_10_2.out]; rfl
            have m_10_2_1 : w10.cell? ⟨w6.heap.size, 1, none⟩ = some (.slice a6 m6 c6) := by rw [cell_of_row w10 _ _ _ _ (0, 0) T_10_2.out]; rfl
            have z_10_2 : w6.heap.size < w10.heap.size := (Array.getElem?_eq_some_iff.1 T_10_2.out).1
            have O_L6_10 := hid (O_L6_9.out.below HB_10.out)
            have O_l8_10 := hid (O_l8_9.out.below HB_10.out)
            have O_l9_10 := hid (O_l9_9.out.below HB_10.out)
            by_cases hlt9 : k < M
            · have hle9 : (k : Int) + 1 ≤ (M : Int) := by omega
              obtain ⟨hi1, hi2⟩ := HALL.out k hlt9
              have hf := sm_fit (f := fun i : Nat => imb L6 l8 l9 v7 ((i : Int) + 1)) (n := M) (fun k hk => (HALL.out k hk).2) k hk
              obtain ⟨I, hI⟩ : ∃ I, imb L6 l8 l9 v7 ((k : Int) + 1) = I := ⟨_, rfl⟩
              have HS1 := hid (show sm (fun i => imb L6 l8 l9 v7 ((i : Int) + 1)) (k + 1) = sm (fun i => imb L6 l8 l9 v7 ((i : Int) + 1)) k + I by simp only [sm]; rw [hI])
              have HB1 := hid (show bal L6 l8 l9 v7 (k + 1) = (bal L6 l8 l9 v7 k && decide (I = 0)) by rw [bal_succ, hI])
              rw [hI] at hi1 hi2
              have HI1 := hid hi1
              obtain ⟨T, hT⟩ : ∃ T, sm (fun i => imb L6 l8 l9 v7 ((i : Int) + 1)) k = T := ⟨_, rfl⟩
              obtain ⟨V, hV⟩ : ∃ V, bal L6 l8 l9 v7 k = V := ⟨_, rfl⟩
              rw [hT] at HS1 hf ⊢
              rw [hV] at HB1 ⊢
              have hwt := IntWalk.i64_in (T + I) (by omega)
              have hwk : IntKind.i64.wrap ((k : Int) + 1 + 1) = ((k + 1 : Nat) : Int) + 1 := by rw [IntWalk.i64_in _ (by omega)]; omega
              clear hi1 hI hT hV
              go_wp2_with fail
              refine (i_ImbalanceAt M v7 ((k : Int) + 1) _ _ _ _ _ _ _ _ _ L6 l8 l9 _ ((OwnS.at qf_len O_L6_10.out).below (by go_grown)) (O_l8_10.out.at.below (by go_grown)) (O_l9_10.out.at.below (by go_grown)) (by omega) (by omega) (by omega) I true HI1.out).mono ?_
              rintro e w11 ⟨rfl, hb⟩
              have HB_11 := hid (bstep (by go_grown) hb : Below w10.heap.size w10 w11)
              have B_11 := hid (bstep B_10.out HB_11.out)
              have S_11 := HB_11.out.size
              have T_11_1 := hid ((HB_11.out.block w1.heap.size (Array.getElem?_eq_some_iff.1 T_10_1.out).1).trans T_10_1.out)
              have T_11_2 := hid ((HB_11.out.block w6.heap.size (Array.getElem?_eq_some_iff.1 T_10_2.out).1).trans T_10_2.out)
              clear m_10_2_0 m_10_2_1 z_10_2
              have m_11_2_0 : w11.cell? ⟨w6.heap.size, 0, none⟩ = some (.int .i64 M) := by rw [cell_of_row w11 _ _ _ _ (0, 0) T_11_2.out]; rfl
              have m_11_2_1 : w11.cell? ⟨w6.heap.size, 1, none⟩ = some (.slice a6 m6 c6) := by rw [cell_of_row w11 _ _ _ _ (0, 0) T_11_2.out]; rfl
              have z_11_2 : w6.heap.size < w11.heap.size := (Array.getElem?_eq_some_iff.1 T_11_2.out).1
              clear hb
              cases V
              · go_wp2
                go_roundg (M - (k + 1))
                case rel => exact ⟨k + 1, by omega, rfl, by rw [HS1.out], by rw [HB1.out]; rfl, rfl, hid (bstep hh.out HB_11.out)⟩
                case measure => omega
              · by_cases hz : I = 0
                · have hzb : (I == 0) = true := by simpa using hz
                  have HZ := hid hz
                  clear hz
                  go_wp2
                  go_roundg (M - (k + 1))
                  case rel => exact ⟨k + 1, by omega, rfl, by rw [HS1.out], by rw [HB1.out]; simp [HZ.out], rfl, hid (bstep hh.out HB_11.out)⟩
                  case measure => omega
                · have hzb : (I == 0) = false := by simpa using hz
                  have HZ := hid hz
                  clear hz
                  go_wp2
                  go_roundg (M - (k + 1))
                  case rel => exact ⟨k + 1, by omega, rfl, by rw [HS1.out], by rw [HB1.out]; simp [HZ.out], rfl, hid (bstep hh.out HB_11.out)⟩
                  case measure => omega
            · obtain rfl : M = k := by omega
              rw [HSM.out, HBY.out]
              go_wp2
              go_ret
              exact ⟨rfl, bstep B_9.out hh.out⟩

set_option maxRecDepth 100000 in
theorem fnTreeFlows_lifted (os : Os) (started : os.Started) (H : Type) (enc : TypeId × Value → H) :
    ReturnsInHanded {} Try.checked os 3 .any (Rows.fnTreeFlowsSpec.pre6 enc Try.prog Try.f3 Rows.fnTreeFlowsRow.domain false) (Rows.fnTreeFlowsSpec.post enc Try.prog Try.f3 false true false false) := by
  refine returnsInHanded_of_change (C := Try.checked) Try.own started (by kernel_rfl) Try.func3
    (ChangeSpec.witness6 (enc := enc) (C := Try.checked) false ⟨#[], #[.slice none 0 0], []⟩ 8 (by kernel_rfl) (by kernel_rfl) (by kernel_rfl) (by kernel_rfl)) ?_
  intro W base args ds gs before hval0 hW _ _
  have hval : ∀ (j : Nat) t v, Try.f3.params[j]? = some t → args[j]? = some v → Value.okWide Try.prog W .any base t v := hval0
  have hW' : DataW.Whole enc Try.prog Try.f3.params.toList Rows.fnTreeFlowsSpec.vars false W args.toList ds gs before := hW
  obtain ⟨p, q, hA0, hV, rfl, hfz, hnd⟩ := hW
  have hlt : ∀ x ∈ p, x.block < W.heap.size := fun x hx => hW'.lt x (by simp [hx])
  have hA : DataW.TrodAll enc Try.prog W 0 (fun _ => true) true Try.f3.params.toList args.toList ds p := hA0
  rw [Try.params3] at hA hval
  clear hA0 hval0
  obtain ⟨v0, d0, rfl, rfl, h0⟩ := trodAll_one hA
  obtain ⟨rfl, rfl⟩ := trodVars_none hV
  obtain ⟨x0, n0, k0, rfl, g0⟩ := open_bytes (hval 0 22 v0 rfl rfl) h0
  refine (law_FnTreeFlows x0 n0 k0 W g0).mono fun e W' ⟨he, hb⟩ => ?_
  subst he
  exact ⟨_, rfl, law_post rfl rfl (by kernel_rfl) hW' rfl rfl rfl hb⟩

theorem fnTreeFlows_proved : Rows.FnTreeFlowsSaid :=
  OpenClaim.holds_of_wide 3 Try.f3 rfl rfl rfl rfl rfl rfl rfl ⟨rfl, rfl, rfl, rfl, rfl⟩ rfl rfl rfl rfl rfl (by kernel_rfl) Try.func3 (by kernel_rfl)
    (of_decide_eq_true (by kernel_rfl)) (by unfold Func.isWrapper; first | (rw [if_pos (by decide +kernel)]; kernel_rfl) | (rw [if_neg (by decide +kernel)]; exact ⟨rfl, rfl⟩))
    (fun os started H enc _ => fnTreeFlows_lifted os started H enc)

end Go.Proofs.Ytlnhikhpkcgegaa

