/-
  The law FnCurves returns true for every input, and leaves its argument as it was. No condition.
-/
import Derived.Deep.CutBlock
import Derived.Test.YtpcbeapajlchgaaCu3
import Derived.Test.YtpcbeapajlchgaaCu4
import Derived.Test.YtpcbeapajlchgaaCu5
import Derived.Test.YtpcbeapajlchgaaCu6
set_option linter.unusedVariables false
set_option linter.unusedSimpArgs false
namespace Go.Proofs.Ytpcbeapajlchgaa
open Go.ChangeShapes Go.WideShapes Go.ChangeAt Go.RowKit Go.Joins

set_option maxRecDepth 100000 in
set_option maxHeartbeats 16000000 in
theorem law_FnCurves (a0 : Option Addr) (n0 c0 : Nat) (w : World) (h : BytesAt w a0 n0) :
    Calls Try.prog 12 #[.slice a0 n0 c0] w fun e w' => e = .returned (.bool true) ∧ Below w.heap.size w w' := by
  have H_code := hid h
  clear h
  by_cases hn : 65536 < n0
  · have hv : decide (65536 < n0) = true := by simpa using hn
    go_enter Try.func12, Try.ntmps12
    go_wp2_with fail
    refine (l_rBig _ _ _ _).mono ?_
    rintro e _ ⟨rfl, rfl⟩
    go_wp2
    go_ret
    exact ⟨rfl, Below.refl _ _⟩
  have hv : decide (65536 < n0) = false := by simpa using hn
  go_enter Try.func12, Try.ntmps12
  go_wp2_with fail
  refine (l_rBig _ _ _ _).mono ?_
  rintro e _ ⟨rfl, rfl⟩
  rw [hv]
  clear hn hv
  go_wp2_with fail
  refine (s_DrawHeadAt _ _ _ _ (H_code.out.below (by go_grown))).mono ?_
  rintro e w1 ⟨a, n, c, L, q, rfl, ⟨hq, hn1, hn2⟩, hb⟩
  have HB_1 := hid (bstep (by go_grown) hb : Below w.heap.size w w1)
  have B_1 := HB_1
  have S_1 := HB_1.out.size
  clear hb
  have O_L := hid hq
  clear hq
  obtain ⟨x1, y1, z1, hR⟩ : ∃ x1 y1 z1, headR L q = (x1, y1, z1) := ⟨_, _, _, rfl⟩
  have HR1 := hid hR
  clear hR
  go_wp2_with fail
  refine (i_HeadAt_is _ _ _ q L _ (O_L.out.below (by go_grown)) (by omega) x1 y1 z1 HR1.out).mono ?_
  rintro e w2 ⟨rfl, hb⟩
  have HB_2 := hid (bstep (by go_grown) hb : Below w1.heap.size w1 w2)
  have B_2 := hid (bstep B_1.out HB_2.out)
  have S_2 := HB_2.out.size
  clear hb
  have O_L_2 := hid (O_L.out.below HB_2.out)
  go_wp2_with fail
  refine (s_HeadAt_is _ _ _ q L _ (O_L_2.out.below (by go_grown)) (by omega) x1 y1 z1 HR1.out).mono ?_
  rintro e w3 ⟨rfl, hb⟩
  have HB_3 := hid (bstep (by go_grown) hb : Below w2.heap.size w2 w3)
  have B_3 := hid (bstep B_2.out HB_3.out)
  have S_3 := HB_3.out.size
  clear hb
  have O_L_3 := hid (O_L_2.out.below HB_3.out)
  go_upto_region 6 with fail
  go_cut [80] (fun s80 wx => s80 = .bool false ∧ Hid (Below w3.heap.size w3 wx))
  case first => as_aux_lemma =>
    go_wp2_with fail
    go_meet
    exact ⟨rfl, hid (Below.refl _ _)⟩
  case rest => as_aux_lemma =>
    obtain ⟨rfl, hcu⟩ := hcut
    obtain ⟨w4, hW4⟩ : ∃ W, W = wc := ⟨_, rfl⟩
    subst hW4
    have HB_4 := hcu
    have B_4 := hid (bstep B_3.out HB_4.out)
    have S_4 := HB_4.out.size
    clear hcu
    have O_L_4 := hid (O_L_3.out.below HB_4.out)
    go_wp2_with fail
    refine (i_IsValidCurve _ _ _ L _ (O_L_4.out.below (by go_grown)) (by omega)).mono ?_
    rintro e w5 ⟨rfl, hb⟩
    have HB_5 := hid (bstep (by go_grown) hb : Below w4.heap.size w4 w5)
    have B_5 := hid (bstep B_4.out HB_5.out)
    have S_5 := HB_5.out.size
    clear hb
    have O_L_5 := hid (O_L_4.out.below HB_5.out)
    go_upto_if 82 with (fail)
    go_cut [] (fun wx => Hid (Below w5.heap.size w5 wx))
    case first => as_aux_lemma =>
      by_cases hg : goodCurve L = true
      · have HG := hid hg
        rw [hg]
        clear hg
        have hln : L.length = n := O_L_5.out.1
        have hw1 : IntKind.i64.wrap ((n : Int) - 1) = ((n - 1 : Nat) : Int) := by rw [IntWalk.i64_in _ (by omega)]; omega
        obtain ⟨b0, o0, e0, hb0, x0, x1⟩ := PAt.get O_L_5.out (n - 1) (by omega)
        have hlt0 : n - 1 < n := by omega
        have hl1 := head_last HG.out
        have hf1 := flow_first HG.out
        have ha1 := above_self HG.out
        rw [hln] at hl1
        have HL1 := hid hl1
        have HF1 := hid hf1
        have HA1 := hid ha1
        clear hl1 hf1 ha1
        have HN := hid hln
        clear hln
        subst e0
        go_wp2_with fail
        refine (i_HeadAt_is _ _ _ (pt L (n - 1)).1 L _ (O_L_5.out.below (by go_grown)) (by omega) _ _ _ HL1.out).mono ?_
        rintro e w6 ⟨rfl, hb⟩
        have HB_6 := hid (bstep (by go_grown) hb : Below w5.heap.size w5 w6)
        have B_6 := hid (bstep B_5.out HB_6.out)
        have S_6 := HB_6.out.size
        have T_6_1 : Hid (w6.heap[w5.heap.size]? = some (.cells #[.int .i64 (pt L (n - 1)).1, .int .i64 (pt L (n - 1)).2] 52 (0, 0))) := hid (by rw [hb.block _ (by simp <;> omega)]; exact heap_alloc_new _ _)
        have m_6_1_0 : w6.cell? ⟨w5.heap.size, 0, none⟩ = some (.int .i64 (pt L (n - 1)).1) := by rw [cell_of_row w6 _ _ _ _ (0, 0) T_6_1.out]; rfl
        have m_6_1_1 : w6.cell? ⟨w5.heap.size, 1, none⟩ = some (.int .i64 (pt L (n - 1)).2) := by rw [cell_of_row w6 _ _ _ _ (0, 0) T_6_1.out]; rfl
        have z_6_1 : w5.heap.size < w6.heap.size := (Array.getElem?_eq_some_iff.1 T_6_1.out).1
        clear hb
        clear x0 x1 hb0
        have O_L_6 := hid (O_L_5.out.below HB_6.out)
        obtain ⟨b1, o1, e1, hb0, x0, x1⟩ := PAt.get O_L_6.out 0 (by omega)
        simp only [Option.some.injEq, Addr.mk.injEq, and_true] at e1
        obtain ⟨rfl, rfl⟩ := e1
        simp only [Nat.zero_mul, Nat.add_zero] at x0 x1
        have h0n : 0 < n := by omega
        go_wp2_with fail
        refine (i_FlowAt_is _ _ _ (pt L 0).2 L _ (O_L_6.out.below (by go_grown)) (by omega) _ _ _ HF1.out).mono ?_
        rintro e w7 ⟨rfl, hb⟩
        have HB_7 := hid (bstep (by go_grown) hb : Below w6.heap.size w6 w7)
        have B_7 := hid (bstep B_6.out HB_7.out)
        have S_7 := HB_7.out.size
        have T_7_1 := hid ((HB_7.out.block w5.heap.size (Array.getElem?_eq_some_iff.1 T_6_1.out).1).trans T_6_1.out)
        clear m_6_1_0 m_6_1_1 z_6_1
        have m_7_1_0 : w7.cell? ⟨w5.heap.size, 0, none⟩ = some (.int .i64 (pt L (n - 1)).1) := by rw [cell_of_row w7 _ _ _ _ (0, 0) T_7_1.out]; rfl
        have m_7_1_1 : w7.cell? ⟨w5.heap.size, 1, none⟩ = some (.int .i64 (pt L (n - 1)).2) := by rw [cell_of_row w7 _ _ _ _ (0, 0) T_7_1.out]; rfl
        have z_7_1 : w5.heap.size < w7.heap.size := (Array.getElem?_eq_some_iff.1 T_7_1.out).1
        clear hb
        clear x0 x1 hb0
        have O_L_7 := hid (O_L_6.out.below HB_7.out)
        go_wp2_with fail
        refine (i_IsAbove _ _ _ _ _ _ L L _ (O_L_7.out.below (by go_grown)) (O_L_7.out.below (by go_grown)) (by omega) (by omega) true true HA1.out).mono ?_
        rintro e w8 ⟨rfl, hb⟩
        have HB_8 := hid (bstep (by go_grown) hb : Below w7.heap.size w7 w8)
        have B_8 := hid (bstep B_7.out HB_8.out)
        have S_8 := HB_8.out.size
        have T_8_1 := hid ((HB_8.out.block w5.heap.size (Array.getElem?_eq_some_iff.1 T_7_1.out).1).trans T_7_1.out)
        clear m_7_1_0 m_7_1_1 z_7_1
        have m_8_1_0 : w8.cell? ⟨w5.heap.size, 0, none⟩ = some (.int .i64 (pt L (n - 1)).1) := by rw [cell_of_row w8 _ _ _ _ (0, 0) T_8_1.out]; rfl
        have m_8_1_1 : w8.cell? ⟨w5.heap.size, 1, none⟩ = some (.int .i64 (pt L (n - 1)).2) := by rw [cell_of_row w8 _ _ _ _ (0, 0) T_8_1.out]; rfl
        have z_8_1 : w5.heap.size < w8.heap.size := (Array.getElem?_eq_some_iff.1 T_8_1.out).1
        clear hb
        go_wp2_with fail
        go_meet
        exact hid (bstep (bstep HB_6.out HB_7.out) HB_8.out)
      · have hg2 : goodCurve L = false := by simpa using hg
        rw [hg2]
        go_wp2_with fail
        go_meet
        exact hid (Below.refl _ _)
    case rest => as_aux_lemma =>
      obtain ⟨w6, hW6⟩ : ∃ W, W = wc := ⟨_, rfl⟩
      subst hW6
      have HB_6 := hcut
      have B_6 := hid (bstep B_5.out HB_6.out)
      have S_6 := HB_6.out.size
      go_wp2_with fail
      refine (s_DrawFlowAt _ _ _ _ ((H_code.out.below B_6.out).below (by go_grown))).mono ?_
      rintro e w7 ⟨a2, n2, c2, L2, q2, rfl, ⟨hq, hn3, hn4⟩, hb⟩
      have HB_7 := hid (bstep (by go_grown) hb : Below w6.heap.size w6 w7)
      have B_7 := hid (bstep B_6.out HB_7.out)
      have S_7 := HB_7.out.size
      clear hb
      have O_L2 := hid hq
      clear hq
      obtain ⟨x2, y2, z2, hR⟩ : ∃ x2 y2 z2, flowR L2 q2 = (x2, y2, z2) := ⟨_, _, _, rfl⟩
      have HR2 := hid hR
      clear hR
      go_wp2_with fail
      refine (i_FlowAt_is _ _ _ q2 L2 _ (O_L2.out.below (by go_grown)) (by omega) x2 y2 z2 HR2.out).mono ?_
      rintro e w8 ⟨rfl, hb⟩
      have HB_8 := hid (bstep (by go_grown) hb : Below w7.heap.size w7 w8)
      have B_8 := hid (bstep B_7.out HB_8.out)
      have S_8 := HB_8.out.size
      clear hb
      have O_L2_8 := hid (O_L2.out.below HB_8.out)
      go_wp2_with fail
      refine (s_FlowAt_is _ _ _ q2 L2 _ (O_L2_8.out.below (by go_grown)) (by omega) x2 y2 z2 HR2.out).mono ?_
      rintro e w9 ⟨rfl, hb⟩
      have HB_9 := hid (bstep (by go_grown) hb : Below w8.heap.size w8 w9)
      have B_9 := hid (bstep B_8.out HB_9.out)
      have S_9 := HB_9.out.size
      clear hb
      have O_L2_9 := hid (O_L2_8.out.below HB_9.out)
      go_upto_region 18 with fail
      go_cut [176] (fun s176 wx => s176 = .bool false ∧ Hid (Below w9.heap.size w9 wx))
      case first => as_aux_lemma =>
        go_wp2_with fail
        go_meet
        exact ⟨rfl, hid (Below.refl _ _)⟩
      case rest => as_aux_lemma =>
        obtain ⟨rfl, hcu⟩ := hcut
        obtain ⟨w10, hW10⟩ : ∃ W, W = wc := ⟨_, rfl⟩
        subst hW10
        have HB_10 := hcu
        have B_10 := hid (bstep B_9.out HB_10.out)
        have S_10 := HB_10.out.size
        clear hcu
        obtain ⟨V, hV⟩ : ∃ V : Bool, (z2 && decide (y2 = 1)) = V := ⟨_, rfl⟩
        have HV := hid hV
        clear hV
        go_upto_region 20 with fail
        go_cut [181] (fun s181 wx => s181 = .bool V ∧ Hid (Below w10.heap.size w10 wx))
        case first => as_aux_lemma =>
          cases z2
          · go_wp2_with fail
            go_meet
            exact ⟨by rw [← HV.out]; rfl, hid (Below.refl _ _)⟩
          · by_cases hy : y2 = 1
            · subst hy
              go_wp2_with fail
              go_meet
              exact ⟨by rw [← HV.out]; rfl, hid (Below.refl _ _)⟩
            · have hy2 : (y2 == 1) = false := by simpa using hy
              go_wp2_with fail
              go_meet
              exact ⟨by rw [← HV.out]; simp [hy], hid (Below.refl _ _)⟩
        case rest => as_aux_lemma =>
          obtain ⟨rfl, hcu⟩ := hcut
          obtain ⟨w11, hW11⟩ : ∃ W, W = wc := ⟨_, rfl⟩
          subst hW11
          have HB_11 := hcu
          have B_11 := hid (bstep B_10.out HB_11.out)
          have S_11 := HB_11.out.size
          clear hcu
          have O_L2_11 := hid ((O_L2_9.out.below HB_10.out).below HB_11.out)
          go_upto_if 181 with (fail)
          go_cut [] (fun wx => Hid (Below w11.heap.size w11 wx))
          case first => as_aux_lemma =>
            cases V
            · go_wp2_with fail
              go_meet
              exact hid (Below.refl _ _)
            · obtain ⟨hz2, hy⟩ : z2 = true ∧ y2 = 1 := by have := HV.out; simpa using this
              clear HV
              subst hz2
              subst hy
              have HW := hid (flow_whole HR2.out)
              go_wp2_with fail
              refine (i_HeadAt_is _ _ _ x2 L2 _ (O_L2_11.out.below (by go_grown)) (by omega) _ _ _ HW.out).mono ?_
              rintro e w12 ⟨rfl, hb⟩
              have HB_12 := hid (bstep (by go_grown) hb : Below w11.heap.size w11 w12)
              have B_12 := hid (bstep B_11.out HB_12.out)
              have S_12 := HB_12.out.size
              clear hb
              go_wp2_with fail
              go_meet
              exact hid HB_12.out
          case rest => as_aux_lemma =>
            obtain ⟨w12, hW12⟩ : ∃ W, W = wc := ⟨_, rfl⟩
            subst hW12
            have HB_12 := hcut
            have B_12 := hid (bstep B_11.out HB_12.out)
            have S_12 := HB_12.out.size
            go_wp2_with fail
            refine (s_DrawRaiseCurve _ _ _ _ ((H_code.out.below B_12.out).below (by go_grown))).mono ?_
            rintro e w13 ⟨a3, n3, c3, L3, q3, rfl, ⟨hq, hn5, hn6⟩, hb⟩
            have HB_13 := hid (bstep (by go_grown) hb : Below w12.heap.size w12 w13)
            have B_13 := hid (bstep B_12.out HB_13.out)
            have S_13 := HB_13.out.size
            clear hb
            have O_L3 := hid hq
            clear hq
            obtain ⟨R3, B3, hR⟩ : ∃ R3 B3, raiseR L3 q3 = (R3, B3) := ⟨_, _, rfl⟩
            have HR3 := hid hR
            clear hR
            have hr3 := raise_len L3 q3
            rw [HR3.out] at hr3
            have hl3 := O_L3.out.1
            have hr4 : R3.length ≤ 7 := by dsimp only at hr3; omega
            have HL3 := hid hl3
            clear hr3 hl3
            go_wp2_with fail
            refine (i_RaiseCurve _ _ _ q3 L3 _ (O_L3.out.below (by go_grown)) (by omega) R3 B3 HR3.out).mono ?_
            rintro e w14 ⟨p4, k4, rfl, ho, hb⟩
            have HB_14 := hid (bstep (by go_grown) hb : Below w13.heap.size w13 w14)
            have B_14 := hid (bstep B_13.out HB_14.out)
            have S_14 := HB_14.out.size
            clear hb
            have O_R4 := hid ho
            clear ho
            have O_L3_14 := hid (O_L3.out.below HB_14.out)
            go_wp2_with fail
            refine (s_RaiseCurve _ _ _ q3 L3 _ (O_L3_14.out.below (by go_grown)) (by omega) R3 B3 HR3.out).mono ?_
            rintro e w15 ⟨p5, k5, rfl, ho, hb⟩
            have HB_15 := hid (bstep (by go_grown) hb : Below w14.heap.size w14 w15)
            have B_15 := hid (bstep B_14.out HB_15.out)
            have S_15 := HB_15.out.size
            clear hb
            have O_R5 := hid ho
            clear ho
            have O_R4_15 := hid (O_R4.out.below HB_15.out)
            have O_L3_15 := hid (O_L3_14.out.below HB_15.out)
            go_upto_region 27 with fail
            go_cut [225] (fun s225 wx => s225 = .bool false ∧ Hid (Below w15.heap.size w15 wx))
            case first => as_aux_lemma =>
              go_wp2_with fail
              refine (l_rCurves_same _ _ _ _ _ R3 _ ((OwnS.at pf_len O_R4_15.out).below (by go_grown)) ((OwnS.at pf_len O_R5.out).below (by go_grown)) (by omega)).mono ?_
              rintro e w16 ⟨rfl, hb⟩
              have HB_16 := hid (bstep (by go_grown) hb : Below w15.heap.size w15 w16)
              have B_16 := hid (bstep B_15.out HB_16.out)
              have S_16 := HB_16.out.size
              clear hb
              go_wp2_with fail
              go_meet
              exact ⟨rfl, hid HB_16.out⟩
            case rest => as_aux_lemma =>
              obtain ⟨rfl, hcu⟩ := hcut
              obtain ⟨w16, hW16⟩ : ∃ W, W = wc := ⟨_, rfl⟩
              subst hW16
              have HB_16 := hcu
              have B_16 := hid (bstep B_15.out HB_16.out)
              have S_16 := HB_16.out.size
              clear hcu
              have O_R4_16 := hid (O_R4_15.out.below HB_16.out)
              have O_L3_16 := hid (O_L3_15.out.below HB_16.out)
              go_upto_if 226 with (fail)
              go_cut [] (fun wx => Hid (Below w16.heap.size w16 wx))
              case first => as_aux_lemma =>
                cases B3
                · go_wp2_with fail
                  go_meet
                  exact hid (Below.refl _ _)
                · obtain ⟨h1, h2, h3, ⟨h4, h4b⟩, h5, h6⟩ := raise_yes HR3.out
                  have H5 := hid h5
                  have H6 := hid h6
                  clear h5 h6 h1 h2 h3
                  have hwq : IntKind.i64.wrap (-q3) = -q3 := IntWalk.i64_in _ (by omega)
                  go_wp2_with fail
                  refine (i_IsAbove _ _ _ _ _ _ R3 L3 _ ((OwnS.at pf_len O_R4_16.out).below (by go_grown)) (O_L3_16.out.below (by go_grown)) (by omega) (by omega) _ true H5.out).mono ?_
                  rintro e w17 ⟨rfl, hb⟩
                  have HB_17 := hid (bstep (by go_grown) hb : Below w16.heap.size w16 w17)
                  have B_17 := hid (bstep B_16.out HB_17.out)
                  have S_17 := HB_17.out.size
                  clear hb
                  have O_R4_17 := hid (O_R4_16.out.below HB_17.out)
                  go_wp2_with fail
                  refine (i_RaiseCurve _ _ _ (-q3) R3 _ ((OwnS.at pf_len O_R4_17.out).below (by go_grown)) (by omega) L3 true H6.out).mono ?_
                  rintro e w18 ⟨p6, k6, rfl, ho, hb⟩
                  have HB_18 := hid (bstep (by go_grown) hb : Below w17.heap.size w17 w18)
                  have B_18 := hid (bstep B_17.out HB_18.out)
                  have S_18 := HB_18.out.size
                  clear hb
                  have O_R6 := hid ho
                  clear ho
                  have O_L3_18 := hid ((O_L3_16.out.below HB_17.out).below HB_18.out)
                  have hn7 : n3 = L3.length := HL3.out.symm
                  clear HL3
                  subst hn7
                  go_wp2_with fail
                  refine (l_rCurves_same _ _ _ _ _ L3 _ ((OwnS.at pf_len O_R6.out).below (by go_grown)) (O_L3_18.out.below (by go_grown)) (by omega)).mono ?_
                  rintro e w19 ⟨rfl, hb⟩
                  have HB_19 := hid (bstep (by go_grown) hb : Below w18.heap.size w18 w19)
                  have B_19 := hid (bstep B_18.out HB_19.out)
                  have S_19 := HB_19.out.size
                  clear hb
                  go_wp2_with fail
                  go_meet
                  exact hid (bstep (bstep HB_17.out HB_18.out) HB_19.out)
              case rest => as_aux_lemma =>
                obtain ⟨w17, hW17⟩ : ∃ W, W = wc := ⟨_, rfl⟩
                subst hW17
                have HB_17 := hcut
                have B_17 := hid (bstep B_16.out HB_17.out)
                have S_17 := HB_17.out.size
                go_wp2_with fail
                refine (s_DrawIsAbove _ _ _ _ ((H_code.out.below B_17.out).below (by go_grown))).mono ?_
                rintro e w18 ⟨a7, n7, c7, L7, a8, n8, c8, L8, rfl, ⟨⟨hq, hn7⟩, hq8, hn8⟩, hb⟩
                have HB_18 := hid (bstep (by go_grown) hb : Below w17.heap.size w17 w18)
                have B_18 := hid (bstep B_17.out HB_18.out)
                have S_18 := HB_18.out.size
                clear hb
                have O_L7 := hid hq
                clear hq
                have O_L8 := hid hq8
                clear hq8
                obtain ⟨x7, y7, hR⟩ : ∃ x7 y7, aboveR L7 L8 = (x7, y7) := ⟨_, _, rfl⟩
                have HR7 := hid hR
                clear hR
                go_wp2_with fail
                refine (i_IsAbove _ _ _ _ _ _ L7 L8 _ (O_L7.out.below (by go_grown)) (O_L8.out.below (by go_grown)) (by omega) (by omega) x7 y7 HR7.out).mono ?_
                rintro e w19 ⟨rfl, hb⟩
                have HB_19 := hid (bstep (by go_grown) hb : Below w18.heap.size w18 w19)
                have B_19 := hid (bstep B_18.out HB_19.out)
                have S_19 := HB_19.out.size
                clear hb
                have O_L7_19 := hid (O_L7.out.below HB_19.out)
                have O_L8_19 := hid (O_L8.out.below HB_19.out)
                go_wp2_with fail
                refine (s_IsAbove _ _ _ _ _ _ L7 L8 _ (O_L7_19.out.below (by go_grown)) (O_L8_19.out.below (by go_grown)) (by omega) (by omega) x7 y7 HR7.out).mono ?_
                rintro e w20 ⟨rfl, hb⟩
                have HB_20 := hid (bstep (by go_grown) hb : Below w19.heap.size w19 w20)
                have B_20 := hid (bstep B_19.out HB_20.out)
                have S_20 := HB_20.out.size
                clear hb
                go_wp2
                go_ret
                exact ⟨rfl, B_20.out⟩

set_option maxRecDepth 100000 in
theorem fnCurves_lifted (os : Os) (started : os.Started) (H : Type) (enc : TypeId × Value → H) :
    ReturnsInHanded {} Try.checked os 12 .any (Rows.fnCurvesSpec.pre6 enc Try.prog Try.f12 Rows.fnCurvesRow.domain false) (Rows.fnCurvesSpec.post enc Try.prog Try.f12 false true false false) := by
  refine returnsInHanded_of_change (C := Try.checked) Try.own started (by kernel_rfl) Try.func12
    (ChangeSpec.witness6 (enc := enc) (C := Try.checked) false ⟨#[], #[.slice none 0 0], []⟩ 8 (by kernel_rfl) (by kernel_rfl) (by kernel_rfl) (by kernel_rfl)) ?_
  intro W base args ds gs before hval0 hW _ _
  have hval : ∀ (j : Nat) t v, Try.f12.params[j]? = some t → args[j]? = some v → Value.okWide Try.prog W .any base t v := hval0
  have hW' : DataW.Whole enc Try.prog Try.f12.params.toList Rows.fnCurvesSpec.vars false W args.toList ds gs before := hW
  obtain ⟨p, q, hA0, hV, rfl, hfz, hnd⟩ := hW
  have hlt : ∀ x ∈ p, x.block < W.heap.size := fun x hx => hW'.lt x (by simp [hx])
  have hA : DataW.TrodAll enc Try.prog W 0 (fun _ => true) true Try.f12.params.toList args.toList ds p := hA0
  rw [Try.params12] at hA hval
  clear hA0 hval0
  obtain ⟨v0, d0, rfl, rfl, h0⟩ := trodAll_one hA
  obtain ⟨rfl, rfl⟩ := trodVars_none hV
  obtain ⟨x0, n0, k0, rfl, g0⟩ := open_bytes (hval 0 47 v0 rfl rfl) h0
  refine (law_FnCurves x0 n0 k0 W g0).mono fun e W' ⟨he, hb⟩ => ?_
  subst he
  exact ⟨_, rfl, law_post rfl rfl (by kernel_rfl) hW' rfl rfl rfl hb⟩

theorem fnCurves_proved : Rows.FnCurvesSaid :=
  OpenClaim.holds_of_wide 12 Try.f12 rfl rfl rfl rfl rfl rfl rfl ⟨rfl, rfl, rfl, rfl, rfl⟩ rfl rfl rfl rfl rfl (by kernel_rfl) Try.func12 (by kernel_rfl)
    (of_decide_eq_true (by kernel_rfl)) (by unfold Func.isWrapper; first | (rw [if_pos (by decide +kernel)]; kernel_rfl) | (rw [if_neg (by decide +kernel)]; exact ⟨rfl, rfl⟩))
    (fun os started H enc _ => fnCurves_lifted os started H enc)

end Go.Proofs.Ytpcbeapajlchgaa

