/-
  The law FnRings returns true for every input, and leaves its argument as it was. No condition.
-/
import Derived.Deep.CutBlock
import Derived.Test.YtikjighlnpdgiaaRr2
import Derived.Test.YtikjighlnpdgiaaRr11
import Derived.Test.YtikjighlnpdgiaaRr16
import Derived.Test.YtikjighlnpdgiaaRr17
import Derived.Test.YtikjighlnpdgiaaRr18
import Derived.Test.YtikjighlnpdgiaaRr19
import Derived.Test.YtikjighlnpdgiaaRr20
import Derived.Test.YtikjighlnpdgiaaRr21
set_option linter.unusedVariables false
set_option linter.unusedSimpArgs false
namespace Go.Proofs.Ytikjighlnpdgiaa
open Go.ChangeShapes Go.WideShapes Go.ChangeAt Go.RowKit Go.Joins

set_option maxRecDepth 100000 in
set_option maxHeartbeats 16000000 in
theorem law_FnRings (a0 : Option Addr) (n0 c0 : Nat) (w : World) (h : BytesAt w a0 n0) :
    Calls Try.prog 4 #[.slice a0 n0 c0] w fun e w' => e = .returned (.bool true) ∧ Below w.heap.size w w' := by
  have H_code := hid h
  clear h
  by_cases hn : 65536 < n0
  · have hv : decide (65536 < n0) = true := by simpa using hn
    go_enter Try.func4, Try.ntmps4
    go_wp2_with fail
    refine (l_vBig _ _ _ _).mono ?_
    rintro e _ ⟨rfl, rfl⟩
    go_wp2
    go_ret
    exact ⟨rfl, Below.refl _ _⟩
  have hv : decide (65536 < n0) = false := by simpa using hn
  go_enter Try.func4, Try.ntmps4
  go_wp2_with fail
  refine (l_vBig _ _ _ _).mono ?_
  rintro e _ ⟨rfl, rfl⟩
  rw [hv]
  clear hn hv
  go_wp2_with fail
  refine (s_DrawRingFlows _ _ _ _ (H_code.out.below (by go_grown))).mono ?_
  rintro e w1 ⟨N, a, m, c, L, v1, a2, m2, c2, l2, rfl, hq, ho2, ⟨⟨hN0, hN1⟩, hm, hm2⟩, hb⟩
  have HB_1 := hid (bstep (by go_grown) hb : Below w.heap.size w w1)
  have B_1 := HB_1
  have S_1 := HB_1.out.size
  clear hb
  have O_L := hid hq
  clear hq
  have O_l2 := hid ho2
  clear ho2
  obtain ⟨R, B, hR⟩ : ∃ R B, ringsR N L v1 l2 = (R, B) := ⟨_, _, rfl⟩
  have HR1 := hid hR
  clear hR
  have hlr : R.length ≤ 1000 := ringsR_len HR1.out
  go_wp2_with fail
  refine (i_RingFlows N v1 _ _ _ _ _ _ L l2 _ ((OwnS.at qf_len O_L.out).below (by go_grown)) (O_l2.out.at.below (by go_grown)) (by omega) (by omega) R B HR1.out).mono ?_
  rintro e w2 ⟨p4, k4, rfl, ho, hb⟩
  have HB_2 := hid (bstep (by go_grown) hb : Below w1.heap.size w1 w2)
  have B_2 := hid (bstep B_1.out HB_2.out)
  have S_2 := HB_2.out.size
  have T_2_1 : Hid (w2.heap[w1.heap.size]? = some (.cells #[.int .i64 N, .slice a m c] 31 (0, 0))) := hid (by rw [hb.block _ (by simp <;> omega)]; exact heap_alloc_new _ _)
  have m_2_1_0 : w2.cell? ⟨w1.heap.size, 0, none⟩ = some (.int .i64 N) := by rw [cell_of_row w2 _ _ _ _ (0, 0) T_2_1.out]; rfl
  have m_2_1_1 : w2.cell? ⟨w1.heap.size, 1, none⟩ = some (.slice a m c) := by rw [cell_of_row w2 _ _ _ _ (0, 0) T_2_1.out]; rfl
  have z_2_1 : w1.heap.size < w2.heap.size := (Array.getElem?_eq_some_iff.1 T_2_1.out).1
  clear hb
  have O_R4 := hid ho
  clear ho
  have O_L_2 := hid (O_L.out.below HB_2.out)
  have O_l2_2 := hid (O_l2.out.below HB_2.out)
  go_wp2_with fail
  refine (s_RingFlows N v1 _ _ _ _ _ _ L l2 _ ((OwnS.at qf_len O_L_2.out).below (by go_grown)) (O_l2_2.out.at.below (by go_grown)) (by omega) (by omega) (own_capQ O_L_2.out) R B HR1.out).mono ?_
  rintro e w3 ⟨p5, k5, rfl, ho, hb⟩
  have HB_3 := hid (bstep (by go_grown) hb : Below w2.heap.size w2 w3)
  have B_3 := hid (bstep B_2.out HB_3.out)
  have S_3 := HB_3.out.size
  have T_3_1 := hid ((HB_3.out.block w1.heap.size (Array.getElem?_eq_some_iff.1 T_2_1.out).1).trans T_2_1.out)
  clear m_2_1_0 m_2_1_1 z_2_1
  have m_3_1_0 : w3.cell? ⟨w1.heap.size, 0, none⟩ = some (.int .i64 N) := by rw [cell_of_row w3 _ _ _ _ (0, 0) T_3_1.out]; rfl
  have m_3_1_1 : w3.cell? ⟨w1.heap.size, 1, none⟩ = some (.slice a m c) := by rw [cell_of_row w3 _ _ _ _ (0, 0) T_3_1.out]; rfl
  have z_3_1 : w1.heap.size < w3.heap.size := (Array.getElem?_eq_some_iff.1 T_3_1.out).1
  clear hb
  have O_R5 := hid ho
  clear ho
  have O_R4_3 := hid (O_R4.out.below HB_3.out)
  have O_L_3 := hid (O_L_2.out.below HB_3.out)
  have O_l2_3 := hid (O_l2_2.out.below HB_3.out)
  go_upto_region 6 with fail
  go_cut [67] (fun s67 wx => s67 = .bool false ∧ Hid (Below w3.heap.size w3 wx))
  case first => as_aux_lemma =>
    go_wp2_with fail
    refine (l_vInts_same _ _ _ _ _ R _ (O_R4_3.out.at.below (by go_grown)) (O_R5.out.at.below (by go_grown)) (by omega)).mono ?_
    rintro e w4 ⟨rfl, hb⟩
    have HB_4 := hid (bstep (by go_grown) hb : Below w3.heap.size w3 w4)
    have B_4 := hid (bstep B_3.out HB_4.out)
    have S_4 := HB_4.out.size
    have T_4_1 := hid ((HB_4.out.block w1.heap.size (Array.getElem?_eq_some_iff.1 T_3_1.out).1).trans T_3_1.out)
    clear m_3_1_0 m_3_1_1 z_3_1
    have m_4_1_0 : w4.cell? ⟨w1.heap.size, 0, none⟩ = some (.int .i64 N) := by rw [cell_of_row w4 _ _ _ _ (0, 0) T_4_1.out]; rfl
    have m_4_1_1 : w4.cell? ⟨w1.heap.size, 1, none⟩ = some (.slice a m c) := by rw [cell_of_row w4 _ _ _ _ (0, 0) T_4_1.out]; rfl
    have z_4_1 : w1.heap.size < w4.heap.size := (Array.getElem?_eq_some_iff.1 T_4_1.out).1
    clear hb
    go_wp2_with fail
    go_meet
    exact ⟨rfl, hid HB_4.out⟩
  case rest => as_aux_lemma =>
    obtain ⟨rfl, hcu⟩ := hcut
    obtain ⟨w4, hW4⟩ : ∃ W, W = wc := ⟨_, rfl⟩
    subst hW4
    have HB_4 := hcu
    have B_4 := hid (bstep B_3.out HB_4.out)
    have S_4 := HB_4.out.size
    have T_4_1 := hid ((HB_4.out.block w1.heap.size (Array.getElem?_eq_some_iff.1 T_3_1.out).1).trans T_3_1.out)
    clear m_3_1_0 m_3_1_1 z_3_1
    have m_4_1_0 : w4.cell? ⟨w1.heap.size, 0, none⟩ = some (.int .i64 N) := by rw [cell_of_row w4 _ _ _ _ (0, 0) T_4_1.out]; rfl
    have m_4_1_1 : w4.cell? ⟨w1.heap.size, 1, none⟩ = some (.slice a m c) := by rw [cell_of_row w4 _ _ _ _ (0, 0) T_4_1.out]; rfl
    have z_4_1 : w1.heap.size < w4.heap.size := (Array.getElem?_eq_some_iff.1 T_4_1.out).1
    clear hcu
    have O_R4_4 := hid (O_R4_3.out.below HB_4.out)
    have O_L_4 := hid (O_L_3.out.below HB_4.out)
    have O_l2_4 := hid (O_l2_3.out.below HB_4.out)
    go_upto_if 68 with (fail)
    go_cut [] (fun wx => Hid (Below w4.heap.size w4 wx))
    case first => as_aux_lemma =>
      cases B
      · go_wp2_with fail
        go_meet
        exact hid (Below.refl _ _)
      · obtain ⟨hfl, hl10, hbal, E, hE, hturn⟩ := rings_yes HR1.out
        have HBAL := hid hbal
        have HE := hid hE
        have HT := hid hturn
        clear hbal hE hturn hfl
        go_wp2_with fail
        refine (i_IsBalanced N v1 _ _ _ _ _ _ _ _ _ L l2 R _ ((OwnS.at qf_len O_L_4.out).below (by go_grown)) (O_l2_4.out.at.below (by go_grown)) (O_R4_4.out.at.below (by go_grown)) (by omega) (by omega) (by omega) true true HBAL.out).mono ?_
        rintro e w5 ⟨rfl, hb⟩
        have HB_5 := hid (bstep (by go_grown) hb : Below w4.heap.size w4 w5)
        have B_5 := hid (bstep B_4.out HB_5.out)
        have S_5 := HB_5.out.size
        have T_5_1 := hid ((HB_5.out.block w1.heap.size (Array.getElem?_eq_some_iff.1 T_4_1.out).1).trans T_4_1.out)
        clear m_4_1_0 m_4_1_1 z_4_1
        have m_5_1_0 : w5.cell? ⟨w1.heap.size, 0, none⟩ = some (.int .i64 N) := by rw [cell_of_row w5 _ _ _ _ (0, 0) T_5_1.out]; rfl
        have m_5_1_1 : w5.cell? ⟨w1.heap.size, 1, none⟩ = some (.slice a m c) := by rw [cell_of_row w5 _ _ _ _ (0, 0) T_5_1.out]; rfl
        have z_5_1 : w1.heap.size < w5.heap.size := (Array.getElem?_eq_some_iff.1 T_5_1.out).1
        clear hb
        have O_L_5 := hid (O_L_4.out.below HB_5.out)
        have O_R4_5 := hid (O_R4_4.out.below HB_5.out)
        go_wp2_with fail
        refine (i_EnergyOf N _ _ _ _ _ _ L R _ ((OwnS.at qf_len O_L_5.out).below (by go_grown)) (O_R4_5.out.at.below (by go_grown)) (by omega) (by omega) E true HE.out).mono ?_
        rintro e w6 ⟨rfl, hb⟩
        have HB_6 := hid (bstep (by go_grown) hb : Below w5.heap.size w5 w6)
        have B_6 := hid (bstep B_5.out HB_6.out)
        have S_6 := HB_6.out.size
        have T_6_1 := hid ((HB_6.out.block w1.heap.size (Array.getElem?_eq_some_iff.1 T_5_1.out).1).trans T_5_1.out)
        clear m_5_1_0 m_5_1_1 z_5_1
        have m_6_1_0 : w6.cell? ⟨w1.heap.size, 0, none⟩ = some (.int .i64 N) := by rw [cell_of_row w6 _ _ _ _ (0, 0) T_6_1.out]; rfl
        have m_6_1_1 : w6.cell? ⟨w1.heap.size, 1, none⟩ = some (.slice a m c) := by rw [cell_of_row w6 _ _ _ _ (0, 0) T_6_1.out]; rfl
        have z_6_1 : w1.heap.size < w6.heap.size := (Array.getElem?_eq_some_iff.1 T_6_1.out).1
        clear hb
        have O_R4_6 := hid (O_R4_5.out.below HB_6.out)
        have O_L_6 := hid (O_L_5.out.below HB_6.out)
        have O_l2_6 := hid ((O_l2_4.out.below HB_5.out).below HB_6.out)
        go_wp2
        go_loopg [14] 2 (fun g s wr => ∃ k : Nat, k ≤ 2 ∧ g = 2 - k ∧ s = .int .i64 (2 * (k : Int) - 1) ∧ Hid (Below w6.heap.size w6 wr))
        case atStart => exact ⟨0, Nat.zero_le _, rfl, rfl, hid (Below.refl _ _)⟩
        case round =>
          obtain ⟨k, hk, rfl, rfl, hh⟩ := hrel
          obtain ⟨w7, hW7⟩ : ∃ W, W = wr := ⟨_, rfl⟩
          subst hW7
          have HB_7 := hh
          have B_7 := hid (bstep B_6.out HB_7.out)
          have S_7 := HB_7.out.size
          have T_7_1 := hid ((HB_7.out.block w1.heap.size (Array.getElem?_eq_some_iff.1 T_6_1.out).1).trans T_6_1.out)
          clear m_6_1_0 m_6_1_1 z_6_1
          have m_7_1_0 : w7.cell? ⟨w1.heap.size, 0, none⟩ = some (.int .i64 N) := by rw [cell_of_row w7 _ _ _ _ (0, 0) T_7_1.out]; rfl
          have m_7_1_1 : w7.cell? ⟨w1.heap.size, 1, none⟩ = some (.slice a m c) := by rw [cell_of_row w7 _ _ _ _ (0, 0) T_7_1.out]; rfl
          have z_7_1 : w1.heap.size < w7.heap.size := (Array.getElem?_eq_some_iff.1 T_7_1.out).1
          have O_R4_7 := hid (O_R4_6.out.below HB_7.out)
          have O_L_7 := hid (O_L_6.out.below HB_7.out)
          have O_l2_7 := hid (O_l2_6.out.below HB_7.out)
          obtain ⟨X, hX⟩ : ∃ X, 2 * (k : Int) - 1 = X := ⟨_, rfl⟩
          rw [hX]
          have HX := hid hX
          by_cases hlt : k < 2
          · have hXle : X ≤ 1 := by omega
            have hXr : -1 ≤ X := by omega
            have hwX : IntKind.i64.wrap (X + 2) = X + 2 := IntWalk.i64_in _ (by omega)
            obtain ⟨gs, E2, ht1, ht2, ht3, ht4, ht5⟩ := HT.out X (by omega)
            have HT1 := hid ht1
            have HT3 := hid ht3
            have HT5 := hid ht5
            have hEE : ¬ E2 < E := by omega
            have hgl : gs.length ≤ 10 := by omega
            clear ht1 ht2 ht3 ht4 ht5 hX
            go_wp2_with fail
            refine (i_TurnFlows N X _ _ _ _ _ _ L R _ ((OwnS.at qf_len O_L_7.out).below (by go_grown)) (O_R4_7.out.at.below (by go_grown)) (by omega) (by omega) gs true HT1.out).mono ?_
            rintro e w8 ⟨p6, k6, rfl, ho, hb⟩
            have HB_8 := hid (bstep (by go_grown) hb : Below w7.heap.size w7 w8)
            have B_8 := hid (bstep B_7.out HB_8.out)
            have S_8 := HB_8.out.size
            have T_8_1 := hid ((HB_8.out.block w1.heap.size (Array.getElem?_eq_some_iff.1 T_7_1.out).1).trans T_7_1.out)
            clear m_7_1_0 m_7_1_1 z_7_1
            have m_8_1_0 : w8.cell? ⟨w1.heap.size, 0, none⟩ = some (.int .i64 N) := by rw [cell_of_row w8 _ _ _ _ (0, 0) T_8_1.out]; rfl
            have m_8_1_1 : w8.cell? ⟨w1.heap.size, 1, none⟩ = some (.slice a m c) := by rw [cell_of_row w8 _ _ _ _ (0, 0) T_8_1.out]; rfl
            have z_8_1 : w1.heap.size < w8.heap.size := (Array.getElem?_eq_some_iff.1 T_8_1.out).1
            clear hb
            have O_G6 := hid ho
            clear ho
            have O_L_8 := hid (O_L_7.out.below HB_8.out)
            go_wp2_with fail
            refine (i_EnergyOf N _ _ _ _ _ _ L gs _ ((OwnS.at qf_len O_L_8.out).below (by go_grown)) (O_G6.out.at.below (by go_grown)) (by omega) (by omega) E2 true HT3.out).mono ?_
            rintro e w9 ⟨rfl, hb⟩
            have HB_9 := hid (bstep (by go_grown) hb : Below w8.heap.size w8 w9)
            have B_9 := hid (bstep B_8.out HB_9.out)
            have S_9 := HB_9.out.size
            have T_9_1 := hid ((HB_9.out.block w1.heap.size (Array.getElem?_eq_some_iff.1 T_8_1.out).1).trans T_8_1.out)
            clear m_8_1_0 m_8_1_1 z_8_1
            have m_9_1_0 : w9.cell? ⟨w1.heap.size, 0, none⟩ = some (.int .i64 N) := by rw [cell_of_row w9 _ _ _ _ (0, 0) T_9_1.out]; rfl
            have m_9_1_1 : w9.cell? ⟨w1.heap.size, 1, none⟩ = some (.slice a m c) := by rw [cell_of_row w9 _ _ _ _ (0, 0) T_9_1.out]; rfl
            have z_9_1 : w1.heap.size < w9.heap.size := (Array.getElem?_eq_some_iff.1 T_9_1.out).1
            clear hb
            have O_L_9 := hid (O_L_8.out.below HB_9.out)
            have O_l2_9 := hid ((O_l2_7.out.below HB_8.out).below HB_9.out)
            have O_G6_9 := hid (O_G6.out.below HB_9.out)
            go_wp2_with fail
            refine (i_IsBalanced N v1 _ _ _ _ _ _ _ _ _ L l2 gs _ ((OwnS.at qf_len O_L_9.out).below (by go_grown)) (O_l2_9.out.at.below (by go_grown)) (O_G6_9.out.at.below (by go_grown)) (by omega) (by omega) (by omega) true true HT5.out).mono ?_
            rintro e w10 ⟨rfl, hb⟩
            have HB_10 := hid (bstep (by go_grown) hb : Below w9.heap.size w9 w10)
            have B_10 := hid (bstep B_9.out HB_10.out)
            have S_10 := HB_10.out.size
            have T_10_1 := hid ((HB_10.out.block w1.heap.size (Array.getElem?_eq_some_iff.1 T_9_1.out).1).trans T_9_1.out)
            clear m_9_1_0 m_9_1_1 z_9_1
            have m_10_1_0 : w10.cell? ⟨w1.heap.size, 0, none⟩ = some (.int .i64 N) := by rw [cell_of_row w10 _ _ _ _ (0, 0) T_10_1.out]; rfl
            have m_10_1_1 : w10.cell? ⟨w1.heap.size, 1, none⟩ = some (.slice a m c) := by rw [cell_of_row w10 _ _ _ _ (0, 0) T_10_1.out]; rfl
            have z_10_1 : w1.heap.size < w10.heap.size := (Array.getElem?_eq_some_iff.1 T_10_1.out).1
            clear hb
            go_wp2
            go_roundg (2 - (k + 1))
            case rel => exact ⟨k + 1, by omega, rfl, by show Value.int _ _ = Value.int _ _; congr 1; rw [← HX.out]; omega, hid (bstep hh.out (bstep (bstep HB_8.out HB_9.out) HB_10.out))⟩
            case measure => omega
          · have hXle : ¬ X ≤ 1 := by omega
            clear hX
            go_wp2_with fail
            go_meet
            exact hid (bstep (bstep HB_5.out HB_6.out) hh.out)
    case rest => as_aux_lemma =>
      obtain ⟨w5, hW5⟩ : ∃ W, W = wc := ⟨_, rfl⟩
      subst hW5
      have HB_5 := hcut
      have B_5 := hid (bstep B_4.out HB_5.out)
      have S_5 := HB_5.out.size
      have T_5_1 := hid ((HB_5.out.block w1.heap.size (Array.getElem?_eq_some_iff.1 T_4_1.out).1).trans T_4_1.out)
      clear m_4_1_0 m_4_1_1 z_4_1
      have m_5_1_0 : w5.cell? ⟨w1.heap.size, 0, none⟩ = some (.int .i64 N) := by rw [cell_of_row w5 _ _ _ _ (0, 0) T_5_1.out]; rfl
      have m_5_1_1 : w5.cell? ⟨w1.heap.size, 1, none⟩ = some (.slice a m c) := by rw [cell_of_row w5 _ _ _ _ (0, 0) T_5_1.out]; rfl
      have z_5_1 : w1.heap.size < w5.heap.size := (Array.getElem?_eq_some_iff.1 T_5_1.out).1
      go_wp2_with fail
      refine (s_DrawLoopOf _ _ _ _ ((H_code.out.below B_5.out).below (by go_grown))).mono ?_
      rintro e w6 ⟨N7, a7, m7, c7, L7, rfl, hq7, ⟨⟨hN7, hN8⟩, hm7⟩, hb⟩
      have HB_6 := hid (bstep (by go_grown) hb : Below w5.heap.size w5 w6)
      have B_6 := hid (bstep B_5.out HB_6.out)
      have S_6 := HB_6.out.size
      have T_6_1 := hid ((HB_6.out.block w1.heap.size (Array.getElem?_eq_some_iff.1 T_5_1.out).1).trans T_5_1.out)
      clear m_5_1_0 m_5_1_1 z_5_1
      clear hb
      have O_L7 := hid hq7
      clear hq7
      obtain ⟨R8, S8, B8, hR⟩ : ∃ R8 S8 B8, loopR N7 L7 = (R8, S8, B8) := ⟨_, _, _, rfl⟩
      have HR2 := hid hR
      clear hR
      obtain ⟨hlr8, hls8⟩ := loopR_len HR2.out
      go_wp2_with fail
      refine (i_LoopOf N7 _ _ _ L7 _ ((OwnS.at qf_len O_L7.out).below (by go_grown)) (by omega) R8 S8 B8 HR2.out).mono ?_
      rintro e w7 ⟨p9, q9, p10, q10, rfl, ho, ho2, hap, hb⟩
      have HB_7 := hid (bstep (by go_grown) hb : Below w6.heap.size w6 w7)
      have B_7 := hid (bstep B_6.out HB_7.out)
      have S_7 := HB_7.out.size
      have T_7_1 := hid ((HB_7.out.block w1.heap.size (Array.getElem?_eq_some_iff.1 T_6_1.out).1).trans T_6_1.out)
      have T_7_2 : Hid (w7.heap[w6.heap.size]? = some (.cells #[.int .i64 N7, .slice a7 m7 c7] 31 (0, 0))) := hid (by rw [hb.block _ (by simp <;> omega)]; exact heap_alloc_new _ _)
      have m_7_2_0 : w7.cell? ⟨w6.heap.size, 0, none⟩ = some (.int .i64 N7) := by rw [cell_of_row w7 _ _ _ _ (0, 0) T_7_2.out]; rfl
      have m_7_2_1 : w7.cell? ⟨w6.heap.size, 1, none⟩ = some (.slice a7 m7 c7) := by rw [cell_of_row w7 _ _ _ _ (0, 0) T_7_2.out]; rfl
      have z_7_2 : w6.heap.size < w7.heap.size := (Array.getElem?_eq_some_iff.1 T_7_2.out).1
      clear hb
      clear hap
      have O_R9 := hid ho
      clear ho
      have O_S10 := hid ho2
      clear ho2
      have O_L7_7 := hid (O_L7.out.below HB_7.out)
      go_wp2_with fail
      refine (s_LoopOf N7 _ _ _ L7 _ ((OwnS.at qf_len O_L7_7.out).below (by go_grown)) (by omega) (own_capQ O_L7_7.out) R8 S8 B8 HR2.out).mono ?_
      rintro e w8 ⟨p11, q11, p12, q12, rfl, ho, ho2, hap, hb⟩
      have HB_8 := hid (bstep (by go_grown) hb : Below w7.heap.size w7 w8)
      have B_8 := hid (bstep B_7.out HB_8.out)
      have S_8 := HB_8.out.size
      have T_8_1 := hid ((HB_8.out.block w1.heap.size (Array.getElem?_eq_some_iff.1 T_7_1.out).1).trans T_7_1.out)
      have T_8_2 := hid ((HB_8.out.block w6.heap.size (Array.getElem?_eq_some_iff.1 T_7_2.out).1).trans T_7_2.out)
      clear m_7_2_0 m_7_2_1 z_7_2
      have m_8_2_0 : w8.cell? ⟨w6.heap.size, 0, none⟩ = some (.int .i64 N7) := by rw [cell_of_row w8 _ _ _ _ (0, 0) T_8_2.out]; rfl
      have m_8_2_1 : w8.cell? ⟨w6.heap.size, 1, none⟩ = some (.slice a7 m7 c7) := by rw [cell_of_row w8 _ _ _ _ (0, 0) T_8_2.out]; rfl
      have z_8_2 : w6.heap.size < w8.heap.size := (Array.getElem?_eq_some_iff.1 T_8_2.out).1
      clear hb
      clear hap
      have O_R11 := hid ho
      clear ho
      have O_S12 := hid ho2
      clear ho2
      have O_R9_8 := hid (O_R9.out.below HB_8.out)
      have O_S10_8 := hid (O_S10.out.below HB_8.out)
      have O_L7_8 := hid (O_L7_7.out.below HB_8.out)
      go_upto_region 24 with fail
      go_cut [165] (fun s165 wx => s165 = .bool false ∧ Hid (Below w8.heap.size w8 wx))
      case first => as_aux_lemma =>
        go_wp2_with fail
        refine (l_vInts_same _ _ _ _ _ R8 _ (O_R9_8.out.at.below (by go_grown)) (O_R11.out.at.below (by go_grown)) (by omega)).mono ?_
        rintro e w9 ⟨rfl, hb⟩
        have HB_9 := hid (bstep (by go_grown) hb : Below w8.heap.size w8 w9)
        have B_9 := hid (bstep B_8.out HB_9.out)
        have S_9 := HB_9.out.size
        have T_9_1 := hid ((HB_9.out.block w1.heap.size (Array.getElem?_eq_some_iff.1 T_8_1.out).1).trans T_8_1.out)
        have T_9_2 := hid ((HB_9.out.block w6.heap.size (Array.getElem?_eq_some_iff.1 T_8_2.out).1).trans T_8_2.out)
        clear m_8_2_0 m_8_2_1 z_8_2
        have m_9_2_0 : w9.cell? ⟨w6.heap.size, 0, none⟩ = some (.int .i64 N7) := by rw [cell_of_row w9 _ _ _ _ (0, 0) T_9_2.out]; rfl
        have m_9_2_1 : w9.cell? ⟨w6.heap.size, 1, none⟩ = some (.slice a7 m7 c7) := by rw [cell_of_row w9 _ _ _ _ (0, 0) T_9_2.out]; rfl
        have z_9_2 : w6.heap.size < w9.heap.size := (Array.getElem?_eq_some_iff.1 T_9_2.out).1
        clear hb
        have O_S10_9 := hid (O_S10_8.out.below HB_9.out)
        have O_S12_9 := hid (O_S12.out.below HB_9.out)
        go_wp2_with fail
        refine (l_vInts_same _ _ _ _ _ S8 _ (O_S10_9.out.at.below (by go_grown)) (O_S12_9.out.at.below (by go_grown)) (by omega)).mono ?_
        rintro e w10 ⟨rfl, hb⟩
        have HB_10 := hid (bstep (by go_grown) hb : Below w9.heap.size w9 w10)
        have B_10 := hid (bstep B_9.out HB_10.out)
        have S_10 := HB_10.out.size
        have T_10_1 := hid ((HB_10.out.block w1.heap.size (Array.getElem?_eq_some_iff.1 T_9_1.out).1).trans T_9_1.out)
        have T_10_2 := hid ((HB_10.out.block w6.heap.size (Array.getElem?_eq_some_iff.1 T_9_2.out).1).trans T_9_2.out)
        clear m_9_2_0 m_9_2_1 z_9_2
        have m_10_2_0 : w10.cell? ⟨w6.heap.size, 0, none⟩ = some (.int .i64 N7) := by rw [cell_of_row w10 _ _ _ _ (0, 0) T_10_2.out]; rfl
        have m_10_2_1 : w10.cell? ⟨w6.heap.size, 1, none⟩ = some (.slice a7 m7 c7) := by rw [cell_of_row w10 _ _ _ _ (0, 0) T_10_2.out]; rfl
        have z_10_2 : w6.heap.size < w10.heap.size := (Array.getElem?_eq_some_iff.1 T_10_2.out).1
        clear hb
        go_wp2_with fail
        go_meet
        exact ⟨rfl, hid (bstep HB_9.out HB_10.out)⟩
      case rest => as_aux_lemma =>
        obtain ⟨rfl, hcu⟩ := hcut
        obtain ⟨w9, hW9⟩ : ∃ W, W = wc := ⟨_, rfl⟩
        subst hW9
        have HB_9 := hcu
        have B_9 := hid (bstep B_8.out HB_9.out)
        have S_9 := HB_9.out.size
        have T_9_1 := hid ((HB_9.out.block w1.heap.size (Array.getElem?_eq_some_iff.1 T_8_1.out).1).trans T_8_1.out)
        have T_9_2 := hid ((HB_9.out.block w6.heap.size (Array.getElem?_eq_some_iff.1 T_8_2.out).1).trans T_8_2.out)
        clear m_8_2_0 m_8_2_1 z_8_2
        have m_9_2_0 : w9.cell? ⟨w6.heap.size, 0, none⟩ = some (.int .i64 N7) := by rw [cell_of_row w9 _ _ _ _ (0, 0) T_9_2.out]; rfl
        have m_9_2_1 : w9.cell? ⟨w6.heap.size, 1, none⟩ = some (.slice a7 m7 c7) := by rw [cell_of_row w9 _ _ _ _ (0, 0) T_9_2.out]; rfl
        have z_9_2 : w6.heap.size < w9.heap.size := (Array.getElem?_eq_some_iff.1 T_9_2.out).1
        clear hcu
        have O_R9_9 := hid (O_R9_8.out.below HB_9.out)
        have O_S10_9 := hid (O_S10_8.out.below HB_9.out)
        have O_L7_9 := hid (O_L7_8.out.below HB_9.out)
        go_upto_if 166 with (fail)
        go_cut [] (fun wx => Hid (Below w9.heap.size w9 wx))
        case first => as_aux_lemma =>
          cases B8
          · go_wp2_with fail
            go_meet
            exact hid (Below.refl _ _)
          · obtain ⟨hgd, hring, hsum, h2, hSl, hS0, hall⟩ := loop_yes HR2.out
            obtain ⟨M, rfl⟩ : ∃ M : Nat, N7 = M := ⟨N7.toNat, by have := (goodNet_get hgd).1; omega⟩
            have hLm : L7.length = m7 := OwnS.len O_L7_9.out
            rw [hLm] at hsum hall
            obtain ⟨Q, hQ⟩ : ∃ Q, bridL L7 m7 = Q := ⟨_, rfl⟩
            have HBR := hid (fun (W : World) (h : QAt W a7 m7 L7) => i_BridgePipes M a7 m7 c7 L7 W h hgd)
            rw [hQ] at HBR hsum hall
            have HALL := hid hall
            have HRG := hid hring
            obtain ⟨r, hr⟩ : ∃ r, R8.length = r := ⟨_, rfl⟩
            have HRR := hid hr
            obtain ⟨z, hz⟩ : ∃ z, Q.length = z := ⟨_, rfl⟩
            have HZZ := hid hz
            obtain ⟨y, hy⟩ : ∃ y, S8.length = y := ⟨_, rfl⟩
            have HYY := hid hy
            have HS0 := hid hS0
            have hr2 : 2 ≤ r ∧ r ≤ 1000 := by omega
            have hyp : 0 < y := by omega
            have HRZ := hid (show (r : Int) + (z : Int) = (m7 : Int) from by omega)
            have hz11 : z ≤ 11 := by omega
            have P9 := hid (show OwnI w9 _ (.slice p9 r q9) R8 from by have := O_R9_9.out; rw [hr] at this; exact this)
            have P10 := hid (show OwnI w9 _ (.slice p10 y q10) S8 from by have := O_S10_9.out; rw [hy] at this; exact this)
            rw [hr, hy]
            clear hall hring hsum h2 hSl hS0 hLm hQ hr hz hy hgd hlr8 hls8
            obtain ⟨g9, rfl, -, hg9⟩ := own_some P9.out (by omega)
            obtain ⟨g10, rfl, -, hg10⟩ := own_some P10.out (by omega)
            go_wp2_with fail
            refine (HBR.out _ ((OwnS.at qf_len O_L7_9.out).below (by go_grown))).mono ?_
            rintro e w10 ⟨p13, q13, rfl, ho, hb⟩
            have HB_10 := hid (bstep (by go_grown) hb : Below w9.heap.size w9 w10)
            have B_10 := hid (bstep B_9.out HB_10.out)
            have S_10 := HB_10.out.size
            have T_10_1 := hid ((HB_10.out.block w1.heap.size (Array.getElem?_eq_some_iff.1 T_9_1.out).1).trans T_9_1.out)
            have T_10_2 := hid ((HB_10.out.block w6.heap.size (Array.getElem?_eq_some_iff.1 T_9_2.out).1).trans T_9_2.out)
            clear m_9_2_0 m_9_2_1 z_9_2
            have m_10_2_0 : w10.cell? ⟨w6.heap.size, 0, none⟩ = some (.int .i64 M) := by rw [cell_of_row w10 _ _ _ _ (0, 0) T_10_2.out]; rfl
            have m_10_2_1 : w10.cell? ⟨w6.heap.size, 1, none⟩ = some (.slice a7 m7 c7) := by rw [cell_of_row w10 _ _ _ _ (0, 0) T_10_2.out]; rfl
            have z_10_2 : w6.heap.size < w10.heap.size := (Array.getElem?_eq_some_iff.1 T_10_2.out).1
            clear hb
            rw [HZZ.out] at ho
            rw [HZZ.out]
            have O_Q13 := hid ho
            clear ho
            have O_L7_10 := hid (O_L7_9.out.below HB_10.out)
            go_wp2_with fail
            refine (i_IsRing M _ _ _ L7 _ ((OwnS.at qf_len O_L7_10.out).below (by go_grown)) (by omega) true true HRG.out).mono ?_
            rintro e w11 ⟨rfl, hb⟩
            have HB_11 := hid (bstep (by go_grown) hb : Below w10.heap.size w10 w11)
            have B_11 := hid (bstep B_10.out HB_11.out)
            have S_11 := HB_11.out.size
            have T_11_1 := hid ((HB_11.out.block w1.heap.size (Array.getElem?_eq_some_iff.1 T_10_1.out).1).trans T_10_1.out)
            have T_11_2 := hid ((HB_11.out.block w6.heap.size (Array.getElem?_eq_some_iff.1 T_10_2.out).1).trans T_10_2.out)
            clear m_10_2_0 m_10_2_1 z_10_2
            have m_11_2_0 : w11.cell? ⟨w6.heap.size, 0, none⟩ = some (.int .i64 M) := by rw [cell_of_row w11 _ _ _ _ (0, 0) T_11_2.out]; rfl
            have m_11_2_1 : w11.cell? ⟨w6.heap.size, 1, none⟩ = some (.slice a7 m7 c7) := by rw [cell_of_row w11 _ _ _ _ (0, 0) T_11_2.out]; rfl
            have z_11_2 : w6.heap.size < w11.heap.size := (Array.getElem?_eq_some_iff.1 T_11_2.out).1
            clear hb
            have P9_11 := hid ((P9.out.below HB_10.out).below HB_11.out)
            have P10_11 := hid ((P10.out.below HB_10.out).below HB_11.out)
            have O_L7_11 := hid (O_L7_10.out.below HB_11.out)
            have O_Q13_11 := hid (O_Q13.out.below HB_11.out)
            have hc10 := P10_11.out.cell (k := 0) (by omega)
            rw [HS0.out] at hc10
            have hwsum : IntKind.i64.wrap ((r : Int) + (z : Int)) = (m7 : Int) := by rw [IntWalk.i64_in _ (by omega)]; exact HRZ.out
            have hr3 : ¬ (r : Int) < 2 := by omega
            have hy0 : (0 : Int) < (y : Int) := by omega
            go_wp2
            clear hc10 hwsum
            go_loopg [32] r (fun g s wr => ∃ k : Nat, k ≤ r ∧ g = r - k ∧ s = .int .i64 k ∧ Hid (Below w11.heap.size w11 wr))
            case atStart => exact ⟨0, Nat.zero_le _, rfl, rfl, hid (Below.refl _ _)⟩
            case round =>
              obtain ⟨k, hk, rfl, rfl, hh⟩ := hrel
              obtain ⟨w12, hW12⟩ : ∃ W, W = wr := ⟨_, rfl⟩
              subst hW12
              have HB_12 := hh
              have B_12 := hid (bstep B_11.out HB_12.out)
              have S_12 := HB_12.out.size
              have T_12_1 := hid ((HB_12.out.block w1.heap.size (Array.getElem?_eq_some_iff.1 T_11_1.out).1).trans T_11_1.out)
              have T_12_2 := hid ((HB_12.out.block w6.heap.size (Array.getElem?_eq_some_iff.1 T_11_2.out).1).trans T_11_2.out)
              clear m_11_2_0 m_11_2_1 z_11_2
              have m_12_2_0 : w12.cell? ⟨w6.heap.size, 0, none⟩ = some (.int .i64 M) := by rw [cell_of_row w12 _ _ _ _ (0, 0) T_12_2.out]; rfl
              have m_12_2_1 : w12.cell? ⟨w6.heap.size, 1, none⟩ = some (.slice a7 m7 c7) := by rw [cell_of_row w12 _ _ _ _ (0, 0) T_12_2.out]; rfl
              have z_12_2 : w6.heap.size < w12.heap.size := (Array.getElem?_eq_some_iff.1 T_12_2.out).1
              have P9_12 := hid (P9_11.out.below HB_12.out)
              have O_L7_12 := hid (O_L7_11.out.below HB_12.out)
              have O_Q13_12 := hid (O_Q13_11.out.below HB_12.out)
              by_cases hlt : k < r
              · have hlti : (k : Int) < (r : Int) := by omega
                have hki : (0 : Int) ≤ (k : Int) := by omega
                have hwk : IntKind.i64.wrap ((k : Int) + 1) = ((k + 1 : Nat) : Int) := by rw [IntWalk.i64_in _ (by omega)]; omega
                obtain ⟨hnm, T, hop, htr, hTl⟩ := HALL.out k (by have := HRR.out; omega)
                obtain ⟨id, hid9⟩ : ∃ id, R8[k]?.getD 0 = id := ⟨_, rfl⟩
                rw [hid9] at hnm hop
                have HID := hid hid9
                have HOP := hid hop
                have HTR := hid htr
                have HNM := hid hnm
                clear hid9 hop htr hnm
                have hci := P9_12.out.cell (k := k) hlt
                rw [HID.out] at hci
                go_upto_region 34 with fail
                go_cut [33, 34] (fun s33 s34 wx => ∃ (pt : Nat) (aT : Option Addr) (cT : Nat), s33 = .pointer (some ⟨pt, 0, none⟩) ∧ s34 = .bool true ∧ Hid (wx.heap[pt]? = some (.cells #[.int .i64 M, .slice aT T.length cT] 31 (0, 0)) ∧ OwnQ wx w12.heap.size (.slice aT T.length cT) T ∧ Below w12.heap.size w12 wx))
                case first => as_aux_lemma =>
                  have KS := hid (show ∀ wx, Below w12.heap.size w12 wx → (wx.cell? ⟨w6.heap.size, 0, none⟩ = some (.int .i64 M) ∧ wx.cell? ⟨w6.heap.size, 1, none⟩ = some (.slice a7 m7 c7) ∧ wx.cell? ⟨g9, k, none⟩ = some (.int .i64 id)) from fun wx hb => ⟨(hb.cell (World.block_lt_of_cell? _ _ m_12_2_0)).trans m_12_2_0, (hb.cell (World.block_lt_of_cell? _ _ m_12_2_1)).trans m_12_2_1, (hb.cell (World.block_lt_of_cell? _ _ hci)).trans hci⟩)
                  refine wp_region_noPanic ?_
                  refine wp_region_held_drew (S := (fun w' => w'.cell? ⟨w6.heap.size, 0, none⟩ = some (.int .i64 M) ∧ w'.cell? ⟨w6.heap.size, 1, none⟩ = some (.slice a7 m7 c7) ∧ w'.cell? ⟨g9, k, none⟩ = some (.int .i64 id))) (by kernel_rfl) (by exact ⟨m_12_2_0, m_12_2_1, hci⟩) (fun hHeld => ?_)
                  refine wpAnyH_take' (i := 0) (v := ?_) rfl (by kernel_rfl) (by kernel_rfl) (by kernel_rfl) (fun _ _ _ h => h) (Or.inl ⟨by rfl, ?_⟩) (by assumption) ?_
                  rotate_left
                  · (intro w' hSw; (try dsimp only at hSw); go_simp; all_goals with_reducible rfl)
                  try simp only [Act.put, List.setIfInBounds_toArray, List.set_cons_zero, List.set_cons_succ]
                  refine wpAnyH_take' (i := 1) (v := ?_) rfl (by kernel_rfl) (by kernel_rfl) (by kernel_rfl) (fun _ _ _ h => h) (Or.inl ⟨by rfl, ?_⟩) (by assumption) ?_
                  rotate_left
                  · (intro w' hSw; (try dsimp only at hSw); go_simp; all_goals with_reducible rfl)
                  try simp only [Act.put, List.setIfInBounds_toArray, List.set_cons_zero, List.set_cons_succ]
                  refine wpAnyH_take' (i := 2) (v := ?_) rfl (by kernel_rfl) (by kernel_rfl) (by kernel_rfl) (fun _ _ _ h => h) (Or.inl ⟨by rfl, ?_⟩) (by assumption) ?_
                  rotate_left
                  · (intro w' hSw; (try dsimp only at hSw); go_simp; all_goals with_reducible rfl)
                  try simp only [Act.put, List.setIfInBounds_toArray, List.set_cons_zero, List.set_cons_succ]
                  refine wpAnyH_take' (i := 3) (v := ?_) rfl (by kernel_rfl) (by kernel_rfl) (by kernel_rfl) (fun _ _ _ h => h) (Or.inl ⟨by rfl, ?_⟩) (by assumption) ?_
                  rotate_left
                  · (intro w' hSw; (try dsimp only at hSw); go_simp; all_goals with_reducible rfl)
                  try simp only [Act.put, List.setIfInBounds_toArray, List.set_cons_zero, List.set_cons_succ]
                  refine wpAnyH_take' (i := 4) (v := ?_) rfl (by kernel_rfl) (by kernel_rfl) (by kernel_rfl) (fun _ _ _ h => h) (Or.inl ⟨by rfl, ?_⟩) (by assumption) ?_
                  rotate_left
                  · (intro w' hSw; (try dsimp only at hSw); go_simp; all_goals with_reducible rfl)
                  try simp only [Act.put, List.setIfInBounds_toArray, List.set_cons_zero, List.set_cons_succ]
                  refine wpAnyH_ready (rs := [5, 9]) (by kernel_rfl) (by simp) ?_
                  refine allReadyH_cons' rfl (fun Kn hKn => ?_) (allReadyH_cons' rfl (fun Kn hKn => ?_) AllReadyH.nil)
                  · go_simp
                    go_at_call 26
                    refine (i_OpenedRing' M id _ _ _ L7 _ (OwnS.at qf_len (OwnS.below O_L7_12.out (by go_grown))) (by omega) M T true HOP.out).mono ?_
                    rintro e v2 ⟨aT, cT, rfl, hoT, hbT⟩
                    have HV2 := hid (bstep (by go_grown) hbT : Below w12.heap.size w12 v2)
                    have HOT := hid (show OwnQ v2 w12.heap.size (.slice aT T.length cT) T from hoT)
                    clear hoT hbT
                    refine hKn.out _ _ (KS.out _ HV2.out) (fun hHeldN => ?_)
                    clear hKn Kn hHeld
                    have hHeld := hHeldN
                    clear hHeldN
                    try simp only [Act.put, List.setIfInBounds_toArray, List.set_cons_zero, List.set_cons_succ]
                    refine wpAnyH_take' (i := 6) (v := ?_) rfl (by kernel_rfl) (by kernel_rfl) (by kernel_rfl) (fun _ _ _ h => h) (Or.inl ⟨by rfl, ?_⟩) (by assumption) ?_
                    rotate_left
                    · (intro w' hSw; (try dsimp only at hSw); go_simp; all_goals with_reducible rfl)
                    try simp only [Act.put, List.setIfInBounds_toArray, List.set_cons_zero, List.set_cons_succ]
                    refine wpAnyH_take' (i := 7) (v := ?_) rfl (by kernel_rfl) (by kernel_rfl) (by kernel_rfl) (fun _ _ _ h => h) (Or.inl ⟨by rfl, ?_⟩) (by assumption) ?_
                    rotate_left
                    · (intro w' hSw; (try dsimp only at hSw); go_simp; all_goals with_reducible rfl)
                    try simp only [Act.put, List.setIfInBounds_toArray, List.set_cons_zero, List.set_cons_succ]
                    refine wpAnyH_take' (i := 8) (v := ?_) rfl (by kernel_rfl) (by kernel_rfl) (by kernel_rfl) (fun _ _ _ h => h) (Or.inl ⟨by rfl, ?_⟩) (by assumption) ?_
                    rotate_left
                    · (intro w' hSw; (try dsimp only at hSw); go_simp; all_goals with_reducible rfl)
                    try simp only [Act.put, List.setIfInBounds_toArray, List.set_cons_zero, List.set_cons_succ]
                    refine wpAnyH_ready (rs := [9]) (by kernel_rfl) (by simp) ?_
                    refine allReadyH_cons' rfl (fun Kn hKn => ?_) AllReadyH.nil
                    go_simp
                    have HP := hid (show (v2.alloc (.cells #[.int .i64 0, .slice none 0 0] 31)).heap[v2.heap.size]? = some (.cells #[.int .i64 0, .slice none 0 0] 31 (0, 0)) from heap_alloc_new _ _)
                    have HV3 := hid (bstep HV2.out (by go_grown) : Below w12.heap.size w12 (v2.alloc (.cells #[.int .i64 0, .slice none 0 0] 31)))
                    have HOT3 := hid (OwnS.alloc HOT.out (.cells #[.int .i64 0, .slice none 0 0] 31))
                    have hptw : w12.heap.size ≤ v2.heap.size := HV2.out.size
                    have hne : ∀ q, Value.ownBlock (.slice aT T.length cT) = some q → q ≠ v2.heap.size := fun q e => by have := (OwnS.lt HOT.out q e).2; omega
                    refine hKn.out _ _ (KS.out _ HV3.out) (fun hHeldN => ?_)
                    clear hKn Kn hHeld
                    have hHeld := hHeldN
                    clear hHeldN
                    try simp only [Act.put, List.setIfInBounds_toArray, List.set_cons_zero, List.set_cons_succ]
                    generalize v2.alloc (.cells #[.int .i64 0, .slice none 0 0] 31) = v3 at *
                    obtain ⟨y0, y1⟩ := two_of HP.out
                    have f0 := frozen_of_row v3 (v2.heap.size) 0 _ _ HP.out
                    have f1 := frozen_of_row v3 (v2.heap.size) 1 _ _ HP.out
                    have hptz : v2.heap.size < v3.heap.size := (Array.getElem?_eq_some_iff.1 HP.out).1
                    refine wpAnyH_ready (rs := [10]) (by kernel_rfl) (by simp) ?_
                    refine allReadyH_cons' rfl (fun Kn hKn => ?_) AllReadyH.nil
                    go_simp
                    refine hKn.out _ _ (KS.out _ ((HV3.out.setCell hptw _).setCell hptw _)) (fun hHeldN => ?_)
                    clear hKn Kn hHeld
                    have hHeld := hHeldN
                    clear hHeldN
                    try simp only [Act.put, List.setIfInBounds_toArray, List.set_cons_zero, List.set_cons_succ]
                    refine wpAnyH_take' (i := 11) (v := ?_) rfl (by kernel_rfl) (by kernel_rfl) (by kernel_rfl) (fun _ _ _ h => h) (Or.inl ⟨by rfl, ?_⟩) (by assumption) ?_
                    rotate_left
                    · (intro w' hSw; (try dsimp only at hSw); go_simp; all_goals with_reducible rfl)
                    try simp only [Act.put, List.setIfInBounds_toArray, List.set_cons_zero, List.set_cons_succ]
                    refine wpAnyH_done (by kernel_rfl) ?_ _
                    refine NoPanic.normal ?_
                    clear hHeld
                    have e7 := heap_setCell_same _ _ 1 _ _ (.slice aT T.length cT) (heap_setCell_same _ _ 0 _ _ (.int .i64 M) HP.out)
                    simp only [List.setIfInBounds_toArray, List.set_cons_zero, List.set_cons_succ] at e7
                    have E7 := hid e7
                    clear e7 y0 y1 f0 f1
                    go_wp2_with fail
                    go_meet
                    exact ⟨_, _, _, rfl, rfl, hid ⟨E7.out, OwnS.kept (OwnS.kept (HOT3.out) (grown_setCell _ _ _ _) (or_ne (fun q e => hne q e))) (grown_setCell _ _ _ _) (or_ne (fun q e => hne q e)), (HV3.out.setCell hptw _).setCell hptw _⟩⟩
                  · go_simp
                    have HP0 := hid (show (w12.alloc (.cells #[.int .i64 0, .slice none 0 0] 31)).drew.heap[w12.heap.size]? = some (.cells #[.int .i64 0, .slice none 0 0] 31 (0, 0)) from heap_alloc_new _ _)
                    have HV1 := hid (by go_grown : Below w12.heap.size w12 (w12.alloc (.cells #[.int .i64 0, .slice none 0 0] 31)).drew)
                    have hz1 : w12.heap.size < ((w12.alloc (.cells #[.int .i64 0, .slice none 0 0] 31)).drew).heap.size := (show w12.heap.size < (w12.alloc (.cells #[.int .i64 0, .slice none 0 0] 31)).heap.size from by simp)
                    refine hKn.out _ _ (KS.out _ HV1.out) (fun hHeldN => ?_)
                    clear hKn Kn hHeld
                    have hHeld := hHeldN
                    clear hHeldN
                    try simp only [Act.put, List.setIfInBounds_toArray, List.set_cons_zero, List.set_cons_succ]
                    generalize (w12.alloc (.cells #[.int .i64 0, .slice none 0 0] 31)).drew = v1x at *
                    refine wpAnyH_ready (rs := [5]) (by kernel_rfl) (by simp) ?_
                    refine allReadyH_cons' rfl (fun Kn hKn => ?_) AllReadyH.nil
                    go_simp
                    go_at_call 26
                    refine (i_OpenedRing' M id _ _ _ L7 _ (OwnS.at qf_len (OwnS.below O_L7_12.out (HV1.out))) (by omega) M T true HOP.out).mono ?_
                    rintro e v2 ⟨aT, cT, rfl, hoT, hbT⟩
                    have HV2 := hid (bstep HV1.out hbT)
                    have HP := hid ((hbT.block _ hz1).trans HP0.out)
                    have hptw : w12.heap.size ≤ w12.heap.size := Nat.le_refl _
                    have hne : ∀ q, Value.ownBlock (.slice aT T.length cT) = some q → q ≠ w12.heap.size := fun q e => by have := (OwnS.lt hoT q e).1; omega
                    have HOT := hid (OwnS.mono hoT HV1.out.size)
                    clear hoT hbT
                    refine hKn.out _ _ (KS.out _ HV2.out) (fun hHeldN => ?_)
                    clear hKn Kn hHeld
                    have hHeld := hHeldN
                    clear hHeldN
                    try simp only [Act.put, List.setIfInBounds_toArray, List.set_cons_zero, List.set_cons_succ]
                    refine wpAnyH_take' (i := 6) (v := ?_) rfl (by kernel_rfl) (by kernel_rfl) (by kernel_rfl) (fun _ _ _ h => h) (Or.inl ⟨by rfl, ?_⟩) (by assumption) ?_
                    rotate_left
                    · (intro w' hSw; (try dsimp only at hSw); go_simp; all_goals with_reducible rfl)
                    try simp only [Act.put, List.setIfInBounds_toArray, List.set_cons_zero, List.set_cons_succ]
                    refine wpAnyH_take' (i := 7) (v := ?_) rfl (by kernel_rfl) (by kernel_rfl) (by kernel_rfl) (fun _ _ _ h => h) (Or.inl ⟨by rfl, ?_⟩) (by assumption) ?_
                    rotate_left
                    · (intro w' hSw; (try dsimp only at hSw); go_simp; all_goals with_reducible rfl)
                    try simp only [Act.put, List.setIfInBounds_toArray, List.set_cons_zero, List.set_cons_succ]
                    refine wpAnyH_take' (i := 8) (v := ?_) rfl (by kernel_rfl) (by kernel_rfl) (by kernel_rfl) (fun _ _ _ h => h) (Or.inl ⟨by rfl, ?_⟩) (by assumption) ?_
                    rotate_left
                    · (intro w' hSw; (try dsimp only at hSw); go_simp; all_goals with_reducible rfl)
                    try simp only [Act.put, List.setIfInBounds_toArray, List.set_cons_zero, List.set_cons_succ]
                    obtain ⟨y0, y1⟩ := two_of HP.out
                    have f0 := frozen_of_row v2 (w12.heap.size) 0 _ _ HP.out
                    have f1 := frozen_of_row v2 (w12.heap.size) 1 _ _ HP.out
                    have hptz : w12.heap.size < v2.heap.size := (Array.getElem?_eq_some_iff.1 HP.out).1
                    refine wpAnyH_ready (rs := [10]) (by kernel_rfl) (by simp) ?_
                    refine allReadyH_cons' rfl (fun Kn hKn => ?_) AllReadyH.nil
                    go_simp
                    refine hKn.out _ _ (KS.out _ ((HV2.out.setCell hptw _).setCell hptw _)) (fun hHeldN => ?_)
                    clear hKn Kn hHeld
                    have hHeld := hHeldN
                    clear hHeldN
                    try simp only [Act.put, List.setIfInBounds_toArray, List.set_cons_zero, List.set_cons_succ]
                    refine wpAnyH_take' (i := 11) (v := ?_) rfl (by kernel_rfl) (by kernel_rfl) (by kernel_rfl) (fun _ _ _ h => h) (Or.inl ⟨by rfl, ?_⟩) (by assumption) ?_
                    rotate_left
                    · (intro w' hSw; (try dsimp only at hSw); go_simp; all_goals with_reducible rfl)
                    try simp only [Act.put, List.setIfInBounds_toArray, List.set_cons_zero, List.set_cons_succ]
                    refine wpAnyH_done (by kernel_rfl) ?_ _
                    refine NoPanic.normal ?_
                    clear hHeld
                    have e7 := heap_setCell_same _ _ 1 _ _ (.slice aT T.length cT) (heap_setCell_same _ _ 0 _ _ (.int .i64 M) HP.out)
                    simp only [List.setIfInBounds_toArray, List.set_cons_zero, List.set_cons_succ] at e7
                    have E7 := hid e7
                    clear e7 y0 y1 f0 f1
                    go_wp2_with fail
                    go_meet
                    exact ⟨_, _, _, rfl, rfl, hid ⟨E7.out, OwnS.kept (OwnS.kept (HOT.out) (grown_setCell _ _ _ _) (or_ne (fun q e => hne q e))) (grown_setCell _ _ _ _) (or_ne (fun q e => hne q e)), (HV2.out.setCell hptw _).setCell hptw _⟩⟩
                case rest => as_aux_lemma =>
                  obtain ⟨pt, aT, cT, rfl, rfl, hcu⟩ := hcut
                  clear hci
                  obtain ⟨w13, hW13⟩ : ∃ W, W = wc := ⟨_, rfl⟩
                  subst hW13
                  have HB_13 := hid hcu.out.2.2
                  have B_13 := hid (bstep B_12.out HB_13.out)
                  have S_13 := HB_13.out.size
                  have T_13_1 := hid ((HB_13.out.block w1.heap.size (Array.getElem?_eq_some_iff.1 T_12_1.out).1).trans T_12_1.out)
                  have T_13_2 := hid ((HB_13.out.block w6.heap.size (Array.getElem?_eq_some_iff.1 T_12_2.out).1).trans T_12_2.out)
                  clear m_12_2_0 m_12_2_1 z_12_2
                  have m_13_2_0 : w13.cell? ⟨w6.heap.size, 0, none⟩ = some (.int .i64 M) := by rw [cell_of_row w13 _ _ _ _ (0, 0) T_13_2.out]; rfl
                  have m_13_2_1 : w13.cell? ⟨w6.heap.size, 1, none⟩ = some (.slice a7 m7 c7) := by rw [cell_of_row w13 _ _ _ _ (0, 0) T_13_2.out]; rfl
                  have z_13_2 : w6.heap.size < w13.heap.size := (Array.getElem?_eq_some_iff.1 T_13_2.out).1
                  obtain ⟨t0, t1⟩ := two_of hcu.out.1
                  have hzt := World.block_lt_of_cell? _ _ t0
                  have HTQ := hid hcu.out.2.1
                  clear hcu
                  have P9_13 := hid (P9_12.out.below HB_13.out)
                  have O_Q13_13 := hid (O_Q13_12.out.below HB_13.out)
                  go_wp2_with fail
                  refine (i_IsTreeNetwork M _ _ _ T _ (OwnS.at qf_len HTQ.out) (by omega) true true HTR.out).mono ?_
                  rintro e w14 ⟨rfl, hb⟩
                  have HB_14 := hid (bstep (by go_grown) hb : Below w13.heap.size w13 w14)
                  have B_14 := hid (bstep B_13.out HB_14.out)
                  have S_14 := HB_14.out.size
                  have T_14_1 := hid ((HB_14.out.block w1.heap.size (Array.getElem?_eq_some_iff.1 T_13_1.out).1).trans T_13_1.out)
                  have T_14_2 := hid ((HB_14.out.block w6.heap.size (Array.getElem?_eq_some_iff.1 T_13_2.out).1).trans T_13_2.out)
                  clear m_13_2_0 m_13_2_1 z_13_2
                  have m_14_2_0 : w14.cell? ⟨w6.heap.size, 0, none⟩ = some (.int .i64 M) := by rw [cell_of_row w14 _ _ _ _ (0, 0) T_14_2.out]; rfl
                  have m_14_2_1 : w14.cell? ⟨w6.heap.size, 1, none⟩ = some (.slice a7 m7 c7) := by rw [cell_of_row w14 _ _ _ _ (0, 0) T_14_2.out]; rfl
                  have z_14_2 : w6.heap.size < w14.heap.size := (Array.getElem?_eq_some_iff.1 T_14_2.out).1
                  clear hb
                  clear t0 t1 hzt
                  have P9_14 := hid (P9_13.out.below HB_14.out)
                  have O_Q13_14 := hid (O_Q13_13.out.below HB_14.out)
                  have hci := P9_14.out.cell (k := k) hlt
                  rw [HID.out] at hci
                  go_wp2_with fail
                  refine (l_vHas_is _ _ _ id Q _ (O_Q13_14.out.at.below (by go_grown)) (by omega) false (decide_eq_false HNM.out)).mono ?_
                  rintro e _ ⟨rfl, rfl⟩
                  clear hci
                  go_wp2
                  go_roundg (r - (k + 1))
                  case rel => exact ⟨k + 1, by omega, rfl, by go_num, hid (bstep hh.out (bstep HB_13.out HB_14.out))⟩
                  case measure => omega
              · obtain rfl : r = k := by omega
                go_wp2_with fail
                rw [← HRR.out, ← HYY.out]
                go_meet
                exact hid (bstep (bstep HB_10.out HB_11.out) hh.out)
        case rest => as_aux_lemma =>
          obtain ⟨w10, hW10⟩ : ∃ W, W = wc := ⟨_, rfl⟩
          subst hW10
          have HB_10 := hcut
          have B_10 := hid (bstep B_9.out HB_10.out)
          have S_10 := HB_10.out.size
          have T_10_1 := hid ((HB_10.out.block w1.heap.size (Array.getElem?_eq_some_iff.1 T_9_1.out).1).trans T_9_1.out)
          have T_10_2 := hid ((HB_10.out.block w6.heap.size (Array.getElem?_eq_some_iff.1 T_9_2.out).1).trans T_9_2.out)
          clear m_9_2_0 m_9_2_1 z_9_2
          have m_10_2_0 : w10.cell? ⟨w6.heap.size, 0, none⟩ = some (.int .i64 N7) := by rw [cell_of_row w10 _ _ _ _ (0, 0) T_10_2.out]; rfl
          have m_10_2_1 : w10.cell? ⟨w6.heap.size, 1, none⟩ = some (.slice a7 m7 c7) := by rw [cell_of_row w10 _ _ _ _ (0, 0) T_10_2.out]; rfl
          have z_10_2 : w6.heap.size < w10.heap.size := (Array.getElem?_eq_some_iff.1 T_10_2.out).1
          go_wp2
          go_ret
          exact ⟨rfl, B_10.out⟩

set_option maxRecDepth 100000 in
theorem fnRings_lifted (os : Os) (started : os.Started) (H : Type) (enc : TypeId × Value → H) :
    ReturnsInHanded {} Try.checked os 4 .any (Rows.fnRingsSpec.pre6 enc Try.prog Try.f4 Rows.fnRingsRow.domain false) (Rows.fnRingsSpec.post enc Try.prog Try.f4 false true false false) := by
  refine returnsInHanded_of_change (C := Try.checked) Try.own started (by kernel_rfl) Try.func4
    (ChangeSpec.witness6 (enc := enc) (C := Try.checked) false ⟨#[], #[.slice none 0 0], []⟩ 8 (by kernel_rfl) (by kernel_rfl) (by kernel_rfl) (by kernel_rfl)) ?_
  intro W base args ds gs before hval0 hW _ _
  have hval : ∀ (j : Nat) t v, Try.f4.params[j]? = some t → args[j]? = some v → Value.okWide Try.prog W .any base t v := hval0
  have hW' : DataW.Whole enc Try.prog Try.f4.params.toList Rows.fnRingsSpec.vars false W args.toList ds gs before := hW
  obtain ⟨p, q, hA0, hV, rfl, hfz, hnd⟩ := hW
  have hlt : ∀ x ∈ p, x.block < W.heap.size := fun x hx => hW'.lt x (by simp [hx])
  have hA : DataW.TrodAll enc Try.prog W 0 (fun _ => true) true Try.f4.params.toList args.toList ds p := hA0
  rw [Try.params4] at hA hval
  clear hA0 hval0
  obtain ⟨v0, d0, rfl, rfl, h0⟩ := trodAll_one hA
  obtain ⟨rfl, rfl⟩ := trodVars_none hV
  obtain ⟨x0, n0, k0, rfl, g0⟩ := open_bytes (hval 0 39 v0 rfl rfl) h0
  refine (law_FnRings x0 n0 k0 W g0).mono fun e W' ⟨he, hb⟩ => ?_
  subst he
  exact ⟨_, rfl, law_post rfl rfl (by kernel_rfl) hW' rfl rfl rfl hb⟩

theorem fnRings_proved : Rows.FnRingsSaid :=
  OpenClaim.holds_of_wide 4 Try.f4 rfl rfl rfl rfl rfl rfl rfl ⟨rfl, rfl, rfl, rfl, rfl⟩ rfl rfl rfl rfl rfl (by kernel_rfl) Try.func4 (by kernel_rfl)
    (of_decide_eq_true (by kernel_rfl)) (by unfold Func.isWrapper; first | (rw [if_pos (by decide +kernel)]; kernel_rfl) | (rw [if_neg (by decide +kernel)]; exact ⟨rfl, rfl⟩))
    (fun os started H enc _ => fnRings_lifted os started H enc)

end Go.Proofs.Ytikjighlnpdgiaa

