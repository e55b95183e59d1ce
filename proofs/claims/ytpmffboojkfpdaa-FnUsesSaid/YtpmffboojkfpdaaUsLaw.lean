/-
  The law FnUses returns true for every input, and leaves its argument as it was. No condition.
-/
import Derived.Deep.CutBlock
import Derived.Test.YtpmffboojkfpdaaUs2
import Derived.Test.YtpmffboojkfpdaaUs4
import Derived.Test.YtpmffboojkfpdaaUs6
import Derived.Test.YtpmffboojkfpdaaUs7
import Derived.Test.YtpmffboojkfpdaaUs9
import Derived.Test.YtpmffboojkfpdaaUs10
set_option linter.unusedVariables false
set_option linter.unusedSimpArgs false
namespace Go.Proofs.Ytpmffboojkfpdaa
open Go.ChangeShapes Go.WideShapes Go.ChangeAt Go.RowKit Go.Joins

set_option maxRecDepth 100000 in
set_option maxHeartbeats 16000000 in
theorem law_FnUses (a0 : Option Addr) (n0 c0 : Nat) (w : World) (h : BytesAt w a0 n0) :
    Calls Try.prog 9 #[.slice a0 n0 c0] w fun e w' => e = .returned (.bool true) ∧ Below w.heap.size w w' := by
  have H_code := hid h
  clear h
  by_cases hn : 65536 < n0
  · have hv : decide (65536 < n0) = true := by simpa using hn
    go_enter Try.func9, Try.ntmps9
    go_wp2_with fail
    refine (l_rBig _ _ _ _).mono ?_
    rintro e _ ⟨rfl, rfl⟩
    go_wp2
    go_ret
    exact ⟨rfl, Below.refl _ _⟩
  have hv : decide (65536 < n0) = false := by simpa using hn
  go_enter Try.func9, Try.ntmps9
  go_wp2_with fail
  refine (l_rBig _ _ _ _).mono ?_
  rintro e _ ⟨rfl, rfl⟩
  rw [hv]
  clear hn hv
  go_wp2_with fail
  refine (s_DrawVolumeBetween _ _ _ _ (H_code.out.below (by go_grown))).mono ?_
  rintro e w1 ⟨a, n, c, L, p, q, u, rfl, ⟨hq, hn1⟩, hb⟩
  have HB_1 := hid (bstep (by go_grown) hb : Below w.heap.size w w1)
  have B_1 := HB_1
  have S_1 := HB_1.out.size
  clear hb
  have O_L := hid hq
  clear hq
  obtain ⟨x1, y1, z1, hR⟩ : ∃ x1 y1 z1, volR L p q u = (x1, y1, z1) := ⟨_, _, _, rfl⟩
  have HR1 := hid hR
  clear hR
  go_wp2_with fail
  refine (i_VolumeBetween _ _ _ p q u L _ (O_L.out.below (by go_grown)) (by omega) x1 y1 z1 HR1.out).mono ?_
  rintro e w2 ⟨rfl, hb⟩
  have HB_2 := hid (bstep (by go_grown) hb : Below w1.heap.size w1 w2)
  have B_2 := hid (bstep B_1.out HB_2.out)
  have S_2 := HB_2.out.size
  have T_2_1 : Hid (w2.heap[w1.heap.size]? = some (.cells #[.slice a n c] 26 (0, 0))) := hid (by rw [hb.block _ (by simp <;> omega)]; exact heap_alloc_new _ _)
  have m_2_1_0 : w2.cell? ⟨w1.heap.size, 0, none⟩ = some (.slice a n c) := by rw [cell_of_row w2 _ _ _ _ (0, 0) T_2_1.out]; rfl
  have z_2_1 : w1.heap.size < w2.heap.size := (Array.getElem?_eq_some_iff.1 T_2_1.out).1
  clear hb
  have O_L_2 := hid (O_L.out.below HB_2.out)
  go_wp2_with fail
  refine (s_VolumeBetween _ _ _ p q u L _ (O_L_2.out.below (by go_grown)) (by omega) x1 y1 z1 HR1.out).mono ?_
  rintro e w3 ⟨rfl, hb⟩
  have HB_3 := hid (bstep (by go_grown) hb : Below w2.heap.size w2 w3)
  have B_3 := hid (bstep B_2.out HB_3.out)
  have S_3 := HB_3.out.size
  have T_3_1 := hid ((HB_3.out.block w1.heap.size (Array.getElem?_eq_some_iff.1 T_2_1.out).1).trans T_2_1.out)
  clear m_2_1_0 z_2_1
  have m_3_1_0 : w3.cell? ⟨w1.heap.size, 0, none⟩ = some (.slice a n c) := by rw [cell_of_row w3 _ _ _ _ (0, 0) T_3_1.out]; rfl
  have z_3_1 : w1.heap.size < w3.heap.size := (Array.getElem?_eq_some_iff.1 T_3_1.out).1
  clear hb
  have O_L_3 := hid (O_L_2.out.below HB_3.out)
  go_upto_region 6 with fail
  go_cut [85] (fun s85 wx => s85 = .bool false ∧ Hid (Below w3.heap.size w3 wx))
  case first => as_aux_lemma =>
    go_wp2_with fail
    go_meet
    exact ⟨rfl, hid (Below.refl _ _)⟩
  case rest => as_aux_lemma =>
    obtain ⟨rfl, hcu⟩ := hcut
    obtain ⟨w4, hW4⟩ : ∃ W, W = wc := ⟨_, rfl⟩
    subst hW4
    have HB_4 := hcu
    have B_4 := hid (bstep B_3.out HB_4.out)
    have S_4 := HB_4.out.size
    have T_4_1 := hid ((HB_4.out.block w1.heap.size (Array.getElem?_eq_some_iff.1 T_3_1.out).1).trans T_3_1.out)
    clear m_3_1_0 z_3_1
    have m_4_1_0 : w4.cell? ⟨w1.heap.size, 0, none⟩ = some (.slice a n c) := by rw [cell_of_row w4 _ _ _ _ (0, 0) T_4_1.out]; rfl
    have z_4_1 : w1.heap.size < w4.heap.size := (Array.getElem?_eq_some_iff.1 T_4_1.out).1
    clear hcu
    have O_L_4 := hid (O_L_3.out.below HB_4.out)
    go_upto_if 86 with (fail)
    go_cut [] (fun wx => Hid (Below w4.heap.size w4 wx))
    case first => as_aux_lemma =>
      cases z1
      · go_wp2_with fail
        go_meet
        exact hid (Below.refl _ _)
      · obtain ⟨r1, F, H, rfl, rfl, hF, hH, r2, r3, hv24, cc, dd, hv2, r4, r5, r6⟩ := vol_yes HR1.out
        have HV1 := hid hv24
        have HV2 := hid hv2
        have m1 := mul_in (x := x1) (y := dd) (A := 144000000000) (B := 100) (by omega) (by omega)
        have m2 := mul_in (x := cc) (y := y1) (A := 144000000000) (B := 100) (by omega) (by omega)
        have m3 := mul_in (x := 1440 * p) (y := y1) (A := 144000000) (B := 100) (by omega) (by omega)
        simp only [Int.reduceMul] at m1 m2 m3
        have m4 := mul_in (x := 1440 * p * y1) (y := dd) (A := 14400000000) (B := 100) (by omega) (by omega)
        simp only [Int.reduceMul] at m4
        have hw1 : IntKind.i64.wrap ((F : Int) + (H : Int)) = (F : Int) + (H : Int) := IntWalk.i64_in _ (by omega)
        have hw2 : ((F : Int) + (H : Int)).tmod 24 = (((F + H) % 24 : Nat) : Int) := by rw [Int.tmod_eq_emod_of_nonneg (by omega)]; omega
        have hw3 : IntKind.i64.wrap (24 - (H : Int)) = ((24 - H : Nat) : Int) := by rw [IntWalk.i64_in _ (by omega)]; omega
        have hw4 := IntWalk.i64_in (1440 * p) (by omega)
        have hw5 := IntWalk.i64_in (x1 * dd) (by omega)
        have hw6 := IntWalk.i64_in (cc * y1) (by omega)
        have hw7 := IntWalk.i64_in (x1 * dd + cc * y1) (by omega)
        have hw8 := IntWalk.i64_in (1440 * p * y1) (by omega)
        have hw9 := IntWalk.i64_in (1440 * p * y1 * dd) (by omega)
        have he : (x1 * dd + cc * y1 != 1440 * p * y1 * dd) = false := by simp [r6]
        clear hv24 hv2 r6
        go_wp2_with fail
        refine (i_VolumeBetween _ _ _ p _ _ L _ (O_L_4.out.below (by go_grown)) (by omega) _ _ _ HV1.out).mono ?_
        rintro e w5 ⟨rfl, hb⟩
        have HB_5 := hid (bstep (by go_grown) hb : Below w4.heap.size w4 w5)
        have B_5 := hid (bstep B_4.out HB_5.out)
        have S_5 := HB_5.out.size
        have T_5_1 := hid ((HB_5.out.block w1.heap.size (Array.getElem?_eq_some_iff.1 T_4_1.out).1).trans T_4_1.out)
        clear m_4_1_0 z_4_1
        have m_5_1_0 : w5.cell? ⟨w1.heap.size, 0, none⟩ = some (.slice a n c) := by rw [cell_of_row w5 _ _ _ _ (0, 0) T_5_1.out]; rfl
        have z_5_1 : w1.heap.size < w5.heap.size := (Array.getElem?_eq_some_iff.1 T_5_1.out).1
        clear hb
        have O_L_5 := hid (O_L_4.out.below HB_5.out)
        go_wp2_with fail
        refine (i_VolumeBetween _ _ _ p _ _ L _ (O_L_5.out.below (by go_grown)) (by omega) _ _ _ HV2.out).mono ?_
        rintro e w6 ⟨rfl, hb⟩
        have HB_6 := hid (bstep (by go_grown) hb : Below w5.heap.size w5 w6)
        have B_6 := hid (bstep B_5.out HB_6.out)
        have S_6 := HB_6.out.size
        have T_6_1 := hid ((HB_6.out.block w1.heap.size (Array.getElem?_eq_some_iff.1 T_5_1.out).1).trans T_5_1.out)
        clear m_5_1_0 z_5_1
        have m_6_1_0 : w6.cell? ⟨w1.heap.size, 0, none⟩ = some (.slice a n c) := by rw [cell_of_row w6 _ _ _ _ (0, 0) T_6_1.out]; rfl
        have z_6_1 : w1.heap.size < w6.heap.size := (Array.getElem?_eq_some_iff.1 T_6_1.out).1
        clear hb
        go_wp2_with fail
        go_meet
        exact hid (bstep HB_5.out HB_6.out)
    case rest => as_aux_lemma =>
      obtain ⟨w5, hW5⟩ : ∃ W, W = wc := ⟨_, rfl⟩
      subst hW5
      have HB_5 := hcut
      have B_5 := hid (bstep B_4.out HB_5.out)
      have S_5 := HB_5.out.size
      have T_5_1 := hid ((HB_5.out.block w1.heap.size (Array.getElem?_eq_some_iff.1 T_4_1.out).1).trans T_4_1.out)
      clear m_4_1_0 z_4_1
      have m_5_1_0 : w5.cell? ⟨w1.heap.size, 0, none⟩ = some (.slice a n c) := by rw [cell_of_row w5 _ _ _ _ (0, 0) T_5_1.out]; rfl
      have z_5_1 : w1.heap.size < w5.heap.size := (Array.getElem?_eq_some_iff.1 T_5_1.out).1
      go_wp2_with fail
      refine (s_DrawStorageFor _ _ _ _ ((H_code.out.below B_5.out).below (by go_grown))).mono ?_
      rintro e w6 ⟨a3, n3, c3, L3, q3, rfl, ⟨hq, hn3⟩, hb⟩
      have HB_6 := hid (bstep (by go_grown) hb : Below w5.heap.size w5 w6)
      have B_6 := hid (bstep B_5.out HB_6.out)
      have S_6 := HB_6.out.size
      have T_6_1 := hid ((HB_6.out.block w1.heap.size (Array.getElem?_eq_some_iff.1 T_5_1.out).1).trans T_5_1.out)
      clear m_5_1_0 z_5_1
      clear hb
      have O_L3 := hid hq
      clear hq
      obtain ⟨x3, y3, z3, hR⟩ : ∃ x3 y3 z3, stoR L3 q3 = (x3, y3, z3) := ⟨_, _, _, rfl⟩
      have HR3 := hid hR
      clear hR
      go_wp2_with fail
      refine (i_StorageFor _ _ _ q3 L3 _ (O_L3.out.below (by go_grown)) (by omega) x3 y3 z3 HR3.out).mono ?_
      rintro e w7 ⟨rfl, hb⟩
      have HB_7 := hid (bstep (by go_grown) hb : Below w6.heap.size w6 w7)
      have B_7 := hid (bstep B_6.out HB_7.out)
      have S_7 := HB_7.out.size
      have T_7_1 := hid ((HB_7.out.block w1.heap.size (Array.getElem?_eq_some_iff.1 T_6_1.out).1).trans T_6_1.out)
      have T_7_2 : Hid (w7.heap[w6.heap.size]? = some (.cells #[.slice a3 n3 c3] 26 (0, 0))) := hid (by rw [hb.block _ (by simp <;> omega)]; exact heap_alloc_new _ _)
      have m_7_2_0 : w7.cell? ⟨w6.heap.size, 0, none⟩ = some (.slice a3 n3 c3) := by rw [cell_of_row w7 _ _ _ _ (0, 0) T_7_2.out]; rfl
      have z_7_2 : w6.heap.size < w7.heap.size := (Array.getElem?_eq_some_iff.1 T_7_2.out).1
      clear hb
      have O_L3_7 := hid (O_L3.out.below HB_7.out)
      go_wp2_with fail
      refine (s_StorageFor _ _ _ q3 L3 _ (O_L3_7.out.below (by go_grown)) (by omega) x3 y3 z3 HR3.out).mono ?_
      rintro e w8 ⟨rfl, hb⟩
      have HB_8 := hid (bstep (by go_grown) hb : Below w7.heap.size w7 w8)
      have B_8 := hid (bstep B_7.out HB_8.out)
      have S_8 := HB_8.out.size
      have T_8_1 := hid ((HB_8.out.block w1.heap.size (Array.getElem?_eq_some_iff.1 T_7_1.out).1).trans T_7_1.out)
      have T_8_2 := hid ((HB_8.out.block w6.heap.size (Array.getElem?_eq_some_iff.1 T_7_2.out).1).trans T_7_2.out)
      clear m_7_2_0 z_7_2
      have m_8_2_0 : w8.cell? ⟨w6.heap.size, 0, none⟩ = some (.slice a3 n3 c3) := by rw [cell_of_row w8 _ _ _ _ (0, 0) T_8_2.out]; rfl
      have z_8_2 : w6.heap.size < w8.heap.size := (Array.getElem?_eq_some_iff.1 T_8_2.out).1
      clear hb
      go_upto_region 16 with fail
      go_cut [170] (fun s170 wx => s170 = .bool false ∧ Hid (Below w8.heap.size w8 wx))
      case first => as_aux_lemma =>
        go_wp2_with fail
        go_meet
        exact ⟨rfl, hid (Below.refl _ _)⟩
      case rest => as_aux_lemma =>
        obtain ⟨rfl, hcu⟩ := hcut
        obtain ⟨w9, hW9⟩ : ∃ W, W = wc := ⟨_, rfl⟩
        subst hW9
        have HB_9 := hcu
        have B_9 := hid (bstep B_8.out HB_9.out)
        have S_9 := HB_9.out.size
        have T_9_1 := hid ((HB_9.out.block w1.heap.size (Array.getElem?_eq_some_iff.1 T_8_1.out).1).trans T_8_1.out)
        have T_9_2 := hid ((HB_9.out.block w6.heap.size (Array.getElem?_eq_some_iff.1 T_8_2.out).1).trans T_8_2.out)
        clear m_8_2_0 z_8_2
        have m_9_2_0 : w9.cell? ⟨w6.heap.size, 0, none⟩ = some (.slice a3 n3 c3) := by rw [cell_of_row w9 _ _ _ _ (0, 0) T_9_2.out]; rfl
        have z_9_2 : w6.heap.size < w9.heap.size := (Array.getElem?_eq_some_iff.1 T_9_2.out).1
        clear hcu
        go_upto_if 171 with (fail)
        go_cut [] (fun wx => Hid (Below w9.heap.size w9 wx))
        case first => as_aux_lemma =>
          cases z3
          · go_wp2_with fail
            go_meet
            exact hid (Below.refl _ _)
          · obtain ⟨hx0, hs0⟩ := sto_yes HR3.out
            have HS0 := hid hs0
            clear hs0
            go_wp2_with fail
            refine (i_FlatProfile _).mono ?_
            rintro e w10 ⟨p12, k12, rfl, ho, hb⟩
            have HB_10 := hid (bstep (by go_grown) hb : Below w9.heap.size w9 w10)
            have B_10 := hid (bstep B_9.out HB_10.out)
            have S_10 := HB_10.out.size
            have T_10_1 := hid ((HB_10.out.block w1.heap.size (Array.getElem?_eq_some_iff.1 T_9_1.out).1).trans T_9_1.out)
            have T_10_2 := hid ((HB_10.out.block w6.heap.size (Array.getElem?_eq_some_iff.1 T_9_2.out).1).trans T_9_2.out)
            clear m_9_2_0 z_9_2
            have m_10_2_0 : w10.cell? ⟨w6.heap.size, 0, none⟩ = some (.slice a3 n3 c3) := by rw [cell_of_row w10 _ _ _ _ (0, 0) T_10_2.out]; rfl
            have z_10_2 : w6.heap.size < w10.heap.size := (Array.getElem?_eq_some_iff.1 T_10_2.out).1
            clear hb
            have O_F := hid ho
            clear ho
            go_wp2_with fail
            refine (i_StorageFor _ _ _ q3 (List.replicate 24 100) _ (O_F.out.at.below (by go_grown)) (by omega) 0 1 true HS0.out).mono ?_
            rintro e w11 ⟨rfl, hb⟩
            have HB_11 := hid (bstep (by go_grown) hb : Below w10.heap.size w10 w11)
            have B_11 := hid (bstep B_10.out HB_11.out)
            have S_11 := HB_11.out.size
            have T_11_1 := hid ((HB_11.out.block w1.heap.size (Array.getElem?_eq_some_iff.1 T_10_1.out).1).trans T_10_1.out)
            have T_11_2 := hid ((HB_11.out.block w6.heap.size (Array.getElem?_eq_some_iff.1 T_10_2.out).1).trans T_10_2.out)
            clear m_10_2_0 z_10_2
            have m_11_2_0 : w11.cell? ⟨w6.heap.size, 0, none⟩ = some (.slice a3 n3 c3) := by rw [cell_of_row w11 _ _ _ _ (0, 0) T_11_2.out]; rfl
            have z_11_2 : w6.heap.size < w11.heap.size := (Array.getElem?_eq_some_iff.1 T_11_2.out).1
            clear hb
            go_wp2_with fail
            go_meet
            exact hid (bstep HB_10.out HB_11.out)
        case rest => as_aux_lemma =>
          obtain ⟨w10, hW10⟩ : ∃ W, W = wc := ⟨_, rfl⟩
          subst hW10
          have HB_10 := hcut
          have B_10 := hid (bstep B_9.out HB_10.out)
          have S_10 := HB_10.out.size
          have T_10_1 := hid ((HB_10.out.block w1.heap.size (Array.getElem?_eq_some_iff.1 T_9_1.out).1).trans T_9_1.out)
          have T_10_2 := hid ((HB_10.out.block w6.heap.size (Array.getElem?_eq_some_iff.1 T_9_2.out).1).trans T_9_2.out)
          clear m_9_2_0 z_9_2
          have m_10_2_0 : w10.cell? ⟨w6.heap.size, 0, none⟩ = some (.slice a3 n3 c3) := by rw [cell_of_row w10 _ _ _ _ (0, 0) T_10_2.out]; rfl
          have z_10_2 : w6.heap.size < w10.heap.size := (Array.getElem?_eq_some_iff.1 T_10_2.out).1
          go_wp2_with fail
          refine (s_DrawMixProfiles _ _ _ _ ((H_code.out.below B_10.out).below (by go_grown))).mono ?_
          rintro e w11 ⟨a4, n4, c4, L4, a5, n5, c5, L5, q4, rfl, ⟨⟨hq, hn4⟩, hq5, hn5⟩, hb⟩
          have HB_11 := hid (bstep (by go_grown) hb : Below w10.heap.size w10 w11)
          have B_11 := hid (bstep B_10.out HB_11.out)
          have S_11 := HB_11.out.size
          have T_11_1 := hid ((HB_11.out.block w1.heap.size (Array.getElem?_eq_some_iff.1 T_10_1.out).1).trans T_10_1.out)
          have T_11_2 := hid ((HB_11.out.block w6.heap.size (Array.getElem?_eq_some_iff.1 T_10_2.out).1).trans T_10_2.out)
          clear m_10_2_0 z_10_2
          clear hb
          have O_L4 := hid hq
          clear hq
          have O_L5 := hid hq5
          clear hq5
          obtain ⟨R, B, hR⟩ : ∃ R B, mixR L4 L5 q4 = (R, B) := ⟨_, _, rfl⟩
          have HR4 := hid hR
          clear hR
          have hlr : R.length ≤ 24 := mixR_len HR4.out
          go_wp2_with fail
          refine (i_MixProfiles _ _ _ _ _ _ L4 L5 q4 _ (O_L4.out.below (by go_grown)) (O_L5.out.below (by go_grown)) (by omega) (by omega) R B HR4.out).mono ?_
          rintro e w12 ⟨p7, k7, rfl, ho, hb⟩
          have HB_12 := hid (bstep (by go_grown) hb : Below w11.heap.size w11 w12)
          have B_12 := hid (bstep B_11.out HB_12.out)
          have S_12 := HB_12.out.size
          have T_12_1 := hid ((HB_12.out.block w1.heap.size (Array.getElem?_eq_some_iff.1 T_11_1.out).1).trans T_11_1.out)
          have T_12_2 := hid ((HB_12.out.block w6.heap.size (Array.getElem?_eq_some_iff.1 T_11_2.out).1).trans T_11_2.out)
          have T_12_3 : Hid (w12.heap[w11.heap.size]? = some (.cells #[.slice a4 n4 c4] 26 (0, 0))) := hid (by rw [hb.block _ (by simp <;> omega)]; first | exact mid_new _ _ _ _ rfl | exact last_newP (World.alloc _ _) _ _ (by simp))
          have T_12_4 : Hid (w12.heap[(w11.heap.size + 1)]? = some (.cells #[.slice a5 n5 c5] 26 (0, 0))) := hid (by rw [hb.block _ (by simp <;> omega)]; first | exact mid_new _ _ _ _ rfl | exact last_newP (World.alloc _ _) _ _ (by simp))
          have m_12_3_0 : w12.cell? ⟨w11.heap.size, 0, none⟩ = some (.slice a4 n4 c4) := by rw [cell_of_row w12 _ _ _ _ (0, 0) T_12_3.out]; rfl
          have z_12_3 : w11.heap.size < w12.heap.size := (Array.getElem?_eq_some_iff.1 T_12_3.out).1
          have m_12_4_0 : w12.cell? ⟨(w11.heap.size + 1), 0, none⟩ = some (.slice a5 n5 c5) := by rw [cell_of_row w12 _ _ _ _ (0, 0) T_12_4.out]; rfl
          have z_12_4 : (w11.heap.size + 1) < w12.heap.size := (Array.getElem?_eq_some_iff.1 T_12_4.out).1
          clear hb
          have O_R7 := hid ho
          clear ho
          have O_L4_12 := hid (O_L4.out.below HB_12.out)
          have O_L5_12 := hid (O_L5.out.below HB_12.out)
          go_wp2_with fail
          refine (s_MixProfiles _ _ _ _ _ _ L4 L5 q4 _ (O_L4_12.out.below (by go_grown)) (O_L5_12.out.below (by go_grown)) (by omega) (by omega) R B HR4.out).mono ?_
          rintro e w13 ⟨p8, k8, rfl, ho, hb⟩
          have HB_13 := hid (bstep (by go_grown) hb : Below w12.heap.size w12 w13)
          have B_13 := hid (bstep B_12.out HB_13.out)
          have S_13 := HB_13.out.size
          have T_13_1 := hid ((HB_13.out.block w1.heap.size (Array.getElem?_eq_some_iff.1 T_12_1.out).1).trans T_12_1.out)
          have T_13_2 := hid ((HB_13.out.block w6.heap.size (Array.getElem?_eq_some_iff.1 T_12_2.out).1).trans T_12_2.out)
          have T_13_3 := hid ((HB_13.out.block w11.heap.size (Array.getElem?_eq_some_iff.1 T_12_3.out).1).trans T_12_3.out)
          have T_13_4 := hid ((HB_13.out.block (w11.heap.size + 1) (Array.getElem?_eq_some_iff.1 T_12_4.out).1).trans T_12_4.out)
          clear m_12_3_0 z_12_3 m_12_4_0 z_12_4
          have m_13_3_0 : w13.cell? ⟨w11.heap.size, 0, none⟩ = some (.slice a4 n4 c4) := by rw [cell_of_row w13 _ _ _ _ (0, 0) T_13_3.out]; rfl
          have z_13_3 : w11.heap.size < w13.heap.size := (Array.getElem?_eq_some_iff.1 T_13_3.out).1
          have m_13_4_0 : w13.cell? ⟨(w11.heap.size + 1), 0, none⟩ = some (.slice a5 n5 c5) := by rw [cell_of_row w13 _ _ _ _ (0, 0) T_13_4.out]; rfl
          have z_13_4 : (w11.heap.size + 1) < w13.heap.size := (Array.getElem?_eq_some_iff.1 T_13_4.out).1
          clear hb
          have O_R8 := hid ho
          clear ho
          have O_R7_13 := hid (O_R7.out.below HB_13.out)
          go_upto_region 25 with fail
          go_cut [217] (fun s217 wx => s217 = .bool false ∧ Hid (Below w13.heap.size w13 wx))
          case first => as_aux_lemma =>
            go_wp2_with fail
            refine (l_rInts_same _ _ _ _ _ R _ (O_R7_13.out.at.below (by go_grown)) (O_R8.out.at.below (by go_grown)) (by omega)).mono ?_
            rintro e w14 ⟨rfl, hb⟩
            have HB_14 := hid (bstep (by go_grown) hb : Below w13.heap.size w13 w14)
            have B_14 := hid (bstep B_13.out HB_14.out)
            have S_14 := HB_14.out.size
            have T_14_1 := hid ((HB_14.out.block w1.heap.size (Array.getElem?_eq_some_iff.1 T_13_1.out).1).trans T_13_1.out)
            have T_14_2 := hid ((HB_14.out.block w6.heap.size (Array.getElem?_eq_some_iff.1 T_13_2.out).1).trans T_13_2.out)
            have T_14_3 := hid ((HB_14.out.block w11.heap.size (Array.getElem?_eq_some_iff.1 T_13_3.out).1).trans T_13_3.out)
            have T_14_4 := hid ((HB_14.out.block (w11.heap.size + 1) (Array.getElem?_eq_some_iff.1 T_13_4.out).1).trans T_13_4.out)
            clear m_13_3_0 z_13_3 m_13_4_0 z_13_4
            have m_14_3_0 : w14.cell? ⟨w11.heap.size, 0, none⟩ = some (.slice a4 n4 c4) := by rw [cell_of_row w14 _ _ _ _ (0, 0) T_14_3.out]; rfl
            have z_14_3 : w11.heap.size < w14.heap.size := (Array.getElem?_eq_some_iff.1 T_14_3.out).1
            have m_14_4_0 : w14.cell? ⟨(w11.heap.size + 1), 0, none⟩ = some (.slice a5 n5 c5) := by rw [cell_of_row w14 _ _ _ _ (0, 0) T_14_4.out]; rfl
            have z_14_4 : (w11.heap.size + 1) < w14.heap.size := (Array.getElem?_eq_some_iff.1 T_14_4.out).1
            clear hb
            go_wp2_with fail
            go_meet
            exact ⟨rfl, hid HB_14.out⟩
          case rest => as_aux_lemma =>
            obtain ⟨rfl, hcu⟩ := hcut
            obtain ⟨w14, hW14⟩ : ∃ W, W = wc := ⟨_, rfl⟩
            subst hW14
            have HB_14 := hcu
            have B_14 := hid (bstep B_13.out HB_14.out)
            have S_14 := HB_14.out.size
            have T_14_1 := hid ((HB_14.out.block w1.heap.size (Array.getElem?_eq_some_iff.1 T_13_1.out).1).trans T_13_1.out)
            have T_14_2 := hid ((HB_14.out.block w6.heap.size (Array.getElem?_eq_some_iff.1 T_13_2.out).1).trans T_13_2.out)
            have T_14_3 := hid ((HB_14.out.block w11.heap.size (Array.getElem?_eq_some_iff.1 T_13_3.out).1).trans T_13_3.out)
            have T_14_4 := hid ((HB_14.out.block (w11.heap.size + 1) (Array.getElem?_eq_some_iff.1 T_13_4.out).1).trans T_13_4.out)
            clear m_13_3_0 z_13_3 m_13_4_0 z_13_4
            have m_14_3_0 : w14.cell? ⟨w11.heap.size, 0, none⟩ = some (.slice a4 n4 c4) := by rw [cell_of_row w14 _ _ _ _ (0, 0) T_14_3.out]; rfl
            have z_14_3 : w11.heap.size < w14.heap.size := (Array.getElem?_eq_some_iff.1 T_14_3.out).1
            have m_14_4_0 : w14.cell? ⟨(w11.heap.size + 1), 0, none⟩ = some (.slice a5 n5 c5) := by rw [cell_of_row w14 _ _ _ _ (0, 0) T_14_4.out]; rfl
            have z_14_4 : (w11.heap.size + 1) < w14.heap.size := (Array.getElem?_eq_some_iff.1 T_14_4.out).1
            clear hcu
            have O_R7_14 := hid (O_R7_13.out.below HB_14.out)
            go_upto_region 27 with fail
            go_cut [223] (fun s223 wx => s223 = .bool false ∧ Hid (Below w14.heap.size w14 wx))
            case first => as_aux_lemma =>
              cases B
              · go_wp2_with fail
                go_meet
                exact ⟨rfl, hid (Below.refl _ _)⟩
              · obtain ⟨hsum, hval⟩ := mix_sum HR4.out
                have HSUM := hid hsum
                have HVAL := hid hval
                clear hsum hval
                go_wp2_with fail
                refine (l_rSum _ _ _ R _ (O_R7_14.out.at.below (by go_grown)) (by omega) (fun x hx => by have := HVAL.out x hx; omega)).mono ?_
                rintro e _ ⟨rfl, rfl⟩
                rw [HSUM.out]
                go_wp2_with fail
                go_meet
                exact ⟨rfl, hid (Below.refl _ _)⟩
            case rest => as_aux_lemma =>
              obtain ⟨rfl, hcu⟩ := hcut
              obtain ⟨w15, hW15⟩ : ∃ W, W = wc := ⟨_, rfl⟩
              subst hW15
              have HB_15 := hcu
              have B_15 := hid (bstep B_14.out HB_15.out)
              have S_15 := HB_15.out.size
              have T_15_1 := hid ((HB_15.out.block w1.heap.size (Array.getElem?_eq_some_iff.1 T_14_1.out).1).trans T_14_1.out)
              have T_15_2 := hid ((HB_15.out.block w6.heap.size (Array.getElem?_eq_some_iff.1 T_14_2.out).1).trans T_14_2.out)
              have T_15_3 := hid ((HB_15.out.block w11.heap.size (Array.getElem?_eq_some_iff.1 T_14_3.out).1).trans T_14_3.out)
              have T_15_4 := hid ((HB_15.out.block (w11.heap.size + 1) (Array.getElem?_eq_some_iff.1 T_14_4.out).1).trans T_14_4.out)
              clear m_14_3_0 z_14_3 m_14_4_0 z_14_4
              have m_15_3_0 : w15.cell? ⟨w11.heap.size, 0, none⟩ = some (.slice a4 n4 c4) := by rw [cell_of_row w15 _ _ _ _ (0, 0) T_15_3.out]; rfl
              have z_15_3 : w11.heap.size < w15.heap.size := (Array.getElem?_eq_some_iff.1 T_15_3.out).1
              have m_15_4_0 : w15.cell? ⟨(w11.heap.size + 1), 0, none⟩ = some (.slice a5 n5 c5) := by rw [cell_of_row w15 _ _ _ _ (0, 0) T_15_4.out]; rfl
              have z_15_4 : (w11.heap.size + 1) < w15.heap.size := (Array.getElem?_eq_some_iff.1 T_15_4.out).1
              clear hcu
              go_wp2_with fail
              refine (s_DrawUseAt _ _ _ _ ((H_code.out.below B_15.out).below (by go_grown))).mono ?_
              rintro e w16 ⟨a6, n6, c6, L6, p6, q6, rfl, ⟨hq, hn6⟩, hb⟩
              have HB_16 := hid (bstep (by go_grown) hb : Below w15.heap.size w15 w16)
              have B_16 := hid (bstep B_15.out HB_16.out)
              have S_16 := HB_16.out.size
              have T_16_1 := hid ((HB_16.out.block w1.heap.size (Array.getElem?_eq_some_iff.1 T_15_1.out).1).trans T_15_1.out)
              have T_16_2 := hid ((HB_16.out.block w6.heap.size (Array.getElem?_eq_some_iff.1 T_15_2.out).1).trans T_15_2.out)
              have T_16_3 := hid ((HB_16.out.block w11.heap.size (Array.getElem?_eq_some_iff.1 T_15_3.out).1).trans T_15_3.out)
              have T_16_4 := hid ((HB_16.out.block (w11.heap.size + 1) (Array.getElem?_eq_some_iff.1 T_15_4.out).1).trans T_15_4.out)
              clear m_15_3_0 z_15_3 m_15_4_0 z_15_4
              clear hb
              have O_L6 := hid hq
              clear hq
              obtain ⟨x6, y6, z6, hR⟩ : ∃ x6 y6 z6, useR L6 p6 q6 = (x6, y6, z6) := ⟨_, _, _, rfl⟩
              have HR6 := hid hR
              clear hR
              go_wp2_with fail
              refine (i_UseAt _ _ _ p6 q6 L6 _ (O_L6.out.below (by go_grown)) (by omega) x6 y6 z6 HR6.out).mono ?_
              rintro e w17 ⟨rfl, hb⟩
              have HB_17 := hid (bstep (by go_grown) hb : Below w16.heap.size w16 w17)
              have B_17 := hid (bstep B_16.out HB_17.out)
              have S_17 := HB_17.out.size
              have T_17_1 := hid ((HB_17.out.block w1.heap.size (Array.getElem?_eq_some_iff.1 T_16_1.out).1).trans T_16_1.out)
              have T_17_2 := hid ((HB_17.out.block w6.heap.size (Array.getElem?_eq_some_iff.1 T_16_2.out).1).trans T_16_2.out)
              have T_17_3 := hid ((HB_17.out.block w11.heap.size (Array.getElem?_eq_some_iff.1 T_16_3.out).1).trans T_16_3.out)
              have T_17_4 := hid ((HB_17.out.block (w11.heap.size + 1) (Array.getElem?_eq_some_iff.1 T_16_4.out).1).trans T_16_4.out)
              have T_17_5 : Hid (w17.heap[w16.heap.size]? = some (.cells #[.slice a6 n6 c6] 26 (0, 0))) := hid (by rw [hb.block _ (by simp <;> omega)]; exact heap_alloc_new _ _)
              have m_17_5_0 : w17.cell? ⟨w16.heap.size, 0, none⟩ = some (.slice a6 n6 c6) := by rw [cell_of_row w17 _ _ _ _ (0, 0) T_17_5.out]; rfl
              have z_17_5 : w16.heap.size < w17.heap.size := (Array.getElem?_eq_some_iff.1 T_17_5.out).1
              clear hb
              have O_L6_17 := hid (O_L6.out.below HB_17.out)
              go_wp2_with fail
              refine (s_UseAt _ _ _ p6 q6 L6 _ (O_L6_17.out.below (by go_grown)) (by omega) x6 y6 z6 HR6.out).mono ?_
              rintro e w18 ⟨rfl, hb⟩
              have HB_18 := hid (bstep (by go_grown) hb : Below w17.heap.size w17 w18)
              have B_18 := hid (bstep B_17.out HB_18.out)
              have S_18 := HB_18.out.size
              have T_18_1 := hid ((HB_18.out.block w1.heap.size (Array.getElem?_eq_some_iff.1 T_17_1.out).1).trans T_17_1.out)
              have T_18_2 := hid ((HB_18.out.block w6.heap.size (Array.getElem?_eq_some_iff.1 T_17_2.out).1).trans T_17_2.out)
              have T_18_3 := hid ((HB_18.out.block w11.heap.size (Array.getElem?_eq_some_iff.1 T_17_3.out).1).trans T_17_3.out)
              have T_18_4 := hid ((HB_18.out.block (w11.heap.size + 1) (Array.getElem?_eq_some_iff.1 T_17_4.out).1).trans T_17_4.out)
              have T_18_5 := hid ((HB_18.out.block w16.heap.size (Array.getElem?_eq_some_iff.1 T_17_5.out).1).trans T_17_5.out)
              clear m_17_5_0 z_17_5
              have m_18_5_0 : w18.cell? ⟨w16.heap.size, 0, none⟩ = some (.slice a6 n6 c6) := by rw [cell_of_row w18 _ _ _ _ (0, 0) T_18_5.out]; rfl
              have z_18_5 : w16.heap.size < w18.heap.size := (Array.getElem?_eq_some_iff.1 T_18_5.out).1
              clear hb
              go_wp2
              go_ret
              exact ⟨rfl, B_18.out⟩

set_option maxRecDepth 100000 in
theorem fnUses_lifted (os : Os) (started : os.Started) (H : Type) (enc : TypeId × Value → H) :
    ReturnsInHanded {} Try.checked os 9 .any (Rows.fnUsesSpec.pre6 enc Try.prog Try.f9 Rows.fnUsesRow.domain false) (Rows.fnUsesSpec.post enc Try.prog Try.f9 false true false false) := by
  refine returnsInHanded_of_change (C := Try.checked) Try.own started (by kernel_rfl) Try.func9
    (ChangeSpec.witness6 (enc := enc) (C := Try.checked) false ⟨#[], #[.slice none 0 0], []⟩ 8 (by kernel_rfl) (by kernel_rfl) (by kernel_rfl) (by kernel_rfl)) ?_
  intro W base args ds gs before hval0 hW _ _
  have hval : ∀ (j : Nat) t v, Try.f9.params[j]? = some t → args[j]? = some v → Value.okWide Try.prog W .any base t v := hval0
  have hW' : DataW.Whole enc Try.prog Try.f9.params.toList Rows.fnUsesSpec.vars false W args.toList ds gs before := hW
  obtain ⟨p, q, hA0, hV, rfl, hfz, hnd⟩ := hW
  have hlt : ∀ x ∈ p, x.block < W.heap.size := fun x hx => hW'.lt x (by simp [hx])
  have hA : DataW.TrodAll enc Try.prog W 0 (fun _ => true) true Try.f9.params.toList args.toList ds p := hA0
  rw [Try.params9] at hA hval
  clear hA0 hval0
  obtain ⟨v0, d0, rfl, rfl, h0⟩ := trodAll_one hA
  obtain ⟨rfl, rfl⟩ := trodVars_none hV
  obtain ⟨x0, n0, k0, rfl, g0⟩ := open_bytes (hval 0 39 v0 rfl rfl) h0
  refine (law_FnUses x0 n0 k0 W g0).mono fun e W' ⟨he, hb⟩ => ?_
  subst he
  exact ⟨_, rfl, law_post rfl rfl (by kernel_rfl) hW' rfl rfl rfl hb⟩

theorem fnUses_proved : Rows.FnUsesSaid :=
  OpenClaim.holds_of_wide 9 Try.f9 rfl rfl rfl rfl rfl rfl rfl ⟨rfl, rfl, rfl, rfl, rfl⟩ rfl rfl rfl rfl rfl (by kernel_rfl) Try.func9 (by kernel_rfl)
    (of_decide_eq_true (by kernel_rfl)) (by unfold Func.isWrapper; first | (rw [if_pos (by decide +kernel)]; kernel_rfl) | (rw [if_neg (by decide +kernel)]; exact ⟨rfl, rfl⟩))
    (fun os started H enc _ => fnUses_lifted os started H enc)

end Go.Proofs.Ytpmffboojkfpdaa

