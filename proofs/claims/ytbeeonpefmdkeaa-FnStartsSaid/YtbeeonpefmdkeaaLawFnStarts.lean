/-
  The law FnStarts returns true for every input, and leaves its argument as it was. No condition.
-/
import Derived.Test.YtbeeonpefmdkeaaCurT2
import Derived.Test.YtbeeonpefmdkeaaCurT3
import Derived.Test.YtbeeonpefmdkeaaTankQ
import Derived.Test.YtbeeonpefmdkeaaLiftB
import Derived.Test.YtbeeonpefmdkeaaLiftTank
import Derived.Test.YtbeeonpefmdkeaaCalm
set_option linter.unusedVariables false
set_option linter.unusedSimpArgs false
namespace Go.Proofs.Ytbeeonpefmdkeaa
open Go.ChangeShapes Go.WideShapes Go.ChangeAt Go.RowKit Go.Joins

set_option maxRecDepth 100000 in
set_option maxHeartbeats 8000000 in
theorem law_FnStarts (a : Option Addr) (n c : Nat) (w : World) (h : BytesAt w a n) :
    Calls Try.prog 13 #[.slice a n c] w fun e w' => e = .returned (.bool true) ∧ Below w.heap.size w w' := by
  have H_code := hid h
  clear h
  by_cases hn : 65536 < n
  · have hv : decide (65536 < n) = true := by simpa using hn
    go_enter Try.func13, Try.ntmps13
    go_wp2_with fail
    refine (l_vBig _ _ _ _).mono ?_
    rintro e _ ⟨rfl, rfl⟩
    go_wp2
    go_ret
    exact ⟨rfl, Below.refl _ _⟩
  have hv : decide (65536 < n) = false := by simpa using hn
  go_enter Try.func13, Try.ntmps13
  go_wp2_with fail
  refine (l_vBig _ _ _ _).mono ?_
  rintro e _ ⟨rfl, rfl⟩
  rw [hv]
  go_wp2_with fail
  refine (s_DrawLeastStart _ _ _ _ (H_code.out.below (by go_grown))).mono ?_
  rintro e w1 ⟨x, y, z, p, q, n, m, c, d, ins, outs, rfl, hi, ho, hn, hm, hb⟩
  have HB_1 := hid (bstep (by go_grown) hb : Below w.heap.size w w1)
  have B_1 := HB_1
  have S_1 := HB_1.out.size
  clear hb
  have O_ins := hid hi
  clear hi
  have O_outs := hid ho
  clear ho
  have hln := O_ins.out.len
  have hlm := O_outs.out.len
  obtain ⟨v, k1, hli, hls, hlf⟩ := least_both x y z p q n m c d ins outs (by omega) (by omega) hln hlm
  obtain ⟨u, k2, hsi, hss, hsf⟩ := steady_both x y z p q n m c d ins outs (by omega) (by omega) hln hlm
  have HLN := hid hln
  have HLI := hid hli
  have HLS := hid hls
  have HLF := hid hlf
  have HSI := hid hsi
  have HSS := hid hss
  have HSF := hid hsf
  clear hln hlm hli hls hlf hsi hss hsf
  go_wp2_with fail
  refine (HLI.out _ (O_ins.out.at.below (by go_grown)) (O_outs.out.at.below (by go_grown))).mono ?_
  rintro e w2 ⟨rfl, hb⟩
  have HB_2 := hid (bstep (by go_grown) hb : Below w1.heap.size w1 w2)
  have B_2 := hid (bstep B_1.out HB_2.out)
  have S_2 := HB_2.out.size
  have T_2_1 : Hid (w2.heap[w1.heap.size]? = some (.cells #[.int .i64 x, .int .i64 y, .int .i64 z] 25 (0, 0))) := hid (by rw [hb.block _ (by simp <;> omega)]; exact heap_alloc_new _ _)
  have m_2_1_0 : w2.cell? ⟨w1.heap.size, 0, none⟩ = some (.int .i64 x) := by rw [cell_of_row w2 _ _ _ _ (0, 0) T_2_1.out]; rfl
  have m_2_1_1 : w2.cell? ⟨w1.heap.size, 1, none⟩ = some (.int .i64 y) := by rw [cell_of_row w2 _ _ _ _ (0, 0) T_2_1.out]; rfl
  have m_2_1_2 : w2.cell? ⟨w1.heap.size, 2, none⟩ = some (.int .i64 z) := by rw [cell_of_row w2 _ _ _ _ (0, 0) T_2_1.out]; rfl
  have z_2_1 : w1.heap.size < w2.heap.size := (Array.getElem?_eq_some_iff.1 T_2_1.out).1
  clear hb
  have O_ins_2 := hid (O_ins.out.below HB_2.out)
  have O_outs_2 := hid (O_outs.out.below HB_2.out)
  go_wp2_with fail
  refine (HLS.out _ (O_ins_2.out.at.below (by go_grown)) (O_outs_2.out.at.below (by go_grown))).mono ?_
  rintro e w3 ⟨rfl, hb⟩
  have HB_3 := hid (bstep (by go_grown) hb : Below w2.heap.size w2 w3)
  have B_3 := hid (bstep B_2.out HB_3.out)
  have S_3 := HB_3.out.size
  have T_3_1 := hid ((HB_3.out.block w1.heap.size (Array.getElem?_eq_some_iff.1 T_2_1.out).1).trans T_2_1.out)
  clear m_2_1_0 m_2_1_1 m_2_1_2 z_2_1
  have m_3_1_0 : w3.cell? ⟨w1.heap.size, 0, none⟩ = some (.int .i64 x) := by rw [cell_of_row w3 _ _ _ _ (0, 0) T_3_1.out]; rfl
  have m_3_1_1 : w3.cell? ⟨w1.heap.size, 1, none⟩ = some (.int .i64 y) := by rw [cell_of_row w3 _ _ _ _ (0, 0) T_3_1.out]; rfl
  have m_3_1_2 : w3.cell? ⟨w1.heap.size, 2, none⟩ = some (.int .i64 z) := by rw [cell_of_row w3 _ _ _ _ (0, 0) T_3_1.out]; rfl
  have z_3_1 : w1.heap.size < w3.heap.size := (Array.getElem?_eq_some_iff.1 T_3_1.out).1
  clear hb
  go_upto_if 69 with (fail)
  go_cut [] from 39 (fun wx => Hid (Below w3.heap.size w3 wx))
  case first =>
    cases k1
    · go_wp2_with fail
      go_meet
      exact hid (Below.refl _ _)
    · obtain ⟨hmn, hgd, hvb, hs0, hs1⟩ := HLF.out rfl
      obtain rfl : n = m := hmn.symm
      have hgt := goodTank_iff.1 (goodDay_iff.1 hgd).1
      have HR1 := hid (fun W h1 h2 => i_RunTank_yes v y z p q n c d ins outs W h1 h2 (goodDay_lv hgd hvb.1 hvb.2))
      rw [hs0] at HR1
      by_cases hv9 : y < v
      · obtain ⟨S, hS⟩ : ∃ S, (missOf y z (v - 1) ins outs n).sum = S := ⟨_, rfl⟩
        have HR2 := hid (fun W h1 h2 => i_RunTank_yes (v - 1) y z p q n c d ins outs W h1 h2 (goodDay_lv hgd (by omega) (by omega)))
        have hS0 := hs1 hv9
        rw [hS] at HR2 hS0
        have hS1 : (S == 0) = false := by simpa using hS0
        have hwv := IntWalk.i64_in (v - 1) (by omega)
        clear hS hgd hs0 hs1 hmn
        have O_ins_3 := hid (O_ins_2.out.below HB_3.out)
        have O_outs_3 := hid (O_outs_2.out.below HB_3.out)
        go_wp2_with fail
        refine (HR1.out _ (O_ins_3.out.at.below (by go_grown)) (O_outs_3.out.at.below (by go_grown))).mono ?_
        rintro e w4 ⟨a1, c1, rfl, hb, ho1⟩
        have HB_4 := hid (bstep (by go_grown) hb : Below w3.heap.size w3 w4)
        have B_4 := hid (bstep B_3.out HB_4.out)
        have S_4 := HB_4.out.size
        have T_4_1 := hid ((HB_4.out.block w1.heap.size (Array.getElem?_eq_some_iff.1 T_3_1.out).1).trans T_3_1.out)
        clear m_3_1_0 m_3_1_1 m_3_1_2 z_3_1
        have m_4_1_0 : w4.cell? ⟨w1.heap.size, 0, none⟩ = some (.int .i64 x) := by rw [cell_of_row w4 _ _ _ _ (0, 0) T_4_1.out]; rfl
        have m_4_1_1 : w4.cell? ⟨w1.heap.size, 1, none⟩ = some (.int .i64 y) := by rw [cell_of_row w4 _ _ _ _ (0, 0) T_4_1.out]; rfl
        have m_4_1_2 : w4.cell? ⟨w1.heap.size, 2, none⟩ = some (.int .i64 z) := by rw [cell_of_row w4 _ _ _ _ (0, 0) T_4_1.out]; rfl
        have z_4_1 : w1.heap.size < w4.heap.size := (Array.getElem?_eq_some_iff.1 T_4_1.out).1
        clear hb
        clear ho1
        have O_ins_4 := hid (O_ins_3.out.below HB_4.out)
        have O_outs_4 := hid (O_outs_3.out.below HB_4.out)
        go_wp2_with fail
        refine (HR2.out _ (O_ins_4.out.at.below (by go_grown)) (O_outs_4.out.at.below (by go_grown))).mono ?_
        rintro e w5 ⟨a2, c2, rfl, hb, ho2⟩
        have HB_5 := hid (bstep (by go_grown) hb : Below w4.heap.size w4 w5)
        have B_5 := hid (bstep B_4.out HB_5.out)
        have S_5 := HB_5.out.size
        have T_5_1 := hid ((HB_5.out.block w1.heap.size (Array.getElem?_eq_some_iff.1 T_4_1.out).1).trans T_4_1.out)
        clear m_4_1_0 m_4_1_1 m_4_1_2 z_4_1
        have m_5_1_0 : w5.cell? ⟨w1.heap.size, 0, none⟩ = some (.int .i64 x) := by rw [cell_of_row w5 _ _ _ _ (0, 0) T_5_1.out]; rfl
        have m_5_1_1 : w5.cell? ⟨w1.heap.size, 1, none⟩ = some (.int .i64 y) := by rw [cell_of_row w5 _ _ _ _ (0, 0) T_5_1.out]; rfl
        have m_5_1_2 : w5.cell? ⟨w1.heap.size, 2, none⟩ = some (.int .i64 z) := by rw [cell_of_row w5 _ _ _ _ (0, 0) T_5_1.out]; rfl
        have z_5_1 : w1.heap.size < w5.heap.size := (Array.getElem?_eq_some_iff.1 T_5_1.out).1
        clear hb
        clear ho2
        go_wp2_with fail
        go_meet
        exact hid (bstep HB_4.out HB_5.out)
      · clear hgd hs0 hs1 hmn
        have O_ins_3 := hid (O_ins_2.out.below HB_3.out)
        have O_outs_3 := hid (O_outs_2.out.below HB_3.out)
        go_wp2_with fail
        refine (HR1.out _ (O_ins_3.out.at.below (by go_grown)) (O_outs_3.out.at.below (by go_grown))).mono ?_
        rintro e w4 ⟨a1, c1, rfl, hb, ho1⟩
        have HB_4 := hid (bstep (by go_grown) hb : Below w3.heap.size w3 w4)
        have B_4 := hid (bstep B_3.out HB_4.out)
        have S_4 := HB_4.out.size
        have T_4_1 := hid ((HB_4.out.block w1.heap.size (Array.getElem?_eq_some_iff.1 T_3_1.out).1).trans T_3_1.out)
        clear m_3_1_0 m_3_1_1 m_3_1_2 z_3_1
        have m_4_1_0 : w4.cell? ⟨w1.heap.size, 0, none⟩ = some (.int .i64 x) := by rw [cell_of_row w4 _ _ _ _ (0, 0) T_4_1.out]; rfl
        have m_4_1_1 : w4.cell? ⟨w1.heap.size, 1, none⟩ = some (.int .i64 y) := by rw [cell_of_row w4 _ _ _ _ (0, 0) T_4_1.out]; rfl
        have m_4_1_2 : w4.cell? ⟨w1.heap.size, 2, none⟩ = some (.int .i64 z) := by rw [cell_of_row w4 _ _ _ _ (0, 0) T_4_1.out]; rfl
        have z_4_1 : w1.heap.size < w4.heap.size := (Array.getElem?_eq_some_iff.1 T_4_1.out).1
        clear hb
        clear ho1
        go_wp2_with fail
        go_meet
        exact hid HB_4.out
  case rest =>
    obtain ⟨w4, hW4⟩ : ∃ W, W = wc := ⟨_, rfl⟩
    subst hW4
    have HB_4 := hcut
    have B_4 := hid (bstep B_3.out HB_4.out)
    have S_4 := HB_4.out.size
    have T_4_1 := hid ((HB_4.out.block w1.heap.size (Array.getElem?_eq_some_iff.1 T_3_1.out).1).trans T_3_1.out)
    clear m_3_1_0 m_3_1_1 m_3_1_2 z_3_1
    have m_4_1_0 : w4.cell? ⟨w1.heap.size, 0, none⟩ = some (.int .i64 x) := by rw [cell_of_row w4 _ _ _ _ (0, 0) T_4_1.out]; rfl
    have m_4_1_1 : w4.cell? ⟨w1.heap.size, 1, none⟩ = some (.int .i64 y) := by rw [cell_of_row w4 _ _ _ _ (0, 0) T_4_1.out]; rfl
    have m_4_1_2 : w4.cell? ⟨w1.heap.size, 2, none⟩ = some (.int .i64 z) := by rw [cell_of_row w4 _ _ _ _ (0, 0) T_4_1.out]; rfl
    have z_4_1 : w1.heap.size < w4.heap.size := (Array.getElem?_eq_some_iff.1 T_4_1.out).1
    have O_ins_4 := hid ((O_ins_2.out.below HB_3.out).below HB_4.out)
    have O_outs_4 := hid ((O_outs_2.out.below HB_3.out).below HB_4.out)
    go_wp2_with fail
    refine (HSI.out _ (O_ins_4.out.at.below (by go_grown)) (O_outs_4.out.at.below (by go_grown))).mono ?_
    rintro e w5 ⟨rfl, hb⟩
    have HB_5 := hid (bstep (by go_grown) hb : Below w4.heap.size w4 w5)
    have B_5 := hid (bstep B_4.out HB_5.out)
    have S_5 := HB_5.out.size
    have T_5_1 := hid ((HB_5.out.block w1.heap.size (Array.getElem?_eq_some_iff.1 T_4_1.out).1).trans T_4_1.out)
    clear m_4_1_0 m_4_1_1 m_4_1_2 z_4_1
    have m_5_1_0 : w5.cell? ⟨w1.heap.size, 0, none⟩ = some (.int .i64 x) := by rw [cell_of_row w5 _ _ _ _ (0, 0) T_5_1.out]; rfl
    have m_5_1_1 : w5.cell? ⟨w1.heap.size, 1, none⟩ = some (.int .i64 y) := by rw [cell_of_row w5 _ _ _ _ (0, 0) T_5_1.out]; rfl
    have m_5_1_2 : w5.cell? ⟨w1.heap.size, 2, none⟩ = some (.int .i64 z) := by rw [cell_of_row w5 _ _ _ _ (0, 0) T_5_1.out]; rfl
    have z_5_1 : w1.heap.size < w5.heap.size := (Array.getElem?_eq_some_iff.1 T_5_1.out).1
    clear hb
    have O_ins_5 := hid (O_ins_4.out.below HB_5.out)
    have O_outs_5 := hid (O_outs_4.out.below HB_5.out)
    go_wp2_with fail
    refine (HSS.out _ (O_ins_5.out.at.below (by go_grown)) (O_outs_5.out.at.below (by go_grown))).mono ?_
    rintro e w6 ⟨rfl, hb⟩
    have HB_6 := hid (bstep (by go_grown) hb : Below w5.heap.size w5 w6)
    have B_6 := hid (bstep B_5.out HB_6.out)
    have S_6 := HB_6.out.size
    have T_6_1 := hid ((HB_6.out.block w1.heap.size (Array.getElem?_eq_some_iff.1 T_5_1.out).1).trans T_5_1.out)
    clear m_5_1_0 m_5_1_1 m_5_1_2 z_5_1
    have m_6_1_0 : w6.cell? ⟨w1.heap.size, 0, none⟩ = some (.int .i64 x) := by rw [cell_of_row w6 _ _ _ _ (0, 0) T_6_1.out]; rfl
    have m_6_1_1 : w6.cell? ⟨w1.heap.size, 1, none⟩ = some (.int .i64 y) := by rw [cell_of_row w6 _ _ _ _ (0, 0) T_6_1.out]; rfl
    have m_6_1_2 : w6.cell? ⟨w1.heap.size, 2, none⟩ = some (.int .i64 z) := by rw [cell_of_row w6 _ _ _ _ (0, 0) T_6_1.out]; rfl
    have z_6_1 : w1.heap.size < w6.heap.size := (Array.getElem?_eq_some_iff.1 T_6_1.out).1
    clear hb
    go_upto_if 137 with (fail)
    go_cut [] from 39 (fun wx => Hid (Below w6.heap.size w6 wx))
    case first =>
      cases k2
      · go_wp2_with fail
        go_meet
        exact hid (Below.refl _ _)
      · obtain ⟨hmn, hgd, hvb, hs0⟩ := HSF.out rfl
        obtain rfl : n = m := hmn.symm
        have HR1 := hid (fun W h1 h2 => i_RepeatDay_yes 7 (by omega) u y z p q n c d ins outs W h1 h2 (goodDay_lv hgd hvb.1 hvb.2))
        rw [rep_fix HLN.out hs0 7] at HR1
        clear hgd hs0 hmn
        have O_ins_6 := hid (O_ins_5.out.below HB_6.out)
        have O_outs_6 := hid (O_outs_5.out.below HB_6.out)
        go_wp2_with fail
        refine (HR1.out _ (O_ins_6.out.at.below (by go_grown)) (O_outs_6.out.at.below (by go_grown))).mono ?_
        rintro e w7 ⟨rfl, hb⟩
        have HB_7 := hid (bstep (by go_grown) hb : Below w6.heap.size w6 w7)
        have B_7 := hid (bstep B_6.out HB_7.out)
        have S_7 := HB_7.out.size
        have T_7_1 := hid ((HB_7.out.block w1.heap.size (Array.getElem?_eq_some_iff.1 T_6_1.out).1).trans T_6_1.out)
        clear m_6_1_0 m_6_1_1 m_6_1_2 z_6_1
        have m_7_1_0 : w7.cell? ⟨w1.heap.size, 0, none⟩ = some (.int .i64 x) := by rw [cell_of_row w7 _ _ _ _ (0, 0) T_7_1.out]; rfl
        have m_7_1_1 : w7.cell? ⟨w1.heap.size, 1, none⟩ = some (.int .i64 y) := by rw [cell_of_row w7 _ _ _ _ (0, 0) T_7_1.out]; rfl
        have m_7_1_2 : w7.cell? ⟨w1.heap.size, 2, none⟩ = some (.int .i64 z) := by rw [cell_of_row w7 _ _ _ _ (0, 0) T_7_1.out]; rfl
        have z_7_1 : w1.heap.size < w7.heap.size := (Array.getElem?_eq_some_iff.1 T_7_1.out).1
        clear hb
        go_wp2_with fail
        go_meet
        exact hid (bstep HB_7.out (by go_grown))
    case rest =>
      obtain ⟨w7, hW7⟩ : ∃ W, W = wc := ⟨_, rfl⟩
      subst hW7
      have HB_7 := hcut
      have B_7 := hid (bstep B_6.out HB_7.out)
      have S_7 := HB_7.out.size
      have T_7_1 := hid ((HB_7.out.block w1.heap.size (Array.getElem?_eq_some_iff.1 T_6_1.out).1).trans T_6_1.out)
      clear m_6_1_0 m_6_1_1 m_6_1_2 z_6_1
      have m_7_1_0 : w7.cell? ⟨w1.heap.size, 0, none⟩ = some (.int .i64 x) := by rw [cell_of_row w7 _ _ _ _ (0, 0) T_7_1.out]; rfl
      have m_7_1_1 : w7.cell? ⟨w1.heap.size, 1, none⟩ = some (.int .i64 y) := by rw [cell_of_row w7 _ _ _ _ (0, 0) T_7_1.out]; rfl
      have m_7_1_2 : w7.cell? ⟨w1.heap.size, 2, none⟩ = some (.int .i64 z) := by rw [cell_of_row w7 _ _ _ _ (0, 0) T_7_1.out]; rfl
      have z_7_1 : w1.heap.size < w7.heap.size := (Array.getElem?_eq_some_iff.1 T_7_1.out).1
      go_wp2_with fail
      refine (s_DrawRepeatDay _ _ _ _ ((H_code.out.below B_7.out).below (by go_grown))).mono ?_
      rintro e w8 ⟨x2, y2, z2, d2, p2, q2, n2, m2, c2, e2, ins2, outs2, rfl, hi, ho, hn2, hm2, hb⟩
      have HB_8 := hid (bstep (by go_grown) hb : Below w7.heap.size w7 w8)
      have B_8 := hid (bstep B_7.out HB_8.out)
      have S_8 := HB_8.out.size
      have T_8_1 := hid ((HB_8.out.block w1.heap.size (Array.getElem?_eq_some_iff.1 T_7_1.out).1).trans T_7_1.out)
      clear m_7_1_0 m_7_1_1 m_7_1_2 z_7_1
      clear hb
      have O_ins2 := hid hi
      clear hi
      have O_outs2 := hid ho
      clear ho
      obtain ⟨X, Y, Z, k3, hri, hrs⟩ := rep_both x2 y2 z2 d2 p2 q2 n2 m2 c2 e2 ins2 outs2 (by omega) (by omega) O_ins2.out.len O_outs2.out.len
      have HRI := hid hri
      have HRS := hid hrs
      clear hri hrs
      go_wp2_with fail
      refine (HRI.out _ (O_ins2.out.at.below (by go_grown)) (O_outs2.out.at.below (by go_grown))).mono ?_
      rintro e w9 ⟨rfl, hb⟩
      have HB_9 := hid (bstep (by go_grown) hb : Below w8.heap.size w8 w9)
      have B_9 := hid (bstep B_8.out HB_9.out)
      have S_9 := HB_9.out.size
      have T_9_1 := hid ((HB_9.out.block w1.heap.size (Array.getElem?_eq_some_iff.1 T_8_1.out).1).trans T_8_1.out)
      have T_9_2 : Hid (w9.heap[w8.heap.size]? = some (.cells #[.int .i64 x2, .int .i64 y2, .int .i64 z2] 25 (0, 0))) := hid (by rw [hb.block _ (by simp <;> omega)]; exact heap_alloc_new _ _)
      have m_9_2_0 : w9.cell? ⟨w8.heap.size, 0, none⟩ = some (.int .i64 x2) := by rw [cell_of_row w9 _ _ _ _ (0, 0) T_9_2.out]; rfl
      have m_9_2_1 : w9.cell? ⟨w8.heap.size, 1, none⟩ = some (.int .i64 y2) := by rw [cell_of_row w9 _ _ _ _ (0, 0) T_9_2.out]; rfl
      have m_9_2_2 : w9.cell? ⟨w8.heap.size, 2, none⟩ = some (.int .i64 z2) := by rw [cell_of_row w9 _ _ _ _ (0, 0) T_9_2.out]; rfl
      have z_9_2 : w8.heap.size < w9.heap.size := (Array.getElem?_eq_some_iff.1 T_9_2.out).1
      clear hb
      have O_ins2_9 := hid (O_ins2.out.below HB_9.out)
      have O_outs2_9 := hid (O_outs2.out.below HB_9.out)
      go_wp2_with fail
      refine (HRS.out _ (O_ins2_9.out.at.below (by go_grown)) (O_outs2_9.out.at.below (by go_grown))).mono ?_
      rintro e w10 ⟨rfl, hb⟩
      have HB_10 := hid (bstep (by go_grown) hb : Below w9.heap.size w9 w10)
      have B_10 := hid (bstep B_9.out HB_10.out)
      have S_10 := HB_10.out.size
      have T_10_1 := hid ((HB_10.out.block w1.heap.size (Array.getElem?_eq_some_iff.1 T_9_1.out).1).trans T_9_1.out)
      have T_10_2 := hid ((HB_10.out.block w8.heap.size (Array.getElem?_eq_some_iff.1 T_9_2.out).1).trans T_9_2.out)
      have T_10_3 : Hid (w10.heap[w9.heap.size]? = some (.cells #[.int .i64 X, .int .i64 Y, .int .i64 Z] 25 (0, 0))) := hid (by rw [hb.block _ (by simp <;> omega)]; exact heap_alloc_new _ _)
      clear m_9_2_0 m_9_2_1 m_9_2_2 z_9_2
      have m_10_2_0 : w10.cell? ⟨w8.heap.size, 0, none⟩ = some (.int .i64 x2) := by rw [cell_of_row w10 _ _ _ _ (0, 0) T_10_2.out]; rfl
      have m_10_2_1 : w10.cell? ⟨w8.heap.size, 1, none⟩ = some (.int .i64 y2) := by rw [cell_of_row w10 _ _ _ _ (0, 0) T_10_2.out]; rfl
      have m_10_2_2 : w10.cell? ⟨w8.heap.size, 2, none⟩ = some (.int .i64 z2) := by rw [cell_of_row w10 _ _ _ _ (0, 0) T_10_2.out]; rfl
      have z_10_2 : w8.heap.size < w10.heap.size := (Array.getElem?_eq_some_iff.1 T_10_2.out).1
      have m_10_3_0 : w10.cell? ⟨w9.heap.size, 0, none⟩ = some (.int .i64 X) := by rw [cell_of_row w10 _ _ _ _ (0, 0) T_10_3.out]; rfl
      have m_10_3_1 : w10.cell? ⟨w9.heap.size, 1, none⟩ = some (.int .i64 Y) := by rw [cell_of_row w10 _ _ _ _ (0, 0) T_10_3.out]; rfl
      have m_10_3_2 : w10.cell? ⟨w9.heap.size, 2, none⟩ = some (.int .i64 Z) := by rw [cell_of_row w10 _ _ _ _ (0, 0) T_10_3.out]; rfl
      have z_10_3 : w9.heap.size < w10.heap.size := (Array.getElem?_eq_some_iff.1 T_10_3.out).1
      clear hb
      go_wp2_with fail
      refine (s_DrawFirstMissing _ _ _ _ ((H_code.out.below B_10.out).below (by go_grown))).mono ?_
      rintro e w11 ⟨x3, y3, z3, p3, q3, n3, m3, c3, e3, ins3, outs3, rfl, hi, ho, hn3, hm3, hb⟩
      have HB_11 := hid (bstep (by go_grown) hb : Below w10.heap.size w10 w11)
      have B_11 := hid (bstep B_10.out HB_11.out)
      have S_11 := HB_11.out.size
      have T_11_1 := hid ((HB_11.out.block w1.heap.size (Array.getElem?_eq_some_iff.1 T_10_1.out).1).trans T_10_1.out)
      have T_11_2 := hid ((HB_11.out.block w8.heap.size (Array.getElem?_eq_some_iff.1 T_10_2.out).1).trans T_10_2.out)
      have T_11_3 := hid ((HB_11.out.block w9.heap.size (Array.getElem?_eq_some_iff.1 T_10_3.out).1).trans T_10_3.out)
      have T_11_4 : Hid (w11.heap[w10.heap.size]? = some (.cells #[.int .i64 X, .int .i64 Y, .int .i64 Z] 25 (0, 0))) := hid (by rw [hb.block _ (by simp <;> omega)]; exact heap_alloc_new _ _)
      clear m_10_2_0 m_10_2_1 m_10_2_2 z_10_2 m_10_3_0 m_10_3_1 m_10_3_2 z_10_3
      have m_11_2_0 : w11.cell? ⟨w8.heap.size, 0, none⟩ = some (.int .i64 x2) := by rw [cell_of_row w11 _ _ _ _ (0, 0) T_11_2.out]; rfl
      have m_11_2_1 : w11.cell? ⟨w8.heap.size, 1, none⟩ = some (.int .i64 y2) := by rw [cell_of_row w11 _ _ _ _ (0, 0) T_11_2.out]; rfl
      have m_11_2_2 : w11.cell? ⟨w8.heap.size, 2, none⟩ = some (.int .i64 z2) := by rw [cell_of_row w11 _ _ _ _ (0, 0) T_11_2.out]; rfl
      have z_11_2 : w8.heap.size < w11.heap.size := (Array.getElem?_eq_some_iff.1 T_11_2.out).1
      have m_11_3_0 : w11.cell? ⟨w9.heap.size, 0, none⟩ = some (.int .i64 X) := by rw [cell_of_row w11 _ _ _ _ (0, 0) T_11_3.out]; rfl
      have m_11_3_1 : w11.cell? ⟨w9.heap.size, 1, none⟩ = some (.int .i64 Y) := by rw [cell_of_row w11 _ _ _ _ (0, 0) T_11_3.out]; rfl
      have m_11_3_2 : w11.cell? ⟨w9.heap.size, 2, none⟩ = some (.int .i64 Z) := by rw [cell_of_row w11 _ _ _ _ (0, 0) T_11_3.out]; rfl
      have z_11_3 : w9.heap.size < w11.heap.size := (Array.getElem?_eq_some_iff.1 T_11_3.out).1
      clear hb
      have O_ins3 := hid hi
      clear hi
      have O_outs3 := hid ho
      clear ho
      obtain ⟨h, k4, hfi, hfs⟩ := first_both x3 y3 z3 p3 q3 n3 m3 c3 e3 ins3 outs3 (by omega) (by omega) O_ins3.out.len O_outs3.out.len
      have HFI := hid hfi
      have HFS := hid hfs
      clear hfi hfs
      go_wp2_with fail
      refine (HFI.out _ (O_ins3.out.at.below (by go_grown)) (O_outs3.out.at.below (by go_grown))).mono ?_
      rintro e w12 ⟨rfl, hb⟩
      have HB_12 := hid (bstep (by go_grown) hb : Below w11.heap.size w11 w12)
      have B_12 := hid (bstep B_11.out HB_12.out)
      have S_12 := HB_12.out.size
      have T_12_1 := hid ((HB_12.out.block w1.heap.size (Array.getElem?_eq_some_iff.1 T_11_1.out).1).trans T_11_1.out)
      have T_12_2 := hid ((HB_12.out.block w8.heap.size (Array.getElem?_eq_some_iff.1 T_11_2.out).1).trans T_11_2.out)
      have T_12_3 := hid ((HB_12.out.block w9.heap.size (Array.getElem?_eq_some_iff.1 T_11_3.out).1).trans T_11_3.out)
      have T_12_4 := hid ((HB_12.out.block w10.heap.size (Array.getElem?_eq_some_iff.1 T_11_4.out).1).trans T_11_4.out)
      have T_12_5 : Hid (w12.heap[w11.heap.size]? = some (.cells #[.int .i64 x3, .int .i64 y3, .int .i64 z3] 25 (0, 0))) := hid (by rw [hb.block _ (by simp <;> omega)]; exact heap_alloc_new _ _)
      clear m_11_2_0 m_11_2_1 m_11_2_2 z_11_2 m_11_3_0 m_11_3_1 m_11_3_2 z_11_3
      have m_12_5_0 : w12.cell? ⟨w11.heap.size, 0, none⟩ = some (.int .i64 x3) := by rw [cell_of_row w12 _ _ _ _ (0, 0) T_12_5.out]; rfl
      have m_12_5_1 : w12.cell? ⟨w11.heap.size, 1, none⟩ = some (.int .i64 y3) := by rw [cell_of_row w12 _ _ _ _ (0, 0) T_12_5.out]; rfl
      have m_12_5_2 : w12.cell? ⟨w11.heap.size, 2, none⟩ = some (.int .i64 z3) := by rw [cell_of_row w12 _ _ _ _ (0, 0) T_12_5.out]; rfl
      have z_12_5 : w11.heap.size < w12.heap.size := (Array.getElem?_eq_some_iff.1 T_12_5.out).1
      clear hb
      have O_ins3_12 := hid (O_ins3.out.below HB_12.out)
      have O_outs3_12 := hid (O_outs3.out.below HB_12.out)
      go_wp2_with fail
      refine (HFS.out _ (O_ins3_12.out.at.below (by go_grown)) (O_outs3_12.out.at.below (by go_grown))).mono ?_
      rintro e w13 ⟨rfl, hb⟩
      have HB_13 := hid (bstep (by go_grown) hb : Below w12.heap.size w12 w13)
      have B_13 := hid (bstep B_12.out HB_13.out)
      have S_13 := HB_13.out.size
      have T_13_1 := hid ((HB_13.out.block w1.heap.size (Array.getElem?_eq_some_iff.1 T_12_1.out).1).trans T_12_1.out)
      have T_13_2 := hid ((HB_13.out.block w8.heap.size (Array.getElem?_eq_some_iff.1 T_12_2.out).1).trans T_12_2.out)
      have T_13_3 := hid ((HB_13.out.block w9.heap.size (Array.getElem?_eq_some_iff.1 T_12_3.out).1).trans T_12_3.out)
      have T_13_4 := hid ((HB_13.out.block w10.heap.size (Array.getElem?_eq_some_iff.1 T_12_4.out).1).trans T_12_4.out)
      have T_13_5 := hid ((HB_13.out.block w11.heap.size (Array.getElem?_eq_some_iff.1 T_12_5.out).1).trans T_12_5.out)
      clear m_12_5_0 m_12_5_1 m_12_5_2 z_12_5
      have m_13_5_0 : w13.cell? ⟨w11.heap.size, 0, none⟩ = some (.int .i64 x3) := by rw [cell_of_row w13 _ _ _ _ (0, 0) T_13_5.out]; rfl
      have m_13_5_1 : w13.cell? ⟨w11.heap.size, 1, none⟩ = some (.int .i64 y3) := by rw [cell_of_row w13 _ _ _ _ (0, 0) T_13_5.out]; rfl
      have m_13_5_2 : w13.cell? ⟨w11.heap.size, 2, none⟩ = some (.int .i64 z3) := by rw [cell_of_row w13 _ _ _ _ (0, 0) T_13_5.out]; rfl
      have z_13_5 : w11.heap.size < w13.heap.size := (Array.getElem?_eq_some_iff.1 T_13_5.out).1
      clear hb
      go_wp2
      go_ret
      exact ⟨rfl, B_13.out⟩

set_option maxRecDepth 100000 in
theorem fnStarts_lifted (os : Os) (started : os.Started) (H : Type) (enc : TypeId × Value → H) :
    ReturnsInHanded {} Try.checked os 13 .any (Rows.fnStartsSpec.pre6 enc Try.prog Try.f13 Rows.fnStartsRow.domain false) (Rows.fnStartsSpec.post enc Try.prog Try.f13 false true false false) := by
  refine returnsInHanded_of_change (C := Try.checked) Try.own started (by kernel_rfl) Try.func13
    (ChangeSpec.witness6 (enc := enc) (C := Try.checked) false ⟨#[], #[.slice none 0 0], []⟩ 8 (by kernel_rfl) (by kernel_rfl) (by kernel_rfl) (by kernel_rfl)) ?_
  intro W base args ds gs before hval0 hW _ _
  have hval : ∀ (j : Nat) t v, Try.f13.params[j]? = some t → args[j]? = some v → Value.okWide Try.prog W .any base t v := hval0
  have hW' : DataW.Whole enc Try.prog Try.f13.params.toList Rows.fnStartsSpec.vars false W args.toList ds gs before := hW
  obtain ⟨p, q, hA0, hV, rfl, hfz, hnd⟩ := hW
  have hlt : ∀ x ∈ p, x.block < W.heap.size := fun x hx => hW'.lt x (by simp [hx])
  have hA : DataW.TrodAll enc Try.prog W 0 (fun _ => true) true Try.f13.params.toList args.toList ds p := hA0
  rw [Try.params13] at hA hval
  clear hA0 hval0
  obtain ⟨v0, d0, rfl, rfl, h0⟩ := trodAll_one hA
  obtain ⟨rfl, rfl⟩ := trodVars_none hV
  obtain ⟨x0, n0, k0, rfl, g0⟩ := open_bytes (hval 0 46 v0 rfl rfl) h0
  refine (law_FnStarts x0 n0 k0 W g0).mono fun e W' ⟨he, hb⟩ => ?_
  subst he
  exact ⟨_, rfl, law_post rfl rfl (by kernel_rfl) hW' rfl rfl rfl hb⟩

theorem fnStarts_proved : Rows.FnStartsSaid :=
  OpenClaim.holds_of_wide 13 Try.f13 rfl rfl rfl rfl rfl rfl rfl ⟨rfl, rfl, rfl, rfl, rfl⟩ rfl rfl rfl rfl rfl (by kernel_rfl) Try.func13 (by kernel_rfl)
    (of_decide_eq_true (by kernel_rfl)) (by unfold Func.isWrapper; first | (rw [if_pos (by decide +kernel)]; kernel_rfl) | (rw [if_neg (by decide +kernel)]; exact ⟨rfl, rfl⟩))
    (fun os started H enc _ => fnStarts_lifted os started H enc)

end Go.Proofs.Ytbeeonpefmdkeaa
