/-
  The law FnTanks returns true for every input, and leaves its argument as it was. No condition.
-/
import Derived.Test.YtbeeonpefmdkeaaCurT
import Derived.Test.YtbeeonpefmdkeaaTankP
import Derived.Test.YtbeeonpefmdkeaaLiftB
import Derived.Test.YtbeeonpefmdkeaaLiftTank
import Derived.Test.YtbeeonpefmdkeaaCalm
set_option linter.unusedVariables false
set_option linter.unusedSimpArgs false
namespace Go.Proofs.Ytbeeonpefmdkeaa
open Go.ChangeShapes Go.WideShapes Go.ChangeAt Go.RowKit Go.Joins

set_option maxRecDepth 100000 in
set_option maxHeartbeats 8000000 in
theorem law_FnTanks (a : Option Addr) (n c : Nat) (w : World) (h : BytesAt w a n) :
    Calls Try.prog 12 #[.slice a n c] w fun e w' => e = .returned (.bool true) ∧ Below w.heap.size w w' := by
  have H_code := hid h
  clear h
  by_cases hn : 65536 < n
  · have hv : decide (65536 < n) = true := by simpa using hn
    go_enter Try.func12, Try.ntmps12
    go_wp2_with fail
    refine (l_vBig _ _ _ _).mono ?_
    rintro e _ ⟨rfl, rfl⟩
    go_wp2
    go_ret
    exact ⟨rfl, Below.refl _ _⟩
  have hv : decide (65536 < n) = false := by simpa using hn
  go_enter Try.func12, Try.ntmps12
  go_wp2_with fail
  refine (l_vBig _ _ _ _).mono ?_
  rintro e _ ⟨rfl, rfl⟩
  rw [hv]
  go_wp2_with fail
  refine (s_DrawRunTank _ _ _ _ (H_code.out.below (by go_grown))).mono ?_
  rintro e w1 ⟨x, y, z, p, q, n, m, c, d, ins, outs, rfl, hi, ho, hn, hm, hb⟩
  have HB_1 := hid (bstep (by go_grown) hb : Below w.heap.size w w1)
  have B_1 := HB_1
  have S_1 := HB_1.out.size
  clear hb
  have O_ins := hid hi
  clear hi
  have O_outs := hid ho
  clear ho
  cases hd : goodDay x y z ins outs
  · have HD := hid hd
    clear hd
    go_wp2_with fail
    refine (i_RunTank_no _ _ _ _ _ _ _ _ _ _ _ _ (O_ins.out.below (by go_grown)) (O_outs.out.below (by go_grown)) (by omega) (by omega) HD.out).mono ?_
    rintro e w2 ⟨rfl, hb⟩
    have HB_2 := hid (bstep (by go_grown) hb : Below w1.heap.size w1 w2)
    have B_2 := hid (bstep B_1.out HB_2.out)
    have S_2 := HB_2.out.size
    have T_2_1 : Hid (w2.heap[w1.heap.size]? = some (.cells #[.int .i64 x, .int .i64 y, .int .i64 z] 25 (0, 0))) := hid (by rw [hb.block _ (by simp <;> omega)]; exact heap_alloc_new _ _)
    have m_2_1_0 : w2.cell? ⟨w1.heap.size, 0, none⟩ = some (.int .i64 x) := by rw [cell_of_row w2 _ _ _ _ (0, 0) T_2_1.out]; rfl
    have m_2_1_1 : w2.cell? ⟨w1.heap.size, 1, none⟩ = some (.int .i64 y) := by rw [cell_of_row w2 _ _ _ _ (0, 0) T_2_1.out]; rfl
    have m_2_1_2 : w2.cell? ⟨w1.heap.size, 2, none⟩ = some (.int .i64 z) := by rw [cell_of_row w2 _ _ _ _ (0, 0) T_2_1.out]; rfl
    have z_2_1 : w1.heap.size < w2.heap.size := (Array.getElem?_eq_some_iff.1 T_2_1.out).1
    clear hb
    have O_ins_2 := hid (O_ins.out.below HB_2.out)
    have O_outs_2 := hid (O_outs.out.below HB_2.out)
    go_wp2_with fail
    refine (s_RunTank_no _ _ _ _ _ _ _ _ _ _ _ _ (O_ins_2.out.below (by go_grown)) (O_outs_2.out.below (by go_grown)) (by omega) (by omega) HD.out).mono ?_
    rintro e w3 ⟨a2, c2, rfl, hb, ho2⟩
    have HB_3 := hid (bstep (by go_grown) hb : Below w2.heap.size w2 w3)
    have B_3 := hid (bstep B_2.out HB_3.out)
    have S_3 := HB_3.out.size
    have T_3_1 := hid ((HB_3.out.block w1.heap.size (Array.getElem?_eq_some_iff.1 T_2_1.out).1).trans T_2_1.out)
    clear m_2_1_0 m_2_1_1 m_2_1_2 z_2_1
    have m_3_1_0 : w3.cell? ⟨w1.heap.size, 0, none⟩ = some (.int .i64 x) := by rw [cell_of_row w3 _ _ _ _ (0, 0) T_3_1.out]; rfl
    have m_3_1_1 : w3.cell? ⟨w1.heap.size, 1, none⟩ = some (.int .i64 y) := by rw [cell_of_row w3 _ _ _ _ (0, 0) T_3_1.out]; rfl
    have m_3_1_2 : w3.cell? ⟨w1.heap.size, 2, none⟩ = some (.int .i64 z) := by rw [cell_of_row w3 _ _ _ _ (0, 0) T_3_1.out]; rfl
    have z_3_1 : w1.heap.size < w3.heap.size := (Array.getElem?_eq_some_iff.1 T_3_1.out).1
    clear hb
    have O_lv2 := hid ho2
    clear ho2
    go_upto_region 6 with fail
    have KX : Hid (∀ wy w5 : World, (Below w3.heap.size w3 wy ∧ wy.cell? ⟨w1.heap.size, 0, none⟩ = some (.int .i64 x) ∧ wy.cell? ⟨w1.heap.size, 1, none⟩ = some (.int .i64 y) ∧ wy.cell? ⟨w1.heap.size, 2, none⟩ = some (.int .i64 z)) → Below wy.heap.size wy w5 → (Below w3.heap.size w3 w5 ∧ w5.cell? ⟨w1.heap.size, 0, none⟩ = some (.int .i64 x) ∧ w5.cell? ⟨w1.heap.size, 1, none⟩ = some (.int .i64 y) ∧ w5.cell? ⟨w1.heap.size, 2, none⟩ = some (.int .i64 z))) := hid (fun wy w5 hq hb => ⟨bstep hq.1 hb, (hb.cell (World.block_lt_of_cell? wy _ hq.2.1)).trans hq.2.1, (hb.cell (World.block_lt_of_cell? wy _ hq.2.2.1)).trans hq.2.2.1, (hb.cell (World.block_lt_of_cell? wy _ hq.2.2.2)).trans hq.2.2.2⟩)
    have X := hid (show Below w3.heap.size w3 w3.drew ∧ w3.drew.cell? ⟨w1.heap.size, 0, none⟩ = some (.int .i64 x) ∧ w3.drew.cell? ⟨w1.heap.size, 1, none⟩ = some (.int .i64 y) ∧ w3.drew.cell? ⟨w1.heap.size, 2, none⟩ = some (.int .i64 z) from ⟨(Below.refl _ _).drew, m_3_1_0, m_3_1_1, m_3_1_2⟩)
    refine wp_region_calm (C := (fun w' => Below w3.heap.size w3 w' ∧ w'.cell? ⟨w1.heap.size, 0, none⟩ = some (.int .i64 x) ∧ w'.cell? ⟨w1.heap.size, 1, none⟩ = some (.int .i64 y) ∧ w'.cell? ⟨w1.heap.size, 2, none⟩ = some (.int .i64 z))) (by kernel_rfl) (by kernel_rfl) (X.out) ?_
    repeat
      first
        | go_big_quiet_skip
        | (go_big_quiet_want
           first
             | (unfold Oper.quiet
                apply Exists.intro
                refine ⟨fun wq hq => ?_, ?_⟩
                · (try dsimp only at hq
                   simp [go_sem, Oper.quietAt, Oper.quietUpon, BigFrame.eval_const, BigFrame.eval_global, BigFrame.eval_func, ↓IntWalk.iteOmega, *]
                   first | done | rfl | (first | (refine calm_call hq KX.out (l_vInts_same _ _ 0 _ _ [] _ (OwnI.nil _ 0).at (O_lv2.out.at.below hq.1) (by omega)) rfl) | (refine calm_call hq KX.out (i_IsValidTank _ _ _ _) rfl) | (refine calm_call hq KX.out (s_IsValidTank _ _ _ _) rfl)))
                simp only [Act.put, List.setIfInBounds_toArray, List.set_cons_succ, List.set_cons_zero]
                go_big_quiet_on))
    refine wpQuiet_nil ?_
    intro wc hcalm
    try dsimp only at hcalm
    obtain ⟨w4, hW4⟩ : ∃ W, W = wc := ⟨_, rfl⟩
    subst hW4
    have HB_4 := hid (hcalm.1 : Below w3.heap.size w3 w4)
    have B_4 := hid (bstep B_3.out HB_4.out)
    have S_4 := HB_4.out.size
    clear hcalm X KX
    have T_4_1 := hid ((HB_4.out.block w1.heap.size (Array.getElem?_eq_some_iff.1 T_3_1.out).1).trans T_3_1.out)
    clear m_3_1_0 m_3_1_1 m_3_1_2 z_3_1
    have m_4_1_0 : w4.cell? ⟨w1.heap.size, 0, none⟩ = some (.int .i64 x) := by rw [cell_of_row w4 _ _ _ _ (0, 0) T_4_1.out]; rfl
    have m_4_1_1 : w4.cell? ⟨w1.heap.size, 1, none⟩ = some (.int .i64 y) := by rw [cell_of_row w4 _ _ _ _ (0, 0) T_4_1.out]; rfl
    have m_4_1_2 : w4.cell? ⟨w1.heap.size, 2, none⟩ = some (.int .i64 z) := by rw [cell_of_row w4 _ _ _ _ (0, 0) T_4_1.out]; rfl
    have z_4_1 : w1.heap.size < w4.heap.size := (Array.getElem?_eq_some_iff.1 T_4_1.out).1
    go_wp2_with fail
    refine (s_DrawStepTank _ _ _ _ ((H_code.out.below B_4.out).below (by go_grown))).mono ?_
    rintro e w5 ⟨t1, t2, t3, u, v, rfl, hb, hu, hv⟩
    have HB_5 := hid (bstep (by go_grown) hb : Below w4.heap.size w4 w5)
    have B_5 := hid (bstep B_4.out HB_5.out)
    have S_5 := HB_5.out.size
    have T_5_1 := hid ((HB_5.out.block w1.heap.size (Array.getElem?_eq_some_iff.1 T_4_1.out).1).trans T_4_1.out)
    clear m_4_1_0 m_4_1_1 m_4_1_2 z_4_1
    have m_5_1_0 : w5.cell? ⟨w1.heap.size, 0, none⟩ = some (.int .i64 x) := by rw [cell_of_row w5 _ _ _ _ (0, 0) T_5_1.out]; rfl
    have m_5_1_1 : w5.cell? ⟨w1.heap.size, 1, none⟩ = some (.int .i64 y) := by rw [cell_of_row w5 _ _ _ _ (0, 0) T_5_1.out]; rfl
    have m_5_1_2 : w5.cell? ⟨w1.heap.size, 2, none⟩ = some (.int .i64 z) := by rw [cell_of_row w5 _ _ _ _ (0, 0) T_5_1.out]; rfl
    have z_5_1 : w1.heap.size < w5.heap.size := (Array.getElem?_eq_some_iff.1 T_5_1.out).1
    clear hb
    clear hu hv
    obtain ⟨L, A, B, S, M, k, hst⟩ : ∃ L A B S M k, stepR t1 t2 t3 u v = (L, A, B, S, M, k) := ⟨_, _, _, _, _, _, rfl⟩
    have HST := hid hst
    clear hst
    go_wp2_with fail
    refine (i_StepTank _ _ _ _ _ _ _ _ _ _ _ _ HST.out).mono ?_
    rintro e w6 ⟨rfl, hb⟩
    have HB_6 := hid (bstep (by go_grown) hb : Below w5.heap.size w5 w6)
    have B_6 := hid (bstep B_5.out HB_6.out)
    have S_6 := HB_6.out.size
    have T_6_1 := hid ((HB_6.out.block w1.heap.size (Array.getElem?_eq_some_iff.1 T_5_1.out).1).trans T_5_1.out)
    have T_6_2 : Hid (w6.heap[w5.heap.size]? = some (.cells #[.int .i64 t1, .int .i64 t2, .int .i64 t3] 25 (0, 0))) := hid (by rw [hb.block _ (by simp <;> omega)]; exact heap_alloc_new _ _)
    clear m_5_1_0 m_5_1_1 m_5_1_2 z_5_1
    have m_6_2_0 : w6.cell? ⟨w5.heap.size, 0, none⟩ = some (.int .i64 t1) := by rw [cell_of_row w6 _ _ _ _ (0, 0) T_6_2.out]; rfl
    have m_6_2_1 : w6.cell? ⟨w5.heap.size, 1, none⟩ = some (.int .i64 t2) := by rw [cell_of_row w6 _ _ _ _ (0, 0) T_6_2.out]; rfl
    have m_6_2_2 : w6.cell? ⟨w5.heap.size, 2, none⟩ = some (.int .i64 t3) := by rw [cell_of_row w6 _ _ _ _ (0, 0) T_6_2.out]; rfl
    have z_6_2 : w5.heap.size < w6.heap.size := (Array.getElem?_eq_some_iff.1 T_6_2.out).1
    clear hb
    go_wp2_with fail
    refine (s_StepTank _ _ _ _ _ _ _ _ _ _ _ _ HST.out).mono ?_
    rintro e w7 ⟨rfl, hb⟩
    have HB_7 := hid (bstep (by go_grown) hb : Below w6.heap.size w6 w7)
    have B_7 := hid (bstep B_6.out HB_7.out)
    have S_7 := HB_7.out.size
    have T_7_1 := hid ((HB_7.out.block w1.heap.size (Array.getElem?_eq_some_iff.1 T_6_1.out).1).trans T_6_1.out)
    have T_7_2 := hid ((HB_7.out.block w5.heap.size (Array.getElem?_eq_some_iff.1 T_6_2.out).1).trans T_6_2.out)
    have T_7_3 : Hid (w7.heap[w6.heap.size]? = some (.cells #[.int .i64 L, .int .i64 A, .int .i64 B] 25 (0, 0))) := hid (by rw [hb.block _ (by simp <;> omega)]; exact heap_alloc_new _ _)
    clear m_6_2_0 m_6_2_1 m_6_2_2 z_6_2
    have m_7_2_0 : w7.cell? ⟨w5.heap.size, 0, none⟩ = some (.int .i64 t1) := by rw [cell_of_row w7 _ _ _ _ (0, 0) T_7_2.out]; rfl
    have m_7_2_1 : w7.cell? ⟨w5.heap.size, 1, none⟩ = some (.int .i64 t2) := by rw [cell_of_row w7 _ _ _ _ (0, 0) T_7_2.out]; rfl
    have m_7_2_2 : w7.cell? ⟨w5.heap.size, 2, none⟩ = some (.int .i64 t3) := by rw [cell_of_row w7 _ _ _ _ (0, 0) T_7_2.out]; rfl
    have z_7_2 : w5.heap.size < w7.heap.size := (Array.getElem?_eq_some_iff.1 T_7_2.out).1
    have m_7_3_0 : w7.cell? ⟨w6.heap.size, 0, none⟩ = some (.int .i64 L) := by rw [cell_of_row w7 _ _ _ _ (0, 0) T_7_3.out]; rfl
    have m_7_3_1 : w7.cell? ⟨w6.heap.size, 1, none⟩ = some (.int .i64 A) := by rw [cell_of_row w7 _ _ _ _ (0, 0) T_7_3.out]; rfl
    have m_7_3_2 : w7.cell? ⟨w6.heap.size, 2, none⟩ = some (.int .i64 B) := by rw [cell_of_row w7 _ _ _ _ (0, 0) T_7_3.out]; rfl
    have z_7_3 : w6.heap.size < w7.heap.size := (Array.getElem?_eq_some_iff.1 T_7_3.out).1
    clear hb
    cases k
    · go_wp2
      go_ret
      refine ⟨rfl, bstep B_7.out (by go_grown)⟩
    · obtain ⟨e1, hg, r1, r2, r3, r4, r5, r6⟩ := stepR_yes HST.out
      have HGT := hid hg
      clear hg
      have hw1 := IntWalk.i64_in (t1 + u) (by omega)
      have hw2 := IntWalk.i64_in (t1 + u - S) (by omega)
      have hw3 := IntWalk.i64_in (t1 + u - S - v) (by omega)
      have hw4 := IntWalk.i64_in (t1 + u - S - v + M) (by omega)
      have he : (L == t1 + u - S - v + M) = true := by simpa using e1
      clear e1
      go_wp2_with fail
      refine (i_IsValidTank _ _ _ _).mono ?_
      rintro e w8 ⟨rfl, hb⟩
      have HB_8 := hid (bstep (by go_grown) hb : Below w7.heap.size w7 w8)
      have B_8 := hid (bstep B_7.out HB_8.out)
      have S_8 := HB_8.out.size
      have T_8_1 := hid ((HB_8.out.block w1.heap.size (Array.getElem?_eq_some_iff.1 T_7_1.out).1).trans T_7_1.out)
      have T_8_2 := hid ((HB_8.out.block w5.heap.size (Array.getElem?_eq_some_iff.1 T_7_2.out).1).trans T_7_2.out)
      have T_8_3 := hid ((HB_8.out.block w6.heap.size (Array.getElem?_eq_some_iff.1 T_7_3.out).1).trans T_7_3.out)
      have T_8_4 : Hid (w8.heap[w7.heap.size]? = some (.cells #[.int .i64 L, .int .i64 A, .int .i64 B] 25 (0, 0))) := hid (by rw [hb.block _ (by simp <;> omega)]; exact heap_alloc_new _ _)
      clear m_7_2_0 m_7_2_1 m_7_2_2 z_7_2 m_7_3_0 m_7_3_1 m_7_3_2 z_7_3
      have m_8_2_0 : w8.cell? ⟨w5.heap.size, 0, none⟩ = some (.int .i64 t1) := by rw [cell_of_row w8 _ _ _ _ (0, 0) T_8_2.out]; rfl
      have m_8_2_1 : w8.cell? ⟨w5.heap.size, 1, none⟩ = some (.int .i64 t2) := by rw [cell_of_row w8 _ _ _ _ (0, 0) T_8_2.out]; rfl
      have m_8_2_2 : w8.cell? ⟨w5.heap.size, 2, none⟩ = some (.int .i64 t3) := by rw [cell_of_row w8 _ _ _ _ (0, 0) T_8_2.out]; rfl
      have z_8_2 : w5.heap.size < w8.heap.size := (Array.getElem?_eq_some_iff.1 T_8_2.out).1
      have m_8_3_0 : w8.cell? ⟨w6.heap.size, 0, none⟩ = some (.int .i64 L) := by rw [cell_of_row w8 _ _ _ _ (0, 0) T_8_3.out]; rfl
      have m_8_3_1 : w8.cell? ⟨w6.heap.size, 1, none⟩ = some (.int .i64 A) := by rw [cell_of_row w8 _ _ _ _ (0, 0) T_8_3.out]; rfl
      have m_8_3_2 : w8.cell? ⟨w6.heap.size, 2, none⟩ = some (.int .i64 B) := by rw [cell_of_row w8 _ _ _ _ (0, 0) T_8_3.out]; rfl
      have z_8_3 : w6.heap.size < w8.heap.size := (Array.getElem?_eq_some_iff.1 T_8_3.out).1
      have m_8_4_0 : w8.cell? ⟨w7.heap.size, 0, none⟩ = some (.int .i64 L) := by rw [cell_of_row w8 _ _ _ _ (0, 0) T_8_4.out]; rfl
      have m_8_4_1 : w8.cell? ⟨w7.heap.size, 1, none⟩ = some (.int .i64 A) := by rw [cell_of_row w8 _ _ _ _ (0, 0) T_8_4.out]; rfl
      have m_8_4_2 : w8.cell? ⟨w7.heap.size, 2, none⟩ = some (.int .i64 B) := by rw [cell_of_row w8 _ _ _ _ (0, 0) T_8_4.out]; rfl
      have z_8_4 : w7.heap.size < w8.heap.size := (Array.getElem?_eq_some_iff.1 T_8_4.out).1
      clear hb
      rw [HGT.out]
      go_wp2
      go_ret
      refine ⟨rfl, B_8.out⟩
  · have HD := hid hd
    have hln : ins.length = n := O_ins.out.1
    have hle := lv_end (a := y) (b := z) (lv := x) (n := n) (goodDay_iff.1 hd).2.2.1 hln
    have hn1 : 1 ≤ n ∧ n ≤ 12 := by have := (goodDay_iff.1 hd).2.1; omega
    have b1 := sum_le (spills_bound hd)
    have b2 := sum_le (miss_bound hd)
    have b3 := sum_le (outs_wide hd)
    have b4 := sum_le (ins_wide hd)
    have hgx := goodTank_iff.1 (goodDay_iff.1 hd).1
    have hlt := late_is hd
    have hlh := fun h => late_hour hd h
    have HLV := hid (fun k (hk : k < n) => levels_in hd hln hk)
    have hlen2 : outs.length = n := by have := (goodDay_iff.1 hd).2.2.1; omega
    rw [hln] at b1 b2 b4 hlt hlh
    rw [hlen2] at b3
    rw [show (spillsOf y z x ins outs n).length = n by simp [spillsOf]] at b1
    rw [show (missOf y z x ins outs n).length = n by simp [missOf]] at b2
    obtain rfl : n = m := by have := O_outs.out.1; omega
    obtain ⟨j, hj⟩ : ∃ j, j = n - 1 := ⟨_, rfl⟩
    obtain ⟨P, hP⟩ : ∃ P, (spillsOf y z x ins outs n).sum = P := ⟨_, rfl⟩
    obtain ⟨Q, hQ⟩ : ∃ Q, (missOf y z x ins outs n).sum = Q := ⟨_, rfl⟩
    obtain ⟨F, hF⟩ : ∃ F, firstMiss y z x ins outs n = F := ⟨_, rfl⟩
    have HRT := hid (fun W h1 h2 => i_RunTank_yes x y z p q n c d ins outs W h1 h2 HD.out)
    have HRS := hid (fun W h1 h2 => s_RunTank_yes x y z p q n c d ins outs W h1 h2 HD.out)
    have HWT := hid (fun W h1 h2 => i_WaterTaken_yes x y z p q n c d ins outs W h1 h2 HD.out)
    have HRD := hid (fun W h1 h2 => i_RepeatDay_yes 1 (by omega) x y z p q n c d ins outs W h1 h2 HD.out)
    have HIC := hid (fun W h1 h2 => i_IsCalm_yes x y z p q n c d ins outs W h1 h2 HD.out)
    have HFM := hid (fun W h1 h2 => i_FirstMissing_yes x y z p q n c d ins outs W h1 h2 HD.out)
    have hlast := levels_fin (a := y) (b := z) (lv := x) (ins := ins) (outs := outs) (n := n) (by omega)
    have hrep : repLv y z x ins outs 1 = lvAt y z x ins outs n := by show lvAt y z x ins outs ins.length = _; rw [hln]
    rw [hP, hQ] at HRT HRS HIC hle
    rw [hQ] at HWT hlt hlh
    rw [hP] at b1
    rw [hQ] at b2
    rw [hrep] at HRD
    rw [hle] at HRD hlast
    rw [← hj] at hlast
    rw [hF] at HFM hlt hlh
    have HLA := hid hlast
    have hwn : IntKind.i64.wrap ((n : Int) - 1) = (j : Int) := by rw [IntWalk.i64_in _ (by omega)]; omega
    have q1 : (0 : Int) ≤ (j : Int) := by omega
    have q2 : (j : Int) < (n : Int) := by omega
    have q3 : j < n := by omega
    have hw1 := IntWalk.i64_in (outs.sum - Q) (by omega)
    have hw2 := IntWalk.i64_in (x + ins.sum) (by omega)
    have hw3 := IntWalk.i64_in (x + ins.sum - P) (by omega)
    have hw4 := IntWalk.i64_in (x + ins.sum - P - (outs.sum - Q)) (by omega)
    have hw5 := IntWalk.i64_in (P + Q) (by omega)
    have HWI := hid (wide (ins_wide hd))
    have HWO := hid (wide (outs_wide hd))
    clear hd hlast hrep hle hP hQ hF b1 b2 b3 b4 hgx hj hln hlen2
    by_cases hQ0 : 0 < Q
    · have hok : fmOk F = true := by rw [hlt]; simpa using hQ0
      have hhr : ¬ (n : Int) ≤ fmVal F := by have := hlh hQ0; omega
      rw [hok] at HFM
      clear hlt hlh hok
      go_wp2_with fail
      refine (HRT.out _ (O_ins.out.below (by go_grown)) (O_outs.out.below (by go_grown))).mono ?_
      rintro e w2 ⟨a1, c1, rfl, hb, ho1⟩
      have HB_2 := hid (bstep (by go_grown) hb : Below w1.heap.size w1 w2)
      have B_2 := hid (bstep B_1.out HB_2.out)
      have S_2 := HB_2.out.size
      have T_2_1 : Hid (w2.heap[w1.heap.size]? = some (.cells #[.int .i64 x, .int .i64 y, .int .i64 z] 25 (0, 0))) := hid (by rw [hb.block _ (by simp <;> omega)]; exact heap_alloc_new _ _)
      have m_2_1_0 : w2.cell? ⟨w1.heap.size, 0, none⟩ = some (.int .i64 x) := by rw [cell_of_row w2 _ _ _ _ (0, 0) T_2_1.out]; rfl
      have m_2_1_1 : w2.cell? ⟨w1.heap.size, 1, none⟩ = some (.int .i64 y) := by rw [cell_of_row w2 _ _ _ _ (0, 0) T_2_1.out]; rfl
      have m_2_1_2 : w2.cell? ⟨w1.heap.size, 2, none⟩ = some (.int .i64 z) := by rw [cell_of_row w2 _ _ _ _ (0, 0) T_2_1.out]; rfl
      have z_2_1 : w1.heap.size < w2.heap.size := (Array.getElem?_eq_some_iff.1 T_2_1.out).1
      clear hb
      have O_l1 := hid ho1
      clear ho1
      have O_ins_2 := hid (O_ins.out.below HB_2.out)
      have O_outs_2 := hid (O_outs.out.below HB_2.out)
      go_wp2_with fail
      refine (HRS.out _ (O_ins_2.out.below (by go_grown)) (O_outs_2.out.below (by go_grown))).mono ?_
      rintro e w3 ⟨a2, c2, rfl, hb, ho2⟩
      have HB_3 := hid (bstep (by go_grown) hb : Below w2.heap.size w2 w3)
      have B_3 := hid (bstep B_2.out HB_3.out)
      have S_3 := HB_3.out.size
      have T_3_1 := hid ((HB_3.out.block w1.heap.size (Array.getElem?_eq_some_iff.1 T_2_1.out).1).trans T_2_1.out)
      clear m_2_1_0 m_2_1_1 m_2_1_2 z_2_1
      have m_3_1_0 : w3.cell? ⟨w1.heap.size, 0, none⟩ = some (.int .i64 x) := by rw [cell_of_row w3 _ _ _ _ (0, 0) T_3_1.out]; rfl
      have m_3_1_1 : w3.cell? ⟨w1.heap.size, 1, none⟩ = some (.int .i64 y) := by rw [cell_of_row w3 _ _ _ _ (0, 0) T_3_1.out]; rfl
      have m_3_1_2 : w3.cell? ⟨w1.heap.size, 2, none⟩ = some (.int .i64 z) := by rw [cell_of_row w3 _ _ _ _ (0, 0) T_3_1.out]; rfl
      have z_3_1 : w1.heap.size < w3.heap.size := (Array.getElem?_eq_some_iff.1 T_3_1.out).1
      clear hb
      have O_l2 := hid ho2
      clear ho2
      have O_l1_3 := hid (O_l1.out.below HB_3.out)
      go_upto_region 6 with fail
      have KX : Hid (∀ wy w5 : World, (Below w3.heap.size w3 wy ∧ wy.cell? ⟨w1.heap.size, 0, none⟩ = some (.int .i64 x) ∧ wy.cell? ⟨w1.heap.size, 1, none⟩ = some (.int .i64 y) ∧ wy.cell? ⟨w1.heap.size, 2, none⟩ = some (.int .i64 z)) → Below wy.heap.size wy w5 → (Below w3.heap.size w3 w5 ∧ w5.cell? ⟨w1.heap.size, 0, none⟩ = some (.int .i64 x) ∧ w5.cell? ⟨w1.heap.size, 1, none⟩ = some (.int .i64 y) ∧ w5.cell? ⟨w1.heap.size, 2, none⟩ = some (.int .i64 z))) := hid (fun wy w5 hq hb => ⟨bstep hq.1 hb, (hb.cell (World.block_lt_of_cell? wy _ hq.2.1)).trans hq.2.1, (hb.cell (World.block_lt_of_cell? wy _ hq.2.2.1)).trans hq.2.2.1, (hb.cell (World.block_lt_of_cell? wy _ hq.2.2.2)).trans hq.2.2.2⟩)
      have X := hid (show Below w3.heap.size w3 w3.drew ∧ w3.drew.cell? ⟨w1.heap.size, 0, none⟩ = some (.int .i64 x) ∧ w3.drew.cell? ⟨w1.heap.size, 1, none⟩ = some (.int .i64 y) ∧ w3.drew.cell? ⟨w1.heap.size, 2, none⟩ = some (.int .i64 z) from ⟨(Below.refl _ _).drew, m_3_1_0, m_3_1_1, m_3_1_2⟩)
      refine wp_region_calm (C := (fun w' => Below w3.heap.size w3 w' ∧ w'.cell? ⟨w1.heap.size, 0, none⟩ = some (.int .i64 x) ∧ w'.cell? ⟨w1.heap.size, 1, none⟩ = some (.int .i64 y) ∧ w'.cell? ⟨w1.heap.size, 2, none⟩ = some (.int .i64 z))) (by kernel_rfl) (by kernel_rfl) (X.out) ?_
      repeat
        first
          | go_big_quiet_skip
          | (go_big_quiet_want
             first
               | (unfold Oper.quiet
                  apply Exists.intro
                  refine ⟨fun wq hq => ?_, ?_⟩
                  · (try dsimp only at hq
                     simp [go_sem, Oper.quietAt, Oper.quietUpon, BigFrame.eval_const, BigFrame.eval_global, BigFrame.eval_func, ↓IntWalk.iteOmega, *]
                     first | done | rfl | (first | (refine calm_call hq KX.out (l_vInts_same _ _ n _ _ (levelsOf y z x ins outs n) _ (O_l1_3.out.at.below hq.1) (O_l2.out.at.below hq.1) (by omega)) rfl) | (refine calm_call hq KX.out (i_IsValidTank _ _ _ _) rfl) | (refine calm_call hq KX.out (s_IsValidTank _ _ _ _) rfl)))
                  simp only [Act.put, List.setIfInBounds_toArray, List.set_cons_succ, List.set_cons_zero]
                  go_big_quiet_on))
      refine wpQuiet_nil ?_
      intro wc hcalm
      try dsimp only at hcalm
      obtain ⟨w4, hW4⟩ : ∃ W, W = wc := ⟨_, rfl⟩
      subst hW4
      have HB_4 := hid (hcalm.1 : Below w3.heap.size w3 w4)
      have B_4 := hid (bstep B_3.out HB_4.out)
      have S_4 := HB_4.out.size
      clear hcalm X KX
      have T_4_1 := hid ((HB_4.out.block w1.heap.size (Array.getElem?_eq_some_iff.1 T_3_1.out).1).trans T_3_1.out)
      clear m_3_1_0 m_3_1_1 m_3_1_2 z_3_1
      have m_4_1_0 : w4.cell? ⟨w1.heap.size, 0, none⟩ = some (.int .i64 x) := by rw [cell_of_row w4 _ _ _ _ (0, 0) T_4_1.out]; rfl
      have m_4_1_1 : w4.cell? ⟨w1.heap.size, 1, none⟩ = some (.int .i64 y) := by rw [cell_of_row w4 _ _ _ _ (0, 0) T_4_1.out]; rfl
      have m_4_1_2 : w4.cell? ⟨w1.heap.size, 2, none⟩ = some (.int .i64 z) := by rw [cell_of_row w4 _ _ _ _ (0, 0) T_4_1.out]; rfl
      have z_4_1 : w1.heap.size < w4.heap.size := (Array.getElem?_eq_some_iff.1 T_4_1.out).1
      have O_ins_4 := hid ((O_ins_2.out.below HB_3.out).below HB_4.out)
      have O_outs_4 := hid ((O_outs_2.out.below HB_3.out).below HB_4.out)
      go_wp2_with fail
      refine (HWT.out _ (O_ins_4.out.below (by go_grown)) (O_outs_4.out.below (by go_grown))).mono ?_
      rintro e w5 ⟨rfl, hb⟩
      have HB_5 := hid (bstep (by go_grown) hb : Below w4.heap.size w4 w5)
      have B_5 := hid (bstep B_4.out HB_5.out)
      have S_5 := HB_5.out.size
      have T_5_1 := hid ((HB_5.out.block w1.heap.size (Array.getElem?_eq_some_iff.1 T_4_1.out).1).trans T_4_1.out)
      clear m_4_1_0 m_4_1_1 m_4_1_2 z_4_1
      have m_5_1_0 : w5.cell? ⟨w1.heap.size, 0, none⟩ = some (.int .i64 x) := by rw [cell_of_row w5 _ _ _ _ (0, 0) T_5_1.out]; rfl
      have m_5_1_1 : w5.cell? ⟨w1.heap.size, 1, none⟩ = some (.int .i64 y) := by rw [cell_of_row w5 _ _ _ _ (0, 0) T_5_1.out]; rfl
      have m_5_1_2 : w5.cell? ⟨w1.heap.size, 2, none⟩ = some (.int .i64 z) := by rw [cell_of_row w5 _ _ _ _ (0, 0) T_5_1.out]; rfl
      have z_5_1 : w1.heap.size < w5.heap.size := (Array.getElem?_eq_some_iff.1 T_5_1.out).1
      clear hb
      have O_ins_5 := hid (O_ins_4.out.below HB_5.out)
      have O_outs_5 := hid (O_outs_4.out.below HB_5.out)
      go_wp2_with fail
      refine (HRD.out _ (O_ins_5.out.below (by go_grown)) (O_outs_5.out.below (by go_grown))).mono ?_
      rintro e w6 ⟨rfl, hb⟩
      have HB_6 := hid (bstep (by go_grown) hb : Below w5.heap.size w5 w6)
      have B_6 := hid (bstep B_5.out HB_6.out)
      have S_6 := HB_6.out.size
      have T_6_1 := hid ((HB_6.out.block w1.heap.size (Array.getElem?_eq_some_iff.1 T_5_1.out).1).trans T_5_1.out)
      clear m_5_1_0 m_5_1_1 m_5_1_2 z_5_1
      have m_6_1_0 : w6.cell? ⟨w1.heap.size, 0, none⟩ = some (.int .i64 x) := by rw [cell_of_row w6 _ _ _ _ (0, 0) T_6_1.out]; rfl
      have m_6_1_1 : w6.cell? ⟨w1.heap.size, 1, none⟩ = some (.int .i64 y) := by rw [cell_of_row w6 _ _ _ _ (0, 0) T_6_1.out]; rfl
      have m_6_1_2 : w6.cell? ⟨w1.heap.size, 2, none⟩ = some (.int .i64 z) := by rw [cell_of_row w6 _ _ _ _ (0, 0) T_6_1.out]; rfl
      have z_6_1 : w1.heap.size < w6.heap.size := (Array.getElem?_eq_some_iff.1 T_6_1.out).1
      clear hb
      have O_ins_6 := hid (O_ins_5.out.below HB_6.out)
      have O_outs_6 := hid (O_outs_5.out.below HB_6.out)
      go_wp2_with fail
      refine (HIC.out _ (O_ins_6.out.below (by go_grown)) (O_outs_6.out.below (by go_grown))).mono ?_
      rintro e w7 ⟨rfl, hb⟩
      have HB_7 := hid (bstep (by go_grown) hb : Below w6.heap.size w6 w7)
      have B_7 := hid (bstep B_6.out HB_7.out)
      have S_7 := HB_7.out.size
      have T_7_1 := hid ((HB_7.out.block w1.heap.size (Array.getElem?_eq_some_iff.1 T_6_1.out).1).trans T_6_1.out)
      have T_7_2 : Hid (w7.heap[w6.heap.size]? = some (.cells #[.int .i64 (x + ins.sum - P - (outs.sum - Q)), .int .i64 y, .int .i64 z] 25 (0, 0))) := hid (by rw [hb.block _ (by simp <;> omega)]; exact heap_alloc_new _ _)
      clear m_6_1_0 m_6_1_1 m_6_1_2 z_6_1
      have m_7_1_0 : w7.cell? ⟨w1.heap.size, 0, none⟩ = some (.int .i64 x) := by rw [cell_of_row w7 _ _ _ _ (0, 0) T_7_1.out]; rfl
      have m_7_1_1 : w7.cell? ⟨w1.heap.size, 1, none⟩ = some (.int .i64 y) := by rw [cell_of_row w7 _ _ _ _ (0, 0) T_7_1.out]; rfl
      have m_7_1_2 : w7.cell? ⟨w1.heap.size, 2, none⟩ = some (.int .i64 z) := by rw [cell_of_row w7 _ _ _ _ (0, 0) T_7_1.out]; rfl
      have z_7_1 : w1.heap.size < w7.heap.size := (Array.getElem?_eq_some_iff.1 T_7_1.out).1
      have m_7_2_0 : w7.cell? ⟨w6.heap.size, 0, none⟩ = some (.int .i64 (x + ins.sum - P - (outs.sum - Q))) := by rw [cell_of_row w7 _ _ _ _ (0, 0) T_7_2.out]; rfl
      have m_7_2_1 : w7.cell? ⟨w6.heap.size, 1, none⟩ = some (.int .i64 y) := by rw [cell_of_row w7 _ _ _ _ (0, 0) T_7_2.out]; rfl
      have m_7_2_2 : w7.cell? ⟨w6.heap.size, 2, none⟩ = some (.int .i64 z) := by rw [cell_of_row w7 _ _ _ _ (0, 0) T_7_2.out]; rfl
      have z_7_2 : w6.heap.size < w7.heap.size := (Array.getElem?_eq_some_iff.1 T_7_2.out).1
      clear hb
      have O_ins_7 := hid (O_ins_6.out.below HB_7.out)
      have O_outs_7 := hid (O_outs_6.out.below HB_7.out)
      go_wp2_with fail
      refine (HFM.out _ (O_ins_7.out.below (by go_grown)) (O_outs_7.out.below (by go_grown))).mono ?_
      rintro e w8 ⟨rfl, hb⟩
      have HB_8 := hid (bstep (by go_grown) hb : Below w7.heap.size w7 w8)
      have B_8 := hid (bstep B_7.out HB_8.out)
      have S_8 := HB_8.out.size
      have T_8_1 := hid ((HB_8.out.block w1.heap.size (Array.getElem?_eq_some_iff.1 T_7_1.out).1).trans T_7_1.out)
      have T_8_2 := hid ((HB_8.out.block w6.heap.size (Array.getElem?_eq_some_iff.1 T_7_2.out).1).trans T_7_2.out)
      clear m_7_1_0 m_7_1_1 m_7_1_2 z_7_1 m_7_2_0 m_7_2_1 m_7_2_2 z_7_2
      have m_8_1_0 : w8.cell? ⟨w1.heap.size, 0, none⟩ = some (.int .i64 x) := by rw [cell_of_row w8 _ _ _ _ (0, 0) T_8_1.out]; rfl
      have m_8_1_1 : w8.cell? ⟨w1.heap.size, 1, none⟩ = some (.int .i64 y) := by rw [cell_of_row w8 _ _ _ _ (0, 0) T_8_1.out]; rfl
      have m_8_1_2 : w8.cell? ⟨w1.heap.size, 2, none⟩ = some (.int .i64 z) := by rw [cell_of_row w8 _ _ _ _ (0, 0) T_8_1.out]; rfl
      have z_8_1 : w1.heap.size < w8.heap.size := (Array.getElem?_eq_some_iff.1 T_8_1.out).1
      have m_8_2_0 : w8.cell? ⟨w6.heap.size, 0, none⟩ = some (.int .i64 (x + ins.sum - P - (outs.sum - Q))) := by rw [cell_of_row w8 _ _ _ _ (0, 0) T_8_2.out]; rfl
      have m_8_2_1 : w8.cell? ⟨w6.heap.size, 1, none⟩ = some (.int .i64 y) := by rw [cell_of_row w8 _ _ _ _ (0, 0) T_8_2.out]; rfl
      have m_8_2_2 : w8.cell? ⟨w6.heap.size, 2, none⟩ = some (.int .i64 z) := by rw [cell_of_row w8 _ _ _ _ (0, 0) T_8_2.out]; rfl
      have z_8_2 : w6.heap.size < w8.heap.size := (Array.getElem?_eq_some_iff.1 T_8_2.out).1
      clear hb
      have O_l1_8 := hid (((((O_l1_3.out.below HB_4.out).below HB_5.out).below HB_6.out).below HB_7.out).below HB_8.out)
      obtain ⟨gl, rfl, -, hgl⟩ := own_someC O_l1_8.out (by omega)
      have hcl := O_l1_8.out.cell (k := j) q3
      rw [HLA.out] at hcl
      have O_outs_8 := hid (O_outs_7.out.below HB_8.out)
      have O_ins_8 := hid (O_ins_7.out.below HB_8.out)
      go_upto_region 14 with fail
      have KX : Hid (∀ wy w5 : World, (Below w8.heap.size w8 wy ∧ wy.cell? ⟨w1.heap.size, 0, none⟩ = some (.int .i64 x) ∧ wy.cell? ⟨w1.heap.size, 1, none⟩ = some (.int .i64 y) ∧ wy.cell? ⟨w1.heap.size, 2, none⟩ = some (.int .i64 z) ∧ wy.cell? ⟨w6.heap.size, 0, none⟩ = some (.int .i64 (x + ins.sum - P - (outs.sum - Q))) ∧ wy.cell? ⟨w6.heap.size, 1, none⟩ = some (.int .i64 y) ∧ wy.cell? ⟨w6.heap.size, 2, none⟩ = some (.int .i64 z)) → Below wy.heap.size wy w5 → (Below w8.heap.size w8 w5 ∧ w5.cell? ⟨w1.heap.size, 0, none⟩ = some (.int .i64 x) ∧ w5.cell? ⟨w1.heap.size, 1, none⟩ = some (.int .i64 y) ∧ w5.cell? ⟨w1.heap.size, 2, none⟩ = some (.int .i64 z) ∧ w5.cell? ⟨w6.heap.size, 0, none⟩ = some (.int .i64 (x + ins.sum - P - (outs.sum - Q))) ∧ w5.cell? ⟨w6.heap.size, 1, none⟩ = some (.int .i64 y) ∧ w5.cell? ⟨w6.heap.size, 2, none⟩ = some (.int .i64 z))) := hid (fun wy w5 hq hb => ⟨bstep hq.1 hb, (hb.cell (World.block_lt_of_cell? wy _ hq.2.1)).trans hq.2.1, (hb.cell (World.block_lt_of_cell? wy _ hq.2.2.1)).trans hq.2.2.1, (hb.cell (World.block_lt_of_cell? wy _ hq.2.2.2.1)).trans hq.2.2.2.1, (hb.cell (World.block_lt_of_cell? wy _ hq.2.2.2.2.1)).trans hq.2.2.2.2.1, (hb.cell (World.block_lt_of_cell? wy _ hq.2.2.2.2.2.1)).trans hq.2.2.2.2.2.1, (hb.cell (World.block_lt_of_cell? wy _ hq.2.2.2.2.2.2)).trans hq.2.2.2.2.2.2⟩)
      have X := hid (show Below w8.heap.size w8 w8.drew ∧ w8.drew.cell? ⟨w1.heap.size, 0, none⟩ = some (.int .i64 x) ∧ w8.drew.cell? ⟨w1.heap.size, 1, none⟩ = some (.int .i64 y) ∧ w8.drew.cell? ⟨w1.heap.size, 2, none⟩ = some (.int .i64 z) ∧ w8.drew.cell? ⟨w6.heap.size, 0, none⟩ = some (.int .i64 (x + ins.sum - P - (outs.sum - Q))) ∧ w8.drew.cell? ⟨w6.heap.size, 1, none⟩ = some (.int .i64 y) ∧ w8.drew.cell? ⟨w6.heap.size, 2, none⟩ = some (.int .i64 z) from ⟨(Below.refl _ _).drew, m_8_1_0, m_8_1_1, m_8_1_2, m_8_2_0, m_8_2_1, m_8_2_2⟩)
      refine wp_region_calm (C := (fun w' => Below w8.heap.size w8 w' ∧ w'.cell? ⟨w1.heap.size, 0, none⟩ = some (.int .i64 x) ∧ w'.cell? ⟨w1.heap.size, 1, none⟩ = some (.int .i64 y) ∧ w'.cell? ⟨w1.heap.size, 2, none⟩ = some (.int .i64 z) ∧ w'.cell? ⟨w6.heap.size, 0, none⟩ = some (.int .i64 (x + ins.sum - P - (outs.sum - Q))) ∧ w'.cell? ⟨w6.heap.size, 1, none⟩ = some (.int .i64 y) ∧ w'.cell? ⟨w6.heap.size, 2, none⟩ = some (.int .i64 z))) (by kernel_rfl) (by kernel_rfl) (X.out) ?_
      repeat
        first
          | go_big_quiet_skip
          | (go_big_quiet_want
             first
               | (unfold Oper.quiet
                  apply Exists.intro
                  refine ⟨fun wq hq => ?_, ?_⟩
                  · (try dsimp only at hq
                     simp [go_sem, Oper.quietAt, Oper.quietUpon, BigFrame.eval_const, BigFrame.eval_global, BigFrame.eval_func, ↓IntWalk.iteOmega, *]
                     first | done | rfl | (first | (refine calm_same hq (l_vSum _ _ _ outs _ ((O_outs_8.out.below hq.1)) (by omega) HWO.out) rfl) | (refine calm_same hq (l_vSum _ _ _ ins _ ((O_ins_8.out.below hq.1)) (by omega) HWI.out) rfl)))
                  simp only [Act.put, List.setIfInBounds_toArray, List.set_cons_succ, List.set_cons_zero]
                  go_big_quiet_on))
      refine wpQuiet_nil ?_
      intro wc hcalm
      try dsimp only at hcalm
      obtain ⟨w9, hW9⟩ : ∃ W, W = wc := ⟨_, rfl⟩
      subst hW9
      have HB_9 := hid (hcalm.1 : Below w8.heap.size w8 w9)
      have B_9 := hid (bstep B_8.out HB_9.out)
      have S_9 := HB_9.out.size
      clear hcalm X KX
      have T_9_1 := hid ((HB_9.out.block w1.heap.size (Array.getElem?_eq_some_iff.1 T_8_1.out).1).trans T_8_1.out)
      have T_9_2 := hid ((HB_9.out.block w6.heap.size (Array.getElem?_eq_some_iff.1 T_8_2.out).1).trans T_8_2.out)
      clear m_8_1_0 m_8_1_1 m_8_1_2 z_8_1 m_8_2_0 m_8_2_1 m_8_2_2 z_8_2
      have m_9_1_0 : w9.cell? ⟨w1.heap.size, 0, none⟩ = some (.int .i64 x) := by rw [cell_of_row w9 _ _ _ _ (0, 0) T_9_1.out]; rfl
      have m_9_1_1 : w9.cell? ⟨w1.heap.size, 1, none⟩ = some (.int .i64 y) := by rw [cell_of_row w9 _ _ _ _ (0, 0) T_9_1.out]; rfl
      have m_9_1_2 : w9.cell? ⟨w1.heap.size, 2, none⟩ = some (.int .i64 z) := by rw [cell_of_row w9 _ _ _ _ (0, 0) T_9_1.out]; rfl
      have z_9_1 : w1.heap.size < w9.heap.size := (Array.getElem?_eq_some_iff.1 T_9_1.out).1
      have m_9_2_0 : w9.cell? ⟨w6.heap.size, 0, none⟩ = some (.int .i64 (x + ins.sum - P - (outs.sum - Q))) := by rw [cell_of_row w9 _ _ _ _ (0, 0) T_9_2.out]; rfl
      have m_9_2_1 : w9.cell? ⟨w6.heap.size, 1, none⟩ = some (.int .i64 y) := by rw [cell_of_row w9 _ _ _ _ (0, 0) T_9_2.out]; rfl
      have m_9_2_2 : w9.cell? ⟨w6.heap.size, 2, none⟩ = some (.int .i64 z) := by rw [cell_of_row w9 _ _ _ _ (0, 0) T_9_2.out]; rfl
      have z_9_2 : w6.heap.size < w9.heap.size := (Array.getElem?_eq_some_iff.1 T_9_2.out).1
      clear hcl
      go_wp2
      go_loopg [23] n (fun g i wr => ∃ k : Nat, k ≤ n ∧ g = n - k ∧ i = .int .i64 k ∧ Hid (Below w9.heap.size w9 wr))
      case atStart => exact ⟨0, Nat.zero_le _, rfl, rfl, hid (Below.refl _ _)⟩
      case round =>
        obtain ⟨k, hk, rfl, rfl, hh⟩ := hrel
        obtain ⟨w10, hW10⟩ : ∃ W, W = wr := ⟨_, rfl⟩
        subst hW10
        have HB_10 := hh
        have B_10 := hid (bstep B_9.out HB_10.out)
        have S_10 := HB_10.out.size
        have T_10_1 := hid ((HB_10.out.block w1.heap.size (Array.getElem?_eq_some_iff.1 T_9_1.out).1).trans T_9_1.out)
        have T_10_2 := hid ((HB_10.out.block w6.heap.size (Array.getElem?_eq_some_iff.1 T_9_2.out).1).trans T_9_2.out)
        clear m_9_1_0 m_9_1_1 m_9_1_2 z_9_1 m_9_2_0 m_9_2_1 m_9_2_2 z_9_2
        have m_10_1_0 : w10.cell? ⟨w1.heap.size, 0, none⟩ = some (.int .i64 x) := by rw [cell_of_row w10 _ _ _ _ (0, 0) T_10_1.out]; rfl
        have m_10_1_1 : w10.cell? ⟨w1.heap.size, 1, none⟩ = some (.int .i64 y) := by rw [cell_of_row w10 _ _ _ _ (0, 0) T_10_1.out]; rfl
        have m_10_1_2 : w10.cell? ⟨w1.heap.size, 2, none⟩ = some (.int .i64 z) := by rw [cell_of_row w10 _ _ _ _ (0, 0) T_10_1.out]; rfl
        have z_10_1 : w1.heap.size < w10.heap.size := (Array.getElem?_eq_some_iff.1 T_10_1.out).1
        have m_10_2_0 : w10.cell? ⟨w6.heap.size, 0, none⟩ = some (.int .i64 (x + ins.sum - P - (outs.sum - Q))) := by rw [cell_of_row w10 _ _ _ _ (0, 0) T_10_2.out]; rfl
        have m_10_2_1 : w10.cell? ⟨w6.heap.size, 1, none⟩ = some (.int .i64 y) := by rw [cell_of_row w10 _ _ _ _ (0, 0) T_10_2.out]; rfl
        have m_10_2_2 : w10.cell? ⟨w6.heap.size, 2, none⟩ = some (.int .i64 z) := by rw [cell_of_row w10 _ _ _ _ (0, 0) T_10_2.out]; rfl
        have z_10_2 : w6.heap.size < w10.heap.size := (Array.getElem?_eq_some_iff.1 T_10_2.out).1
        by_cases hlt9 : k < n
        · have O_l1_10 := hid ((O_l1_8.out.below HB_9.out).below HB_10.out)
          have hcl := O_l1_10.out.cell (k := k) hlt9
          have hle9 := HLV.out k hlt9
          have hle8 : ¬ (levelsOf y z x ins outs n)[k]?.getD 0 < y := by omega
          have hle7 : ¬ z < (levelsOf y z x ins outs n)[k]?.getD 0 := by omega
          have hgl9 : gl < w10.heap.size := by omega
          go_upto_region 19 with fail
          go_quiet (fail)
          go_wp2
          go_roundg (n - (k + 1))
          case rel => exact ⟨k + 1, by omega, rfl, by go_num, hid (bstep hh.out (bdraws _))⟩
          case measure => omega
        · obtain rfl : n = k := by omega
          go_wp2_with fail
          refine (s_DrawStepTank _ _ _ _ ((H_code.out.below B_10.out).below (by go_grown))).mono ?_
          rintro e w11 ⟨t1, t2, t3, u, v, rfl, hb, hu, hv⟩
          have HB_11 := hid (bstep (by go_grown) hb : Below w10.heap.size w10 w11)
          have B_11 := hid (bstep B_10.out HB_11.out)
          have S_11 := HB_11.out.size
          have T_11_1 := hid ((HB_11.out.block w1.heap.size (Array.getElem?_eq_some_iff.1 T_10_1.out).1).trans T_10_1.out)
          have T_11_2 := hid ((HB_11.out.block w6.heap.size (Array.getElem?_eq_some_iff.1 T_10_2.out).1).trans T_10_2.out)
          clear m_10_1_0 m_10_1_1 m_10_1_2 z_10_1 m_10_2_0 m_10_2_1 m_10_2_2 z_10_2
          have m_11_1_0 : w11.cell? ⟨w1.heap.size, 0, none⟩ = some (.int .i64 x) := by rw [cell_of_row w11 _ _ _ _ (0, 0) T_11_1.out]; rfl
          have m_11_1_1 : w11.cell? ⟨w1.heap.size, 1, none⟩ = some (.int .i64 y) := by rw [cell_of_row w11 _ _ _ _ (0, 0) T_11_1.out]; rfl
          have m_11_1_2 : w11.cell? ⟨w1.heap.size, 2, none⟩ = some (.int .i64 z) := by rw [cell_of_row w11 _ _ _ _ (0, 0) T_11_1.out]; rfl
          have z_11_1 : w1.heap.size < w11.heap.size := (Array.getElem?_eq_some_iff.1 T_11_1.out).1
          have m_11_2_0 : w11.cell? ⟨w6.heap.size, 0, none⟩ = some (.int .i64 (x + ins.sum - P - (outs.sum - Q))) := by rw [cell_of_row w11 _ _ _ _ (0, 0) T_11_2.out]; rfl
          have m_11_2_1 : w11.cell? ⟨w6.heap.size, 1, none⟩ = some (.int .i64 y) := by rw [cell_of_row w11 _ _ _ _ (0, 0) T_11_2.out]; rfl
          have m_11_2_2 : w11.cell? ⟨w6.heap.size, 2, none⟩ = some (.int .i64 z) := by rw [cell_of_row w11 _ _ _ _ (0, 0) T_11_2.out]; rfl
          have z_11_2 : w6.heap.size < w11.heap.size := (Array.getElem?_eq_some_iff.1 T_11_2.out).1
          clear hb
          clear hu hv
          obtain ⟨L, A, B, S, M, k, hst⟩ : ∃ L A B S M k, stepR t1 t2 t3 u v = (L, A, B, S, M, k) := ⟨_, _, _, _, _, _, rfl⟩
          have HST := hid hst
          clear hst
          go_wp2_with fail
          refine (i_StepTank _ _ _ _ _ _ _ _ _ _ _ _ HST.out).mono ?_
          rintro e w12 ⟨rfl, hb⟩
          have HB_12 := hid (bstep (by go_grown) hb : Below w11.heap.size w11 w12)
          have B_12 := hid (bstep B_11.out HB_12.out)
          have S_12 := HB_12.out.size
          have T_12_1 := hid ((HB_12.out.block w1.heap.size (Array.getElem?_eq_some_iff.1 T_11_1.out).1).trans T_11_1.out)
          have T_12_2 := hid ((HB_12.out.block w6.heap.size (Array.getElem?_eq_some_iff.1 T_11_2.out).1).trans T_11_2.out)
          have T_12_3 : Hid (w12.heap[w11.heap.size]? = some (.cells #[.int .i64 t1, .int .i64 t2, .int .i64 t3] 25 (0, 0))) := hid (by rw [hb.block _ (by simp <;> omega)]; exact heap_alloc_new _ _)
          clear m_11_1_0 m_11_1_1 m_11_1_2 z_11_1 m_11_2_0 m_11_2_1 m_11_2_2 z_11_2
          have m_12_3_0 : w12.cell? ⟨w11.heap.size, 0, none⟩ = some (.int .i64 t1) := by rw [cell_of_row w12 _ _ _ _ (0, 0) T_12_3.out]; rfl
          have m_12_3_1 : w12.cell? ⟨w11.heap.size, 1, none⟩ = some (.int .i64 t2) := by rw [cell_of_row w12 _ _ _ _ (0, 0) T_12_3.out]; rfl
          have m_12_3_2 : w12.cell? ⟨w11.heap.size, 2, none⟩ = some (.int .i64 t3) := by rw [cell_of_row w12 _ _ _ _ (0, 0) T_12_3.out]; rfl
          have z_12_3 : w11.heap.size < w12.heap.size := (Array.getElem?_eq_some_iff.1 T_12_3.out).1
          clear hb
          go_wp2_with fail
          refine (s_StepTank _ _ _ _ _ _ _ _ _ _ _ _ HST.out).mono ?_
          rintro e w13 ⟨rfl, hb⟩
          have HB_13 := hid (bstep (by go_grown) hb : Below w12.heap.size w12 w13)
          have B_13 := hid (bstep B_12.out HB_13.out)
          have S_13 := HB_13.out.size
          have T_13_1 := hid ((HB_13.out.block w1.heap.size (Array.getElem?_eq_some_iff.1 T_12_1.out).1).trans T_12_1.out)
          have T_13_2 := hid ((HB_13.out.block w6.heap.size (Array.getElem?_eq_some_iff.1 T_12_2.out).1).trans T_12_2.out)
          have T_13_3 := hid ((HB_13.out.block w11.heap.size (Array.getElem?_eq_some_iff.1 T_12_3.out).1).trans T_12_3.out)
          have T_13_4 : Hid (w13.heap[w12.heap.size]? = some (.cells #[.int .i64 L, .int .i64 A, .int .i64 B] 25 (0, 0))) := hid (by rw [hb.block _ (by simp <;> omega)]; exact heap_alloc_new _ _)
          clear m_12_3_0 m_12_3_1 m_12_3_2 z_12_3
          have m_13_3_0 : w13.cell? ⟨w11.heap.size, 0, none⟩ = some (.int .i64 t1) := by rw [cell_of_row w13 _ _ _ _ (0, 0) T_13_3.out]; rfl
          have m_13_3_1 : w13.cell? ⟨w11.heap.size, 1, none⟩ = some (.int .i64 t2) := by rw [cell_of_row w13 _ _ _ _ (0, 0) T_13_3.out]; rfl
          have m_13_3_2 : w13.cell? ⟨w11.heap.size, 2, none⟩ = some (.int .i64 t3) := by rw [cell_of_row w13 _ _ _ _ (0, 0) T_13_3.out]; rfl
          have z_13_3 : w11.heap.size < w13.heap.size := (Array.getElem?_eq_some_iff.1 T_13_3.out).1
          have m_13_4_0 : w13.cell? ⟨w12.heap.size, 0, none⟩ = some (.int .i64 L) := by rw [cell_of_row w13 _ _ _ _ (0, 0) T_13_4.out]; rfl
          have m_13_4_1 : w13.cell? ⟨w12.heap.size, 1, none⟩ = some (.int .i64 A) := by rw [cell_of_row w13 _ _ _ _ (0, 0) T_13_4.out]; rfl
          have m_13_4_2 : w13.cell? ⟨w12.heap.size, 2, none⟩ = some (.int .i64 B) := by rw [cell_of_row w13 _ _ _ _ (0, 0) T_13_4.out]; rfl
          have z_13_4 : w12.heap.size < w13.heap.size := (Array.getElem?_eq_some_iff.1 T_13_4.out).1
          clear hb
          cases k
          · go_wp2
            go_ret
            refine ⟨rfl, bstep B_13.out (by go_grown)⟩
          · obtain ⟨e1, hg, r1, r2, r3, r4, r5, r6⟩ := stepR_yes HST.out
            have HGT := hid hg
            clear hg
            have hw1 := IntWalk.i64_in (t1 + u) (by omega)
            have hw2 := IntWalk.i64_in (t1 + u - S) (by omega)
            have hw3 := IntWalk.i64_in (t1 + u - S - v) (by omega)
            have hw4 := IntWalk.i64_in (t1 + u - S - v + M) (by omega)
            have he : (L == t1 + u - S - v + M) = true := by simpa using e1
            clear e1
            go_wp2_with fail
            refine (i_IsValidTank _ _ _ _).mono ?_
            rintro e w14 ⟨rfl, hb⟩
            have HB_14 := hid (bstep (by go_grown) hb : Below w13.heap.size w13 w14)
            have B_14 := hid (bstep B_13.out HB_14.out)
            have S_14 := HB_14.out.size
            have T_14_1 := hid ((HB_14.out.block w1.heap.size (Array.getElem?_eq_some_iff.1 T_13_1.out).1).trans T_13_1.out)
            have T_14_2 := hid ((HB_14.out.block w6.heap.size (Array.getElem?_eq_some_iff.1 T_13_2.out).1).trans T_13_2.out)
            have T_14_3 := hid ((HB_14.out.block w11.heap.size (Array.getElem?_eq_some_iff.1 T_13_3.out).1).trans T_13_3.out)
            have T_14_4 := hid ((HB_14.out.block w12.heap.size (Array.getElem?_eq_some_iff.1 T_13_4.out).1).trans T_13_4.out)
            have T_14_5 : Hid (w14.heap[w13.heap.size]? = some (.cells #[.int .i64 L, .int .i64 A, .int .i64 B] 25 (0, 0))) := hid (by rw [hb.block _ (by simp <;> omega)]; exact heap_alloc_new _ _)
            clear m_13_3_0 m_13_3_1 m_13_3_2 z_13_3 m_13_4_0 m_13_4_1 m_13_4_2 z_13_4
            have m_14_3_0 : w14.cell? ⟨w11.heap.size, 0, none⟩ = some (.int .i64 t1) := by rw [cell_of_row w14 _ _ _ _ (0, 0) T_14_3.out]; rfl
            have m_14_3_1 : w14.cell? ⟨w11.heap.size, 1, none⟩ = some (.int .i64 t2) := by rw [cell_of_row w14 _ _ _ _ (0, 0) T_14_3.out]; rfl
            have m_14_3_2 : w14.cell? ⟨w11.heap.size, 2, none⟩ = some (.int .i64 t3) := by rw [cell_of_row w14 _ _ _ _ (0, 0) T_14_3.out]; rfl
            have z_14_3 : w11.heap.size < w14.heap.size := (Array.getElem?_eq_some_iff.1 T_14_3.out).1
            have m_14_4_0 : w14.cell? ⟨w12.heap.size, 0, none⟩ = some (.int .i64 L) := by rw [cell_of_row w14 _ _ _ _ (0, 0) T_14_4.out]; rfl
            have m_14_4_1 : w14.cell? ⟨w12.heap.size, 1, none⟩ = some (.int .i64 A) := by rw [cell_of_row w14 _ _ _ _ (0, 0) T_14_4.out]; rfl
            have m_14_4_2 : w14.cell? ⟨w12.heap.size, 2, none⟩ = some (.int .i64 B) := by rw [cell_of_row w14 _ _ _ _ (0, 0) T_14_4.out]; rfl
            have z_14_4 : w12.heap.size < w14.heap.size := (Array.getElem?_eq_some_iff.1 T_14_4.out).1
            have m_14_5_0 : w14.cell? ⟨w13.heap.size, 0, none⟩ = some (.int .i64 L) := by rw [cell_of_row w14 _ _ _ _ (0, 0) T_14_5.out]; rfl
            have m_14_5_1 : w14.cell? ⟨w13.heap.size, 1, none⟩ = some (.int .i64 A) := by rw [cell_of_row w14 _ _ _ _ (0, 0) T_14_5.out]; rfl
            have m_14_5_2 : w14.cell? ⟨w13.heap.size, 2, none⟩ = some (.int .i64 B) := by rw [cell_of_row w14 _ _ _ _ (0, 0) T_14_5.out]; rfl
            have z_14_5 : w13.heap.size < w14.heap.size := (Array.getElem?_eq_some_iff.1 T_14_5.out).1
            clear hb
            rw [HGT.out]
            go_wp2
            go_ret
            refine ⟨rfl, B_14.out⟩
    · have hok : fmOk F = false := by rw [hlt]; simpa using hQ0
      have hqd : decide (0 < Q) = false := by simpa using hQ0
      have hqe : (0 < Q) = False := eq_false hQ0
      rw [hok] at HFM
      clear hlt hlh hok
      go_wp2_with fail
      refine (HRT.out _ (O_ins.out.below (by go_grown)) (O_outs.out.below (by go_grown))).mono ?_
      rintro e w2 ⟨a1, c1, rfl, hb, ho1⟩
      have HB_2 := hid (bstep (by go_grown) hb : Below w1.heap.size w1 w2)
      have B_2 := hid (bstep B_1.out HB_2.out)
      have S_2 := HB_2.out.size
      have T_2_1 : Hid (w2.heap[w1.heap.size]? = some (.cells #[.int .i64 x, .int .i64 y, .int .i64 z] 25 (0, 0))) := hid (by rw [hb.block _ (by simp <;> omega)]; exact heap_alloc_new _ _)
      have m_2_1_0 : w2.cell? ⟨w1.heap.size, 0, none⟩ = some (.int .i64 x) := by rw [cell_of_row w2 _ _ _ _ (0, 0) T_2_1.out]; rfl
      have m_2_1_1 : w2.cell? ⟨w1.heap.size, 1, none⟩ = some (.int .i64 y) := by rw [cell_of_row w2 _ _ _ _ (0, 0) T_2_1.out]; rfl
      have m_2_1_2 : w2.cell? ⟨w1.heap.size, 2, none⟩ = some (.int .i64 z) := by rw [cell_of_row w2 _ _ _ _ (0, 0) T_2_1.out]; rfl
      have z_2_1 : w1.heap.size < w2.heap.size := (Array.getElem?_eq_some_iff.1 T_2_1.out).1
      clear hb
      have O_l1 := hid ho1
      clear ho1
      have O_ins_2 := hid (O_ins.out.below HB_2.out)
      have O_outs_2 := hid (O_outs.out.below HB_2.out)
      go_wp2_with fail
      refine (HRS.out _ (O_ins_2.out.below (by go_grown)) (O_outs_2.out.below (by go_grown))).mono ?_
      rintro e w3 ⟨a2, c2, rfl, hb, ho2⟩
      have HB_3 := hid (bstep (by go_grown) hb : Below w2.heap.size w2 w3)
      have B_3 := hid (bstep B_2.out HB_3.out)
      have S_3 := HB_3.out.size
      have T_3_1 := hid ((HB_3.out.block w1.heap.size (Array.getElem?_eq_some_iff.1 T_2_1.out).1).trans T_2_1.out)
      clear m_2_1_0 m_2_1_1 m_2_1_2 z_2_1
      have m_3_1_0 : w3.cell? ⟨w1.heap.size, 0, none⟩ = some (.int .i64 x) := by rw [cell_of_row w3 _ _ _ _ (0, 0) T_3_1.out]; rfl
      have m_3_1_1 : w3.cell? ⟨w1.heap.size, 1, none⟩ = some (.int .i64 y) := by rw [cell_of_row w3 _ _ _ _ (0, 0) T_3_1.out]; rfl
      have m_3_1_2 : w3.cell? ⟨w1.heap.size, 2, none⟩ = some (.int .i64 z) := by rw [cell_of_row w3 _ _ _ _ (0, 0) T_3_1.out]; rfl
      have z_3_1 : w1.heap.size < w3.heap.size := (Array.getElem?_eq_some_iff.1 T_3_1.out).1
      clear hb
      have O_l2 := hid ho2
      clear ho2
      have O_l1_3 := hid (O_l1.out.below HB_3.out)
      go_upto_region 6 with fail
      have KX : Hid (∀ wy w5 : World, (Below w3.heap.size w3 wy ∧ wy.cell? ⟨w1.heap.size, 0, none⟩ = some (.int .i64 x) ∧ wy.cell? ⟨w1.heap.size, 1, none⟩ = some (.int .i64 y) ∧ wy.cell? ⟨w1.heap.size, 2, none⟩ = some (.int .i64 z)) → Below wy.heap.size wy w5 → (Below w3.heap.size w3 w5 ∧ w5.cell? ⟨w1.heap.size, 0, none⟩ = some (.int .i64 x) ∧ w5.cell? ⟨w1.heap.size, 1, none⟩ = some (.int .i64 y) ∧ w5.cell? ⟨w1.heap.size, 2, none⟩ = some (.int .i64 z))) := hid (fun wy w5 hq hb => ⟨bstep hq.1 hb, (hb.cell (World.block_lt_of_cell? wy _ hq.2.1)).trans hq.2.1, (hb.cell (World.block_lt_of_cell? wy _ hq.2.2.1)).trans hq.2.2.1, (hb.cell (World.block_lt_of_cell? wy _ hq.2.2.2)).trans hq.2.2.2⟩)
      have X := hid (show Below w3.heap.size w3 w3.drew ∧ w3.drew.cell? ⟨w1.heap.size, 0, none⟩ = some (.int .i64 x) ∧ w3.drew.cell? ⟨w1.heap.size, 1, none⟩ = some (.int .i64 y) ∧ w3.drew.cell? ⟨w1.heap.size, 2, none⟩ = some (.int .i64 z) from ⟨(Below.refl _ _).drew, m_3_1_0, m_3_1_1, m_3_1_2⟩)
      refine wp_region_calm (C := (fun w' => Below w3.heap.size w3 w' ∧ w'.cell? ⟨w1.heap.size, 0, none⟩ = some (.int .i64 x) ∧ w'.cell? ⟨w1.heap.size, 1, none⟩ = some (.int .i64 y) ∧ w'.cell? ⟨w1.heap.size, 2, none⟩ = some (.int .i64 z))) (by kernel_rfl) (by kernel_rfl) (X.out) ?_
      repeat
        first
          | go_big_quiet_skip
          | (go_big_quiet_want
             first
               | (unfold Oper.quiet
                  apply Exists.intro
                  refine ⟨fun wq hq => ?_, ?_⟩
                  · (try dsimp only at hq
                     simp [go_sem, Oper.quietAt, Oper.quietUpon, BigFrame.eval_const, BigFrame.eval_global, BigFrame.eval_func, ↓IntWalk.iteOmega, *]
                     first | done | rfl | (first | (refine calm_call hq KX.out (l_vInts_same _ _ n _ _ (levelsOf y z x ins outs n) _ (O_l1_3.out.at.below hq.1) (O_l2.out.at.below hq.1) (by omega)) rfl) | (refine calm_call hq KX.out (i_IsValidTank _ _ _ _) rfl) | (refine calm_call hq KX.out (s_IsValidTank _ _ _ _) rfl)))
                  simp only [Act.put, List.setIfInBounds_toArray, List.set_cons_succ, List.set_cons_zero]
                  go_big_quiet_on))
      refine wpQuiet_nil ?_
      intro wc hcalm
      try dsimp only at hcalm
      obtain ⟨w4, hW4⟩ : ∃ W, W = wc := ⟨_, rfl⟩
      subst hW4
      have HB_4 := hid (hcalm.1 : Below w3.heap.size w3 w4)
      have B_4 := hid (bstep B_3.out HB_4.out)
      have S_4 := HB_4.out.size
      clear hcalm X KX
      have T_4_1 := hid ((HB_4.out.block w1.heap.size (Array.getElem?_eq_some_iff.1 T_3_1.out).1).trans T_3_1.out)
      clear m_3_1_0 m_3_1_1 m_3_1_2 z_3_1
      have m_4_1_0 : w4.cell? ⟨w1.heap.size, 0, none⟩ = some (.int .i64 x) := by rw [cell_of_row w4 _ _ _ _ (0, 0) T_4_1.out]; rfl
      have m_4_1_1 : w4.cell? ⟨w1.heap.size, 1, none⟩ = some (.int .i64 y) := by rw [cell_of_row w4 _ _ _ _ (0, 0) T_4_1.out]; rfl
      have m_4_1_2 : w4.cell? ⟨w1.heap.size, 2, none⟩ = some (.int .i64 z) := by rw [cell_of_row w4 _ _ _ _ (0, 0) T_4_1.out]; rfl
      have z_4_1 : w1.heap.size < w4.heap.size := (Array.getElem?_eq_some_iff.1 T_4_1.out).1
      have O_ins_4 := hid ((O_ins_2.out.below HB_3.out).below HB_4.out)
      have O_outs_4 := hid ((O_outs_2.out.below HB_3.out).below HB_4.out)
      go_wp2_with fail
      refine (HWT.out _ (O_ins_4.out.below (by go_grown)) (O_outs_4.out.below (by go_grown))).mono ?_
      rintro e w5 ⟨rfl, hb⟩
      have HB_5 := hid (bstep (by go_grown) hb : Below w4.heap.size w4 w5)
      have B_5 := hid (bstep B_4.out HB_5.out)
      have S_5 := HB_5.out.size
      have T_5_1 := hid ((HB_5.out.block w1.heap.size (Array.getElem?_eq_some_iff.1 T_4_1.out).1).trans T_4_1.out)
      clear m_4_1_0 m_4_1_1 m_4_1_2 z_4_1
      have m_5_1_0 : w5.cell? ⟨w1.heap.size, 0, none⟩ = some (.int .i64 x) := by rw [cell_of_row w5 _ _ _ _ (0, 0) T_5_1.out]; rfl
      have m_5_1_1 : w5.cell? ⟨w1.heap.size, 1, none⟩ = some (.int .i64 y) := by rw [cell_of_row w5 _ _ _ _ (0, 0) T_5_1.out]; rfl
      have m_5_1_2 : w5.cell? ⟨w1.heap.size, 2, none⟩ = some (.int .i64 z) := by rw [cell_of_row w5 _ _ _ _ (0, 0) T_5_1.out]; rfl
      have z_5_1 : w1.heap.size < w5.heap.size := (Array.getElem?_eq_some_iff.1 T_5_1.out).1
      clear hb
      have O_ins_5 := hid (O_ins_4.out.below HB_5.out)
      have O_outs_5 := hid (O_outs_4.out.below HB_5.out)
      go_wp2_with fail
      refine (HRD.out _ (O_ins_5.out.below (by go_grown)) (O_outs_5.out.below (by go_grown))).mono ?_
      rintro e w6 ⟨rfl, hb⟩
      have HB_6 := hid (bstep (by go_grown) hb : Below w5.heap.size w5 w6)
      have B_6 := hid (bstep B_5.out HB_6.out)
      have S_6 := HB_6.out.size
      have T_6_1 := hid ((HB_6.out.block w1.heap.size (Array.getElem?_eq_some_iff.1 T_5_1.out).1).trans T_5_1.out)
      clear m_5_1_0 m_5_1_1 m_5_1_2 z_5_1
      have m_6_1_0 : w6.cell? ⟨w1.heap.size, 0, none⟩ = some (.int .i64 x) := by rw [cell_of_row w6 _ _ _ _ (0, 0) T_6_1.out]; rfl
      have m_6_1_1 : w6.cell? ⟨w1.heap.size, 1, none⟩ = some (.int .i64 y) := by rw [cell_of_row w6 _ _ _ _ (0, 0) T_6_1.out]; rfl
      have m_6_1_2 : w6.cell? ⟨w1.heap.size, 2, none⟩ = some (.int .i64 z) := by rw [cell_of_row w6 _ _ _ _ (0, 0) T_6_1.out]; rfl
      have z_6_1 : w1.heap.size < w6.heap.size := (Array.getElem?_eq_some_iff.1 T_6_1.out).1
      clear hb
      have O_ins_6 := hid (O_ins_5.out.below HB_6.out)
      have O_outs_6 := hid (O_outs_5.out.below HB_6.out)
      go_wp2_with fail
      refine (HIC.out _ (O_ins_6.out.below (by go_grown)) (O_outs_6.out.below (by go_grown))).mono ?_
      rintro e w7 ⟨rfl, hb⟩
      have HB_7 := hid (bstep (by go_grown) hb : Below w6.heap.size w6 w7)
      have B_7 := hid (bstep B_6.out HB_7.out)
      have S_7 := HB_7.out.size
      have T_7_1 := hid ((HB_7.out.block w1.heap.size (Array.getElem?_eq_some_iff.1 T_6_1.out).1).trans T_6_1.out)
      have T_7_2 : Hid (w7.heap[w6.heap.size]? = some (.cells #[.int .i64 (x + ins.sum - P - (outs.sum - Q)), .int .i64 y, .int .i64 z] 25 (0, 0))) := hid (by rw [hb.block _ (by simp <;> omega)]; exact heap_alloc_new _ _)
      clear m_6_1_0 m_6_1_1 m_6_1_2 z_6_1
      have m_7_1_0 : w7.cell? ⟨w1.heap.size, 0, none⟩ = some (.int .i64 x) := by rw [cell_of_row w7 _ _ _ _ (0, 0) T_7_1.out]; rfl
      have m_7_1_1 : w7.cell? ⟨w1.heap.size, 1, none⟩ = some (.int .i64 y) := by rw [cell_of_row w7 _ _ _ _ (0, 0) T_7_1.out]; rfl
      have m_7_1_2 : w7.cell? ⟨w1.heap.size, 2, none⟩ = some (.int .i64 z) := by rw [cell_of_row w7 _ _ _ _ (0, 0) T_7_1.out]; rfl
      have z_7_1 : w1.heap.size < w7.heap.size := (Array.getElem?_eq_some_iff.1 T_7_1.out).1
      have m_7_2_0 : w7.cell? ⟨w6.heap.size, 0, none⟩ = some (.int .i64 (x + ins.sum - P - (outs.sum - Q))) := by rw [cell_of_row w7 _ _ _ _ (0, 0) T_7_2.out]; rfl
      have m_7_2_1 : w7.cell? ⟨w6.heap.size, 1, none⟩ = some (.int .i64 y) := by rw [cell_of_row w7 _ _ _ _ (0, 0) T_7_2.out]; rfl
      have m_7_2_2 : w7.cell? ⟨w6.heap.size, 2, none⟩ = some (.int .i64 z) := by rw [cell_of_row w7 _ _ _ _ (0, 0) T_7_2.out]; rfl
      have z_7_2 : w6.heap.size < w7.heap.size := (Array.getElem?_eq_some_iff.1 T_7_2.out).1
      clear hb
      have O_ins_7 := hid (O_ins_6.out.below HB_7.out)
      have O_outs_7 := hid (O_outs_6.out.below HB_7.out)
      go_wp2_with fail
      refine (HFM.out _ (O_ins_7.out.below (by go_grown)) (O_outs_7.out.below (by go_grown))).mono ?_
      rintro e w8 ⟨rfl, hb⟩
      have HB_8 := hid (bstep (by go_grown) hb : Below w7.heap.size w7 w8)
      have B_8 := hid (bstep B_7.out HB_8.out)
      have S_8 := HB_8.out.size
      have T_8_1 := hid ((HB_8.out.block w1.heap.size (Array.getElem?_eq_some_iff.1 T_7_1.out).1).trans T_7_1.out)
      have T_8_2 := hid ((HB_8.out.block w6.heap.size (Array.getElem?_eq_some_iff.1 T_7_2.out).1).trans T_7_2.out)
      clear m_7_1_0 m_7_1_1 m_7_1_2 z_7_1 m_7_2_0 m_7_2_1 m_7_2_2 z_7_2
      have m_8_1_0 : w8.cell? ⟨w1.heap.size, 0, none⟩ = some (.int .i64 x) := by rw [cell_of_row w8 _ _ _ _ (0, 0) T_8_1.out]; rfl
      have m_8_1_1 : w8.cell? ⟨w1.heap.size, 1, none⟩ = some (.int .i64 y) := by rw [cell_of_row w8 _ _ _ _ (0, 0) T_8_1.out]; rfl
      have m_8_1_2 : w8.cell? ⟨w1.heap.size, 2, none⟩ = some (.int .i64 z) := by rw [cell_of_row w8 _ _ _ _ (0, 0) T_8_1.out]; rfl
      have z_8_1 : w1.heap.size < w8.heap.size := (Array.getElem?_eq_some_iff.1 T_8_1.out).1
      have m_8_2_0 : w8.cell? ⟨w6.heap.size, 0, none⟩ = some (.int .i64 (x + ins.sum - P - (outs.sum - Q))) := by rw [cell_of_row w8 _ _ _ _ (0, 0) T_8_2.out]; rfl
      have m_8_2_1 : w8.cell? ⟨w6.heap.size, 1, none⟩ = some (.int .i64 y) := by rw [cell_of_row w8 _ _ _ _ (0, 0) T_8_2.out]; rfl
      have m_8_2_2 : w8.cell? ⟨w6.heap.size, 2, none⟩ = some (.int .i64 z) := by rw [cell_of_row w8 _ _ _ _ (0, 0) T_8_2.out]; rfl
      have z_8_2 : w6.heap.size < w8.heap.size := (Array.getElem?_eq_some_iff.1 T_8_2.out).1
      clear hb
      have O_l1_8 := hid (((((O_l1_3.out.below HB_4.out).below HB_5.out).below HB_6.out).below HB_7.out).below HB_8.out)
      obtain ⟨gl, rfl, -, hgl⟩ := own_someC O_l1_8.out (by omega)
      have hcl := O_l1_8.out.cell (k := j) q3
      rw [HLA.out] at hcl
      have O_outs_8 := hid (O_outs_7.out.below HB_8.out)
      have O_ins_8 := hid (O_ins_7.out.below HB_8.out)
      go_upto_region 14 with fail
      have KX : Hid (∀ wy w5 : World, (Below w8.heap.size w8 wy ∧ wy.cell? ⟨w1.heap.size, 0, none⟩ = some (.int .i64 x) ∧ wy.cell? ⟨w1.heap.size, 1, none⟩ = some (.int .i64 y) ∧ wy.cell? ⟨w1.heap.size, 2, none⟩ = some (.int .i64 z) ∧ wy.cell? ⟨w6.heap.size, 0, none⟩ = some (.int .i64 (x + ins.sum - P - (outs.sum - Q))) ∧ wy.cell? ⟨w6.heap.size, 1, none⟩ = some (.int .i64 y) ∧ wy.cell? ⟨w6.heap.size, 2, none⟩ = some (.int .i64 z)) → Below wy.heap.size wy w5 → (Below w8.heap.size w8 w5 ∧ w5.cell? ⟨w1.heap.size, 0, none⟩ = some (.int .i64 x) ∧ w5.cell? ⟨w1.heap.size, 1, none⟩ = some (.int .i64 y) ∧ w5.cell? ⟨w1.heap.size, 2, none⟩ = some (.int .i64 z) ∧ w5.cell? ⟨w6.heap.size, 0, none⟩ = some (.int .i64 (x + ins.sum - P - (outs.sum - Q))) ∧ w5.cell? ⟨w6.heap.size, 1, none⟩ = some (.int .i64 y) ∧ w5.cell? ⟨w6.heap.size, 2, none⟩ = some (.int .i64 z))) := hid (fun wy w5 hq hb => ⟨bstep hq.1 hb, (hb.cell (World.block_lt_of_cell? wy _ hq.2.1)).trans hq.2.1, (hb.cell (World.block_lt_of_cell? wy _ hq.2.2.1)).trans hq.2.2.1, (hb.cell (World.block_lt_of_cell? wy _ hq.2.2.2.1)).trans hq.2.2.2.1, (hb.cell (World.block_lt_of_cell? wy _ hq.2.2.2.2.1)).trans hq.2.2.2.2.1, (hb.cell (World.block_lt_of_cell? wy _ hq.2.2.2.2.2.1)).trans hq.2.2.2.2.2.1, (hb.cell (World.block_lt_of_cell? wy _ hq.2.2.2.2.2.2)).trans hq.2.2.2.2.2.2⟩)
      have X := hid (show Below w8.heap.size w8 w8.drew ∧ w8.drew.cell? ⟨w1.heap.size, 0, none⟩ = some (.int .i64 x) ∧ w8.drew.cell? ⟨w1.heap.size, 1, none⟩ = some (.int .i64 y) ∧ w8.drew.cell? ⟨w1.heap.size, 2, none⟩ = some (.int .i64 z) ∧ w8.drew.cell? ⟨w6.heap.size, 0, none⟩ = some (.int .i64 (x + ins.sum - P - (outs.sum - Q))) ∧ w8.drew.cell? ⟨w6.heap.size, 1, none⟩ = some (.int .i64 y) ∧ w8.drew.cell? ⟨w6.heap.size, 2, none⟩ = some (.int .i64 z) from ⟨(Below.refl _ _).drew, m_8_1_0, m_8_1_1, m_8_1_2, m_8_2_0, m_8_2_1, m_8_2_2⟩)
      refine wp_region_calm (C := (fun w' => Below w8.heap.size w8 w' ∧ w'.cell? ⟨w1.heap.size, 0, none⟩ = some (.int .i64 x) ∧ w'.cell? ⟨w1.heap.size, 1, none⟩ = some (.int .i64 y) ∧ w'.cell? ⟨w1.heap.size, 2, none⟩ = some (.int .i64 z) ∧ w'.cell? ⟨w6.heap.size, 0, none⟩ = some (.int .i64 (x + ins.sum - P - (outs.sum - Q))) ∧ w'.cell? ⟨w6.heap.size, 1, none⟩ = some (.int .i64 y) ∧ w'.cell? ⟨w6.heap.size, 2, none⟩ = some (.int .i64 z))) (by kernel_rfl) (by kernel_rfl) (X.out) ?_
      repeat
        first
          | go_big_quiet_skip
          | (go_big_quiet_want
             first
               | (unfold Oper.quiet
                  apply Exists.intro
                  refine ⟨fun wq hq => ?_, ?_⟩
                  · (try dsimp only at hq
                     simp [go_sem, Oper.quietAt, Oper.quietUpon, BigFrame.eval_const, BigFrame.eval_global, BigFrame.eval_func, ↓IntWalk.iteOmega, *]
                     first | done | rfl | (first | (refine calm_same hq (l_vSum _ _ _ outs _ ((O_outs_8.out.below hq.1)) (by omega) HWO.out) rfl) | (refine calm_same hq (l_vSum _ _ _ ins _ ((O_ins_8.out.below hq.1)) (by omega) HWI.out) rfl)))
                  simp only [Act.put, List.setIfInBounds_toArray, List.set_cons_succ, List.set_cons_zero]
                  go_big_quiet_on))
      refine wpQuiet_nil ?_
      intro wc hcalm
      try dsimp only at hcalm
      obtain ⟨w9, hW9⟩ : ∃ W, W = wc := ⟨_, rfl⟩
      subst hW9
      have HB_9 := hid (hcalm.1 : Below w8.heap.size w8 w9)
      have B_9 := hid (bstep B_8.out HB_9.out)
      have S_9 := HB_9.out.size
      clear hcalm X KX
      have T_9_1 := hid ((HB_9.out.block w1.heap.size (Array.getElem?_eq_some_iff.1 T_8_1.out).1).trans T_8_1.out)
      have T_9_2 := hid ((HB_9.out.block w6.heap.size (Array.getElem?_eq_some_iff.1 T_8_2.out).1).trans T_8_2.out)
      clear m_8_1_0 m_8_1_1 m_8_1_2 z_8_1 m_8_2_0 m_8_2_1 m_8_2_2 z_8_2
      have m_9_1_0 : w9.cell? ⟨w1.heap.size, 0, none⟩ = some (.int .i64 x) := by rw [cell_of_row w9 _ _ _ _ (0, 0) T_9_1.out]; rfl
      have m_9_1_1 : w9.cell? ⟨w1.heap.size, 1, none⟩ = some (.int .i64 y) := by rw [cell_of_row w9 _ _ _ _ (0, 0) T_9_1.out]; rfl
      have m_9_1_2 : w9.cell? ⟨w1.heap.size, 2, none⟩ = some (.int .i64 z) := by rw [cell_of_row w9 _ _ _ _ (0, 0) T_9_1.out]; rfl
      have z_9_1 : w1.heap.size < w9.heap.size := (Array.getElem?_eq_some_iff.1 T_9_1.out).1
      have m_9_2_0 : w9.cell? ⟨w6.heap.size, 0, none⟩ = some (.int .i64 (x + ins.sum - P - (outs.sum - Q))) := by rw [cell_of_row w9 _ _ _ _ (0, 0) T_9_2.out]; rfl
      have m_9_2_1 : w9.cell? ⟨w6.heap.size, 1, none⟩ = some (.int .i64 y) := by rw [cell_of_row w9 _ _ _ _ (0, 0) T_9_2.out]; rfl
      have m_9_2_2 : w9.cell? ⟨w6.heap.size, 2, none⟩ = some (.int .i64 z) := by rw [cell_of_row w9 _ _ _ _ (0, 0) T_9_2.out]; rfl
      have z_9_2 : w6.heap.size < w9.heap.size := (Array.getElem?_eq_some_iff.1 T_9_2.out).1
      clear hcl
      go_wp2
      go_loopg [23] n (fun g i wr => ∃ k : Nat, k ≤ n ∧ g = n - k ∧ i = .int .i64 k ∧ Hid (Below w9.heap.size w9 wr))
      case atStart => exact ⟨0, Nat.zero_le _, rfl, rfl, hid (Below.refl _ _)⟩
      case round =>
        obtain ⟨k, hk, rfl, rfl, hh⟩ := hrel
        obtain ⟨w10, hW10⟩ : ∃ W, W = wr := ⟨_, rfl⟩
        subst hW10
        have HB_10 := hh
        have B_10 := hid (bstep B_9.out HB_10.out)
        have S_10 := HB_10.out.size
        have T_10_1 := hid ((HB_10.out.block w1.heap.size (Array.getElem?_eq_some_iff.1 T_9_1.out).1).trans T_9_1.out)
        have T_10_2 := hid ((HB_10.out.block w6.heap.size (Array.getElem?_eq_some_iff.1 T_9_2.out).1).trans T_9_2.out)
        clear m_9_1_0 m_9_1_1 m_9_1_2 z_9_1 m_9_2_0 m_9_2_1 m_9_2_2 z_9_2
        have m_10_1_0 : w10.cell? ⟨w1.heap.size, 0, none⟩ = some (.int .i64 x) := by rw [cell_of_row w10 _ _ _ _ (0, 0) T_10_1.out]; rfl
        have m_10_1_1 : w10.cell? ⟨w1.heap.size, 1, none⟩ = some (.int .i64 y) := by rw [cell_of_row w10 _ _ _ _ (0, 0) T_10_1.out]; rfl
        have m_10_1_2 : w10.cell? ⟨w1.heap.size, 2, none⟩ = some (.int .i64 z) := by rw [cell_of_row w10 _ _ _ _ (0, 0) T_10_1.out]; rfl
        have z_10_1 : w1.heap.size < w10.heap.size := (Array.getElem?_eq_some_iff.1 T_10_1.out).1
        have m_10_2_0 : w10.cell? ⟨w6.heap.size, 0, none⟩ = some (.int .i64 (x + ins.sum - P - (outs.sum - Q))) := by rw [cell_of_row w10 _ _ _ _ (0, 0) T_10_2.out]; rfl
        have m_10_2_1 : w10.cell? ⟨w6.heap.size, 1, none⟩ = some (.int .i64 y) := by rw [cell_of_row w10 _ _ _ _ (0, 0) T_10_2.out]; rfl
        have m_10_2_2 : w10.cell? ⟨w6.heap.size, 2, none⟩ = some (.int .i64 z) := by rw [cell_of_row w10 _ _ _ _ (0, 0) T_10_2.out]; rfl
        have z_10_2 : w6.heap.size < w10.heap.size := (Array.getElem?_eq_some_iff.1 T_10_2.out).1
        by_cases hlt9 : k < n
        · have O_l1_10 := hid ((O_l1_8.out.below HB_9.out).below HB_10.out)
          have hcl := O_l1_10.out.cell (k := k) hlt9
          have hle9 := HLV.out k hlt9
          have hle8 : ¬ (levelsOf y z x ins outs n)[k]?.getD 0 < y := by omega
          have hle7 : ¬ z < (levelsOf y z x ins outs n)[k]?.getD 0 := by omega
          have hgl9 : gl < w10.heap.size := by omega
          go_upto_region 19 with fail
          go_quiet (fail)
          go_wp2
          go_roundg (n - (k + 1))
          case rel => exact ⟨k + 1, by omega, rfl, by go_num, hid (bstep hh.out (bdraws _))⟩
          case measure => omega
        · obtain rfl : n = k := by omega
          go_wp2_with fail
          refine (s_DrawStepTank _ _ _ _ ((H_code.out.below B_10.out).below (by go_grown))).mono ?_
          rintro e w11 ⟨t1, t2, t3, u, v, rfl, hb, hu, hv⟩
          have HB_11 := hid (bstep (by go_grown) hb : Below w10.heap.size w10 w11)
          have B_11 := hid (bstep B_10.out HB_11.out)
          have S_11 := HB_11.out.size
          have T_11_1 := hid ((HB_11.out.block w1.heap.size (Array.getElem?_eq_some_iff.1 T_10_1.out).1).trans T_10_1.out)
          have T_11_2 := hid ((HB_11.out.block w6.heap.size (Array.getElem?_eq_some_iff.1 T_10_2.out).1).trans T_10_2.out)
          clear m_10_1_0 m_10_1_1 m_10_1_2 z_10_1 m_10_2_0 m_10_2_1 m_10_2_2 z_10_2
          have m_11_1_0 : w11.cell? ⟨w1.heap.size, 0, none⟩ = some (.int .i64 x) := by rw [cell_of_row w11 _ _ _ _ (0, 0) T_11_1.out]; rfl
          have m_11_1_1 : w11.cell? ⟨w1.heap.size, 1, none⟩ = some (.int .i64 y) := by rw [cell_of_row w11 _ _ _ _ (0, 0) T_11_1.out]; rfl
          have m_11_1_2 : w11.cell? ⟨w1.heap.size, 2, none⟩ = some (.int .i64 z) := by rw [cell_of_row w11 _ _ _ _ (0, 0) T_11_1.out]; rfl
          have z_11_1 : w1.heap.size < w11.heap.size := (Array.getElem?_eq_some_iff.1 T_11_1.out).1
          have m_11_2_0 : w11.cell? ⟨w6.heap.size, 0, none⟩ = some (.int .i64 (x + ins.sum - P - (outs.sum - Q))) := by rw [cell_of_row w11 _ _ _ _ (0, 0) T_11_2.out]; rfl
          have m_11_2_1 : w11.cell? ⟨w6.heap.size, 1, none⟩ = some (.int .i64 y) := by rw [cell_of_row w11 _ _ _ _ (0, 0) T_11_2.out]; rfl
          have m_11_2_2 : w11.cell? ⟨w6.heap.size, 2, none⟩ = some (.int .i64 z) := by rw [cell_of_row w11 _ _ _ _ (0, 0) T_11_2.out]; rfl
          have z_11_2 : w6.heap.size < w11.heap.size := (Array.getElem?_eq_some_iff.1 T_11_2.out).1
          clear hb
          clear hu hv
          obtain ⟨L, A, B, S, M, k, hst⟩ : ∃ L A B S M k, stepR t1 t2 t3 u v = (L, A, B, S, M, k) := ⟨_, _, _, _, _, _, rfl⟩
          have HST := hid hst
          clear hst
          go_wp2_with fail
          refine (i_StepTank _ _ _ _ _ _ _ _ _ _ _ _ HST.out).mono ?_
          rintro e w12 ⟨rfl, hb⟩
          have HB_12 := hid (bstep (by go_grown) hb : Below w11.heap.size w11 w12)
          have B_12 := hid (bstep B_11.out HB_12.out)
          have S_12 := HB_12.out.size
          have T_12_1 := hid ((HB_12.out.block w1.heap.size (Array.getElem?_eq_some_iff.1 T_11_1.out).1).trans T_11_1.out)
          have T_12_2 := hid ((HB_12.out.block w6.heap.size (Array.getElem?_eq_some_iff.1 T_11_2.out).1).trans T_11_2.out)
          have T_12_3 : Hid (w12.heap[w11.heap.size]? = some (.cells #[.int .i64 t1, .int .i64 t2, .int .i64 t3] 25 (0, 0))) := hid (by rw [hb.block _ (by simp <;> omega)]; exact heap_alloc_new _ _)
          clear m_11_1_0 m_11_1_1 m_11_1_2 z_11_1 m_11_2_0 m_11_2_1 m_11_2_2 z_11_2
          have m_12_3_0 : w12.cell? ⟨w11.heap.size, 0, none⟩ = some (.int .i64 t1) := by rw [cell_of_row w12 _ _ _ _ (0, 0) T_12_3.out]; rfl
          have m_12_3_1 : w12.cell? ⟨w11.heap.size, 1, none⟩ = some (.int .i64 t2) := by rw [cell_of_row w12 _ _ _ _ (0, 0) T_12_3.out]; rfl
          have m_12_3_2 : w12.cell? ⟨w11.heap.size, 2, none⟩ = some (.int .i64 t3) := by rw [cell_of_row w12 _ _ _ _ (0, 0) T_12_3.out]; rfl
          have z_12_3 : w11.heap.size < w12.heap.size := (Array.getElem?_eq_some_iff.1 T_12_3.out).1
          clear hb
          go_wp2_with fail
          refine (s_StepTank _ _ _ _ _ _ _ _ _ _ _ _ HST.out).mono ?_
          rintro e w13 ⟨rfl, hb⟩
          have HB_13 := hid (bstep (by go_grown) hb : Below w12.heap.size w12 w13)
          have B_13 := hid (bstep B_12.out HB_13.out)
          have S_13 := HB_13.out.size
          have T_13_1 := hid ((HB_13.out.block w1.heap.size (Array.getElem?_eq_some_iff.1 T_12_1.out).1).trans T_12_1.out)
          have T_13_2 := hid ((HB_13.out.block w6.heap.size (Array.getElem?_eq_some_iff.1 T_12_2.out).1).trans T_12_2.out)
          have T_13_3 := hid ((HB_13.out.block w11.heap.size (Array.getElem?_eq_some_iff.1 T_12_3.out).1).trans T_12_3.out)
          have T_13_4 : Hid (w13.heap[w12.heap.size]? = some (.cells #[.int .i64 L, .int .i64 A, .int .i64 B] 25 (0, 0))) := hid (by rw [hb.block _ (by simp <;> omega)]; exact heap_alloc_new _ _)
          clear m_12_3_0 m_12_3_1 m_12_3_2 z_12_3
          have m_13_3_0 : w13.cell? ⟨w11.heap.size, 0, none⟩ = some (.int .i64 t1) := by rw [cell_of_row w13 _ _ _ _ (0, 0) T_13_3.out]; rfl
          have m_13_3_1 : w13.cell? ⟨w11.heap.size, 1, none⟩ = some (.int .i64 t2) := by rw [cell_of_row w13 _ _ _ _ (0, 0) T_13_3.out]; rfl
          have m_13_3_2 : w13.cell? ⟨w11.heap.size, 2, none⟩ = some (.int .i64 t3) := by rw [cell_of_row w13 _ _ _ _ (0, 0) T_13_3.out]; rfl
          have z_13_3 : w11.heap.size < w13.heap.size := (Array.getElem?_eq_some_iff.1 T_13_3.out).1
          have m_13_4_0 : w13.cell? ⟨w12.heap.size, 0, none⟩ = some (.int .i64 L) := by rw [cell_of_row w13 _ _ _ _ (0, 0) T_13_4.out]; rfl
          have m_13_4_1 : w13.cell? ⟨w12.heap.size, 1, none⟩ = some (.int .i64 A) := by rw [cell_of_row w13 _ _ _ _ (0, 0) T_13_4.out]; rfl
          have m_13_4_2 : w13.cell? ⟨w12.heap.size, 2, none⟩ = some (.int .i64 B) := by rw [cell_of_row w13 _ _ _ _ (0, 0) T_13_4.out]; rfl
          have z_13_4 : w12.heap.size < w13.heap.size := (Array.getElem?_eq_some_iff.1 T_13_4.out).1
          clear hb
          cases k
          · go_wp2
            go_ret
            refine ⟨rfl, bstep B_13.out (by go_grown)⟩
          · obtain ⟨e1, hg, r1, r2, r3, r4, r5, r6⟩ := stepR_yes HST.out
            have HGT := hid hg
            clear hg
            have hw1 := IntWalk.i64_in (t1 + u) (by omega)
            have hw2 := IntWalk.i64_in (t1 + u - S) (by omega)
            have hw3 := IntWalk.i64_in (t1 + u - S - v) (by omega)
            have hw4 := IntWalk.i64_in (t1 + u - S - v + M) (by omega)
            have he : (L == t1 + u - S - v + M) = true := by simpa using e1
            clear e1
            go_wp2_with fail
            refine (i_IsValidTank _ _ _ _).mono ?_
            rintro e w14 ⟨rfl, hb⟩
            have HB_14 := hid (bstep (by go_grown) hb : Below w13.heap.size w13 w14)
            have B_14 := hid (bstep B_13.out HB_14.out)
            have S_14 := HB_14.out.size
            have T_14_1 := hid ((HB_14.out.block w1.heap.size (Array.getElem?_eq_some_iff.1 T_13_1.out).1).trans T_13_1.out)
            have T_14_2 := hid ((HB_14.out.block w6.heap.size (Array.getElem?_eq_some_iff.1 T_13_2.out).1).trans T_13_2.out)
            have T_14_3 := hid ((HB_14.out.block w11.heap.size (Array.getElem?_eq_some_iff.1 T_13_3.out).1).trans T_13_3.out)
            have T_14_4 := hid ((HB_14.out.block w12.heap.size (Array.getElem?_eq_some_iff.1 T_13_4.out).1).trans T_13_4.out)
            have T_14_5 : Hid (w14.heap[w13.heap.size]? = some (.cells #[.int .i64 L, .int .i64 A, .int .i64 B] 25 (0, 0))) := hid (by rw [hb.block _ (by simp <;> omega)]; exact heap_alloc_new _ _)
            clear m_13_3_0 m_13_3_1 m_13_3_2 z_13_3 m_13_4_0 m_13_4_1 m_13_4_2 z_13_4
            have m_14_3_0 : w14.cell? ⟨w11.heap.size, 0, none⟩ = some (.int .i64 t1) := by rw [cell_of_row w14 _ _ _ _ (0, 0) T_14_3.out]; rfl
            have m_14_3_1 : w14.cell? ⟨w11.heap.size, 1, none⟩ = some (.int .i64 t2) := by rw [cell_of_row w14 _ _ _ _ (0, 0) T_14_3.out]; rfl
            have m_14_3_2 : w14.cell? ⟨w11.heap.size, 2, none⟩ = some (.int .i64 t3) := by rw [cell_of_row w14 _ _ _ _ (0, 0) T_14_3.out]; rfl
            have z_14_3 : w11.heap.size < w14.heap.size := (Array.getElem?_eq_some_iff.1 T_14_3.out).1
            have m_14_4_0 : w14.cell? ⟨w12.heap.size, 0, none⟩ = some (.int .i64 L) := by rw [cell_of_row w14 _ _ _ _ (0, 0) T_14_4.out]; rfl
            have m_14_4_1 : w14.cell? ⟨w12.heap.size, 1, none⟩ = some (.int .i64 A) := by rw [cell_of_row w14 _ _ _ _ (0, 0) T_14_4.out]; rfl
            have m_14_4_2 : w14.cell? ⟨w12.heap.size, 2, none⟩ = some (.int .i64 B) := by rw [cell_of_row w14 _ _ _ _ (0, 0) T_14_4.out]; rfl
            have z_14_4 : w12.heap.size < w14.heap.size := (Array.getElem?_eq_some_iff.1 T_14_4.out).1
            have m_14_5_0 : w14.cell? ⟨w13.heap.size, 0, none⟩ = some (.int .i64 L) := by rw [cell_of_row w14 _ _ _ _ (0, 0) T_14_5.out]; rfl
            have m_14_5_1 : w14.cell? ⟨w13.heap.size, 1, none⟩ = some (.int .i64 A) := by rw [cell_of_row w14 _ _ _ _ (0, 0) T_14_5.out]; rfl
            have m_14_5_2 : w14.cell? ⟨w13.heap.size, 2, none⟩ = some (.int .i64 B) := by rw [cell_of_row w14 _ _ _ _ (0, 0) T_14_5.out]; rfl
            have z_14_5 : w13.heap.size < w14.heap.size := (Array.getElem?_eq_some_iff.1 T_14_5.out).1
            clear hb
            rw [HGT.out]
            go_wp2
            go_ret
            refine ⟨rfl, B_14.out⟩

set_option maxRecDepth 100000 in
theorem fnTanks_lifted (os : Os) (started : os.Started) (H : Type) (enc : TypeId × Value → H) :
    ReturnsInHanded {} Try.checked os 12 .any (Rows.fnTanksSpec.pre6 enc Try.prog Try.f12 Rows.fnTanksRow.domain false) (Rows.fnTanksSpec.post enc Try.prog Try.f12 false true false false) := by
  refine returnsInHanded_of_change (C := Try.checked) Try.own started (by kernel_rfl) Try.func12
    (ChangeSpec.witness6 (enc := enc) (C := Try.checked) false ⟨#[], #[.slice none 0 0], []⟩ 8 (by kernel_rfl) (by kernel_rfl) (by kernel_rfl) (by kernel_rfl)) ?_
  intro W base args ds gs before hval0 hW _ _
  have hval : ∀ (j : Nat) t v, Try.f12.params[j]? = some t → args[j]? = some v → Value.okWide Try.prog W .any base t v := hval0
  have hW' : DataW.Whole enc Try.prog Try.f12.params.toList Rows.fnTanksSpec.vars false W args.toList ds gs before := hW
  obtain ⟨p, q, hA0, hV, rfl, hfz, hnd⟩ := hW
  have hlt : ∀ x ∈ p, x.block < W.heap.size := fun x hx => hW'.lt x (by simp [hx])
  have hA : DataW.TrodAll enc Try.prog W 0 (fun _ => true) true Try.f12.params.toList args.toList ds p := hA0
  rw [Try.params12] at hA hval
  clear hA0 hval0
  obtain ⟨v0, d0, rfl, rfl, h0⟩ := trodAll_one hA
  obtain ⟨rfl, rfl⟩ := trodVars_none hV
  obtain ⟨x0, n0, k0, rfl, g0⟩ := open_bytes (hval 0 46 v0 rfl rfl) h0
  refine (law_FnTanks x0 n0 k0 W g0).mono fun e W' ⟨he, hb⟩ => ?_
  subst he
  exact ⟨_, rfl, law_post rfl rfl (by kernel_rfl) hW' rfl rfl rfl hb⟩

theorem fnTanks_proved : Rows.FnTanksSaid :=
  OpenClaim.holds_of_wide 12 Try.f12 rfl rfl rfl rfl rfl rfl rfl ⟨rfl, rfl, rfl, rfl, rfl⟩ rfl rfl rfl rfl rfl (by kernel_rfl) Try.func12 (by kernel_rfl)
    (of_decide_eq_true (by kernel_rfl)) (by unfold Func.isWrapper; first | (rw [if_pos (by decide +kernel)]; kernel_rfl) | (rw [if_neg (by decide +kernel)]; exact ⟨rfl, rfl⟩))
    (fun os started H enc _ => fnTanks_lifted os started H enc)

end Go.Proofs.Ytbeeonpefmdkeaa
